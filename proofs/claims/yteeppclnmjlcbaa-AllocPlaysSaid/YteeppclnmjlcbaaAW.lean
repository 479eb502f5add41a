/- The walk over the reference of package alloc: Take. -/
import Derived.Test.YteeppclnmjlcbaaAV
import Derived.Deep.RegionHeld3
namespace Go.Proofs.Yteeppclnmjlcbaa
open Go.RowKit Go.Amb
set_option linter.unusedVariables false

theorem runN_min (B n : Nat) : ∀ (k i m : Nat), k ≤ runN B n i m → runN B n i k = k := by
  intro k
  induction k with
  | zero => intro i m _; rfl
  | succ k ih =>
    intro i m h
    have hf := runN_free B n m i 0 (by omega)
    rw [Nat.add_zero] at hf
    rw [runN_go (by omega) hf.1 hf.2, Nat.add_sub_cancel]
    have hm : 0 < m := by have := runN_le B n m i; omega
    rw [runN_go hm hf.1 hf.2] at h
    rw [ih (i + 1) (m - 1) (by omega)]
/-- The first row that is long enough begins where find finds. -/
theorem rows_find {B n k : Nat} (hk : 0 < k) : ∀ (f i : Nat), n + 1 ≤ i + f → (∀ j, j < i → j < n → runN B n j k ≠ k) → (rowsFrom B n f i).find? (fun p => decide (k ≤ p.2)) = (findN B n k).map fun i => (i, runN B n i n) := by
  intro f
  induction f with
  | zero =>
    intro i hf hb
    rw [findN_none fun j hj => hb j (by omega) hj]; rfl
  | succ f ih =>
    intro i hf hb
    rw [rowsFrom]
    by_cases hin : i < n
    · rw [if_pos hin]
      by_cases h0 : runN B n i n = 0
      · rw [if_pos h0]
        refine ih (i + 1) (by omega) fun j hj hjn => ?_
        by_cases e : j = i
        · subst e
          intro h
          have hfr := runN_free B n k j 0 (by omega)
          rw [Nat.add_zero] at hfr
          rw [runN_go (by omega) hfr.1 hfr.2] at h0
          omega
        · exact hb j (by omega) hjn
      · rw [if_neg h0, List.find?_cons]
        by_cases hle : k ≤ runN B n i n
        · rw [show decide (k ≤ (i, runN B n i n).2) = true by simpa using hle]
          rw [findN_some hin (runN_min B n k i n hle) fun j hj => hb j hj (by omega)]
          rfl
        · rw [show decide (k ≤ (i, runN B n i n).2) = false by simpa using hle]
          refine ih (i + runN B n i n + 1) (by omega) fun j hj hjn => ?_
          by_cases e : j < i
          · exact hb j e hjn
          · have hend : ¬ (i + runN B n i n < n ∧ B.testBit (i + runN B n i n) = false) := by
              by_cases hr : runN B n i n < n
              · exact runN_end B n n i hr
              · omega
            have := @runN_block B n j (i + runN B n i n) k hend (by omega)
            omega
    · rw [if_neg hin, findN_none fun j hj => hb j (by omega) hj]; rfl
theorem rowsN_find {B n k : Nat} (hk : 0 < k) : (rowsN B n).find? (fun p => decide (k ≤ p.2)) = (findN B n k).map fun i => (i, runN B n i n) :=
  rows_find hk (n + 1) 0 (by omega) fun j hj => by omega
theorem rowsFrom_length (B n : Nat) : ∀ (f i : Nat), (rowsFrom B n f i).length ≤ f := by
  intro f
  induction f with
  | zero => intro i; exact Nat.le_refl _
  | succ f ih =>
    intro i
    rw [rowsFrom]
    split
    · split
      · have := ih (i + 1); omega
      · have := ih (i + runN B n i n + 1); simp; omega
    · simp
theorem rowsN_length (B n : Nat) : (rowsN B n).length ≤ n + 1 := rowsFrom_length B n (n + 1) 0
theorem find_hit {l : List (Nat × Nat)} {P : Nat × Nat → Bool} {i : Nat} {p : Nat × Nat} (hb : ∀ j q, j < i → l[j]? = some q → P q = false) (hp : l[i]? = some p) (h : P p = true) : l.find? P = some p := by
  obtain ⟨hi, rfl⟩ := List.getElem?_eq_some_iff.1 hp
  rw [List.find?_eq_some_iff_getElem]
  exact ⟨h, i, hi, rfl, fun j hj => by simp [hb j _ hj (List.getElem?_eq_getElem (by omega))]⟩
theorem find_miss {l : List (Nat × Nat)} {P : Nat × Nat → Bool} (hb : ∀ j q, j < l.length → l[j]? = some q → P q = false) : l.find? P = none := by
  rw [List.find?_eq_none]
  intro x hx
  obtain ⟨j, hj, rfl⟩ := List.getElem_of_mem hx
  simp [hb j _ hj (List.getElem?_eq_getElem hj)]
/-- Pages are told, a page, and an answer. -/
def Ref3 (v : Value) (i f : Int) (B n : Nat) (w : World) : Ending → World → Prop := fun e w' => ∃ v', e = .returned (.tuple #[.agg #[v'], .int .i64 i, .int .i64 f]) ∧ Pages w' v' B n ∧ Upd Non w w' ∧ ∀ k, At v' k → At v k ∨ w.heap.size ≤ k
theorem keep2 {w3 : World} {N gr o : Nat} {v x u : Value} (hgr : N + 2 ≤ gr) (y3 : w3.cell? ⟨N, 0, none⟩ = some v) (y1 : w3.cell? ⟨gr, o, none⟩ = some x) :
    (w3.setCell ⟨N + 1, 0, none⟩ u).cell? ⟨N, 0, none⟩ = some v ∧ (w3.setCell ⟨N + 1, 0, none⟩ u).cell? ⟨gr, o, none⟩ = some x := by
  have hu := Upd.setCell (S := fun k => k = N + 1) w3 (a := ⟨N + 1, 0, none⟩) rfl u
  exact ⟨hu.cell y3 (by dsimp only; omega), hu.cell y1 (by dsimp only; omega)⟩
set_option maxHeartbeats 4000000 in
theorem refTake (v : Value) (n B : Nat) (k : Int) (w : World) (h : Pages w v B n) (hn : 1 ≤ n ∧ n ≤ 16384) (hk : k < 9223372036854775808) : Calls Try.prog 31 #[.agg #[v], .int .i64 k] w (Ref3 v (takeV B n k).1 (takeV B n k).2.1 (takeV B n k).2.2 n w) := by
  have hH := Lib.hid h
  obtain ⟨a, c, rfl, hnc, hcm, -⟩ := pages_at h
  clear h
  by_cases h1 : k < 1
  · have hE : takeV B n k = (0, 2, B) := if_pos h1
    rw [hE]
    clear hE hk
    go_enter Try.func31, Try.ntmps31
    go_wp2_with fail
    go_returns
    exact ⟨_, rfl, hH.out.non (by (repeat (first | (with_reducible exact Upd.refl _ _) | (with_reducible assumption) | (with_reducible refine Upd.then_drew ?_) | (with_reducible refine Upd.then_drewN ?_ _) | (with_reducible refine Upd.then_alloc ?_ _) | (with_reducible refine Upd.then_setCell ?_ (fun h => absurd h (by simp <;> omega)) _) | (with_reducible refine Upd.trans ?_ (Upd.non (by assumption)) (fun _ _ h => h))))), by (repeat (first | (with_reducible exact Upd.refl _ _) | (with_reducible assumption) | (with_reducible refine Upd.then_drew ?_) | (with_reducible refine Upd.then_drewN ?_ _) | (with_reducible refine Upd.then_alloc ?_ _) | (with_reducible refine Upd.then_setCell ?_ (fun h => absurd h (by simp <;> omega)) _) | (with_reducible refine Upd.trans ?_ (Upd.non (by assumption)) (fun _ _ h => h)))), fun k hk => .inl hk⟩
  · obtain ⟨m, rfl⟩ := Int.eq_ofNat_of_zero_le (show 0 ≤ k by omega)
    have hm0 : 0 < m := by omega
    have hE : takeV B n (m : Int) = match findN B n m with | none => (0, 10, B) | some i => ((i : Int), 0, setN B i m true) := if_neg h1
    have hfind := rowsN_find (B := B) (n := n) hm0
    obtain ⟨R, hR, hRn, hRs⟩ : ∃ R : Int × Int × Nat, (match findN B n m with | none => (0, 10, B) | some i => ((i : Int), 0, setN B i m true)) = R ∧ Hid ((rowsN B n).find? (fun p => decide (m ≤ p.2)) = none → R = (0, 10, B)) ∧ Hid (∀ p, (rowsN B n).find? (fun p => decide (m ≤ p.2)) = some p → p.1 + m ≤ n ∧ R = ((p.1 : Int), 0, setN B p.1 m true)) := by
      refine ⟨_, rfl, Lib.hid fun h => ?_, Lib.hid fun p h => ?_⟩
      · rw [hfind] at h
        cases hx : findN B n m with
        | none => rfl
        | some i => rw [hx] at h; cases h
      · rw [hfind] at h
        cases hx : findN B n m with
        | none => rw [hx] at h; cases h
        | some i =>
          rw [hx] at h
          injection h with h
          subst h
          exact ⟨(findN_fits hm0 hx).1, rfl⟩
    rw [hE, hR]
    clear hE hR hfind hk
    have hlen := rowsN_length B n
    have hrows := Lib.hid (fun w h => refRows (.slice a n c) n B w h hn)
    generalize hl : rowsN B n = l at *
    clear hl
    go_enter Try.func31, Try.ntmps31
    go_wp2_with fail
    refine (hrows.out _ (hH.out.non (by (repeat (first | (with_reducible exact Upd.refl _ _) | (with_reducible assumption) | (with_reducible refine Upd.then_drew ?_) | (with_reducible refine Upd.then_drewN ?_ _) | (with_reducible refine Upd.then_alloc ?_ _) | (with_reducible refine Upd.then_setCell ?_ (fun h => absurd h (by simp <;> omega)) _) | (with_reducible refine Upd.trans ?_ (Upd.non (by assumption)) (fun _ _ h => h))))))).mono ?_
    rintro e w1 ⟨vr, rfl, hRw, hu, hfr⟩
    have hW := hu.own2 (fun _ h => h.elim)
    have d3 := hW.1 0
    obtain ⟨ar, cr, hvr, _, _, hrc⟩ := rows_at hRw
    subst hvr
    replace hrc := Lib.hid hrc
    clear hRw
    go_wp2_with fail
    go_loopw [8] (fun iv wr => ∃ i : Nat, iv = .int .i64 (i : Int) ∧ i ≤ l.length ∧ (∀ j q, j < i → l[j]? = some q → decide (m ≤ q.2) = false) ∧ Upd Non w1 wr) (fun iv _ => l.length - (intOf iv).toNat)
    case atStart => exact ⟨0, rfl, by omega, fun j q h => by omega, Upd.refl _ _⟩
    case round =>
      obtain ⟨i, rfl, hi, hb, hur⟩ := hrel
      have hW := (hu.trans hur fun _ _ h => h).own2 (fun _ h => h.elim)
      have hU := hW.2.2.2.2.2.2
      have d1 := hW.2.2.1 0
      have d2 := hW.2.2.2.1 0
      have d3 := hW.1 0
      clear hW
      by_cases hil : i < l.length
      · obtain ⟨gr, off, p, rfl, hp, x1, x2⟩ := hrc.out i hil
        have x1 := hur.cell x1 fun h => h
        have hgr : w.heap.size + 2 ≤ gr := by have := (hfr gr rfl).1; simp at this; exact this
        have x2 := hur.cell x2 fun h => h
        have hlt : (i : Int) < (l.length : Int) := by omega
        have hi0 : (0 : Int) ≤ (i : Int) := by omega
        by_cases hge : m ≤ p.2
        · have hge' : (m : Int) ≤ (p.2 : Int) := by omega
          obtain ⟨hfit, rfl⟩ := hRs.out p (find_hit hb hp (by simpa using hge))
          have hw := Lib.hid (fun w h => refWith (.slice a n c) n B p.1 m true w h hn hfit)
          have hHr := Lib.hid (hH.out.non hU)
          have hsz : Hid (w.heap.size + 2 ≤ wr.heap.size) := by have h1 := hu.size; have h2 := hur.size; simp at h1; show _ ≤ _; omega
          clear hb hp
          go_wp2_with fail
          go_region_held3 (fun w' => w'.cell? ⟨w.heap.size, 0, none⟩ = some (.slice a n c) ∧ w'.cell? ⟨gr, off + i * 2, none⟩ = some (.int .i64 (p.1 : Int))) (first | exact keep2 hgr y3 y1 | exact ⟨y3, y1⟩ | exact ⟨d3, x1⟩ | go_keep) ((go_at_call 34; refine (hw.out _ (hHr.out.non (Upd.drew _ _))).mono ?_; rintro e w3 ⟨v1, rfl, hP, hu3, hfresh⟩; obtain ⟨a1, c1, hv1, _⟩ := pages_at hP; subst hv1; have y1 := hu3.cell (a := ⟨gr, off + i * 2, none⟩) x1 fun h => h; have y3 := hu3.cell (a := ⟨w.heap.size, 0, none⟩) d3 fun h => h; have y4 := hu3.cell (a := ⟨w.heap.size + 1, 0, none⟩) d1 fun h => h; have y5 := (World.frozen?_of_block (a := ⟨w.heap.size + 1, 0, none⟩) (hu3.block (w.heap.size + 1) (World.block_lt_of_cell? _ _ d1) fun h => h)).trans d2))
          all_goals
            go_wp2_with fail
            refine bodyPost_ret (v := .tuple #[.agg #[.slice a1 n c1], .int .i64 (p.1 : Int), .int .i64 0]) (by simp [results, Try.results31, go_sem, y4, y5]; try rfl) rfl ?_
            have hs2 := hsz.out
            have hU3 := (hU.then_drew).trans hu3 fun _ _ h => h
            exact ⟨_, rfl, hP.upd (Upd.setCell (S := fun q => q = w.heap.size + 1) w3 rfl _) (fun q hq e => by have := hfresh q hq; simp at this; omega), hU3.then_setCell (fun h => by simp at h; omega) _, fun q hq => .inr (by have := hfresh q hq; simp at this; omega)⟩
        · have hge' : ¬ (m : Int) ≤ (p.2 : Int) := by omega
          have hb2 : ∀ j q, j < i + 1 → l[j]? = some q → decide (m ≤ q.2) = false := by
            intro j q hj hq
            by_cases e : j = i
            · subst e
              rw [hp] at hq
              injection hq with hq
              subst hq
              simpa using hge
            · exact hb j q (by omega) hq
          replace hb2 := Lib.hid hb2
          replace hp := Lib.hid hp
          clear hb
          go_wp2_with fail
          go_roundw
          case rel => exact ⟨i + 1, by go_num, by omega, hb2.out, hur⟩
          case measure => simp [intOf]; omega
      · obtain rfl : i = l.length := by omega
        have hlt : ¬ (l.length : Int) < (l.length : Int) := by omega
        have hnone := hRn.out (find_miss hb)
        clear hb
        subst hnone
        go_wp2_with fail
        refine bodyPost_ret (v := .tuple #[.agg #[.slice a n c], .int .i64 0, .int .i64 10]) (by simp [results, Try.results31, go_sem, d1, d2]; try rfl) rfl ?_
        exact ⟨_, rfl, hH.out.non (hU.then_setCell (fun h => by simp at h; omega) _), hU.then_setCell (fun h => by simp at h; omega) _, fun k hk => .inl hk⟩
end Go.Proofs.Yteeppclnmjlcbaa
