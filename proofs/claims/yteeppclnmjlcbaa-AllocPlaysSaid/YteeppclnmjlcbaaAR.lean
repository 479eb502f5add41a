/- The walks over the reference of package alloc: New, with. -/
import Derived.Test.YteeppclnmjlcbaaAQ
namespace Go.Amb
open Go.RowKit
/-- A cell of an owned row is written. -/
theorem own_set {w : World} {base g n cap : Nat} {e : TypeId} {size : Nat} {xs : List Value} (h : w.ownsRow base e size (.slice (some ⟨g, 0, none⟩) n cap) n xs) (k : Nat) (hk : k < xs.length) (u : Value) :
    (w.setCell ⟨g, k, none⟩ u).ownsRow base e size (.slice (some ⟨g, 0, none⟩) n cap) n (xs.set k u) := by
  refine ⟨by rw [List.length_set]; exact h.1, ?_⟩
  rcases h.2 with ⟨hv, _⟩ | ⟨g', cap', cur, hv, hb, hg, hnc, hcm, hcs, ht⟩
  · cases hv
  · injection hv with h1 h2 h3
    injection h1 with h1
    injection h1 with h1
    subst h1; subst h3
    refine .inr ⟨g, cap, _, rfl, hb, heap_setCell_same _ g k _ _ _ hg, hnc, hcm, by simpa using hcs, ?_⟩
    have hl := h.1
    simp only [Array.toList_setIfInBounds, Array.set!_eq_setIfInBounds]
    rw [← ht] at hk ⊢
    rw [List.length_take] at hk
    rw [List.take_set]
theorem own_free {w : World} {base g n cap : Nat} {e : TypeId} {size : Nat} {xs : List Value} (h : w.ownsRow base e size (.slice (some ⟨g, 0, none⟩) n cap) n xs) (k : Nat) (hk : k < xs.length) :
    w.cell? ⟨g, k, none⟩ = some (xs[k]) ∧ w.frozen? ⟨g, k, none⟩ = false := by
  refine ⟨?_, ?_⟩
  · have := h.cells (g := g) rfl k _ (List.getElem?_eq_getElem hk)
    rwa [Addr.add_lit, Nat.zero_add] at this
  · rcases h.2 with ⟨hv, _⟩ | ⟨g', cap', cur, hv, hb, hg, _⟩
    · cases hv
    · injection hv with h1 h2 h3
      injection h1 with h1
      injection h1 with h1
      subst h1
      unfold World.frozen?; simp [hg]
theorem own_litN (w : World) (base N : Nat) (e : TypeId) (hb : base ≤ w.heap.size) (hN : w.heap.size = N) : Own (w.alloc (.cells #[] e)) base e (.slice (some ⟨N, 0, none⟩) 0 0) [] := by
  subst hN; exact own_lit0 w base e hb
end Go.Amb
namespace Go.Proofs.Yteeppclnmjlcbaa
open Go.RowKit Go.Amb
set_option linter.unusedVariables false

/-- An alloc's pages, as the reference has them. -/
def bs (B n : Nat) : List Value := (List.range n).map fun i => .bool (B.testBit i)
theorem bs_length (B n : Nat) : (bs B n).length = n := by simp [bs]
theorem bs_get {B n j : Nat} (h : j < n) : (bs B n)[j]? = some (.bool (B.testBit j)) := by simp [bs, h]
theorem bs_one (B n : Nat) : ∀ u ∈ bs B n, u.oneCell' = true := by
  intro u hu
  obtain ⟨_, _, rfl⟩ := List.mem_map.1 hu
  rfl
theorem bs_set (B n i : Nat) (b : Bool) : (bs B n).set i (.bool b) = bs (putN B i b) n := by
  apply List.ext_getElem?
  intro j
  by_cases hj : j < n
  · rw [bs_get hj, List.getElem?_set, bs_length, putN_bit]
    by_cases e : i = j
    · subst e; simp [hj]
    · simp [e, bs_get hj]
  · rw [List.getElem?_eq_none (by rw [List.length_set, bs_length]; omega), List.getElem?_eq_none (by rw [bs_length]; omega)]
theorem bs_zero (n : Nat) : List.replicate n (Value.bool false) = bs 0 n := by
  apply List.ext_getElem?
  intro j
  by_cases hj : j < n
  · rw [bs_get hj]; simp [hj]
  · rw [List.getElem?_eq_none (by simp; omega), List.getElem?_eq_none (by rw [bs_length]; omega)]
theorem info_bool : (Try.prog.info? 4).map (fun i => (i.zero, i.size, i.bytes)) = some (some (.bool false), 1, 1) := rfl
/-- A row of pages. -/
abbrev Pages (w : World) (v : Value) (B n : Nat) : Prop := Has w 1 v n (bs B n)
theorem pages_at {w : World} {v : Value} {B n : Nat} (h : Pages w v B n) : ∃ a c, v = .slice a n c ∧ n ≤ c ∧ c ≤ maxLen ∧ ∀ j, j < n → ∃ g off, a = some ⟨g, off, none⟩ ∧ w.cell? ⟨g, off + j, none⟩ = some (.bool (B.testBit j)) := by
  obtain ⟨hl, a, c, rfl, h1, h2, h3⟩ := h
  refine ⟨a, c, rfl, h1, h2, fun j hj => ?_⟩
  rcases h3 with h3 | ⟨g, off, rfl, hc⟩
  · omega
  · exact ⟨g, off, rfl, hc _ _ (bs_get hj)⟩
/-- A new row of pages is told. -/
def Paged (B n : Nat) (w : World) : Ending → World → Prop := fun e w' => ∃ v, e = .returned (.agg #[v]) ∧ Pages w' v B n ∧ Upd Non w w' ∧ ∀ k, At v k → w.heap.size ≤ k
set_option maxHeartbeats 1000000 in
theorem refNew_bad (n : Int) (w : World) (h : n < 1 ∨ 16384 < n) : Calls Try.prog 17 #[.int .i64 n] w (Ret (.tuple #[.agg #[.slice none 0 0], .int .i64 2]) w) := by
  by_cases h1 : n < 1
  · go_enter Try.func17, Try.ntmps17
    go_wp2_with fail
    go_returns
    exact ⟨rfl, by (repeat (first | (with_reducible exact Upd.refl _ _) | (with_reducible assumption) | (with_reducible refine Upd.then_drew ?_) | (with_reducible refine Upd.then_drewN ?_ _) | (with_reducible refine Upd.then_alloc ?_ _) | (with_reducible refine Upd.then_setCell ?_ (fun h => absurd h (by simp <;> omega)) _) | (with_reducible refine Upd.trans ?_ (Upd.non (by assumption)) (fun _ _ h => h))))⟩
  · have h2 : 16384 < n := by omega
    clear h
    go_enter Try.func17, Try.ntmps17
    go_wp2_with fail
    go_returns
    exact ⟨rfl, by (repeat (first | (with_reducible exact Upd.refl _ _) | (with_reducible assumption) | (with_reducible refine Upd.then_drew ?_) | (with_reducible refine Upd.then_drewN ?_ _) | (with_reducible refine Upd.then_alloc ?_ _) | (with_reducible refine Upd.then_setCell ?_ (fun h => absurd h (by simp <;> omega)) _) | (with_reducible refine Upd.trans ?_ (Upd.non (by assumption)) (fun _ _ h => h))))⟩
/-- A new row of pages, and OK. -/
def PagedO (B n : Nat) (w : World) : Ending → World → Prop := fun e w' => ∃ v, e = .returned (.tuple #[.agg #[v], .int .i64 0]) ∧ Pages w' v B n ∧ Upd Non w w' ∧ ∀ k, At v k → w.heap.size ≤ k
set_option maxHeartbeats 1000000 in
theorem refNew (n : Nat) (w : World) (h : 1 ≤ n ∧ n ≤ 16384) : Calls Try.prog 17 #[.int .i64 (n : Int)] w (PagedO 0 n w) := by
  have h1 : ¬ (n : Int) < 1 := by omega
  have h2 : ¬ (16384 : Int) < (n : Int) := by omega
  have hmk := run_make1 Try.underlying42 info_bool rfl n (by omega) (by omega)
  replace h := Lib.hid h
  go_enter Try.func17, Try.ntmps17
  go_wp2_with fail
  go_returns
  have hh := has_new (w.alloc (.cells #[.slice (some ⟨w.heap.size + 1, 0, none⟩) n n] 44)) (List.replicate n (.bool false)) 4 1 n (by simp) (by have := h.out; unfold maxLen; omega)
  rw [List.toArray_replicate, bs_zero, show (w.alloc (.cells #[.slice (some ⟨w.heap.size + 1, 0, none⟩) n n] 44)).heap.size = w.heap.size + 1 by simp] at hh
  exact ⟨_, rfl, hh, by (repeat (first | (with_reducible exact Upd.refl _ _) | (with_reducible assumption) | (with_reducible refine Upd.then_drew ?_) | (with_reducible refine Upd.then_drewN ?_ _) | (with_reducible refine Upd.then_alloc ?_ _) | (with_reducible refine Upd.then_setCell ?_ (fun h => absurd h (by simp <;> omega)) _) | (with_reducible refine Upd.trans ?_ (Upd.non (by assumption)) (fun _ _ h => h)))), fun k hk => by simp [At, Value.ownBlock] at hk; omega⟩
set_option maxHeartbeats 2000000 in
theorem refWith (v : Value) (n B i k : Nat) (b : Bool) (w : World) (h : Pages w v B n) (hn : 1 ≤ n ∧ n ≤ 16384) (hi : i + k ≤ n) : Calls Try.prog 34 #[.agg #[v], .int .i64 (i : Int), .int .i64 (k : Int), .bool b] w (Paged (setN B i k b) n w) := by
  obtain ⟨a, c, rfl, hnc, hcm, hcell⟩ := pages_at h
  have hi2 := Lib.hid (@info_bool)
  have hH := Lib.hid h
  clear hcell h
  go_enter Try.func34, Try.ntmps34
  go_wp2_with (at_builtin; go_must (refine wpList_app rfl _ _ 42 42 rfl (w.heap.size + 2) 4 (.bool false) 1 1 Try.underlying42 hi2.out rfl _ _ _ rfl (own_litN ((w.alloc (.cells #[.slice a n c] 44)).alloc (.cells #[.slice none 0 0] 44)) (w.heap.size + 2) (w.heap.size + 1 + 1) 4 (by simp) (by simp)) _ n (bs B n) rfl (Src.ofHas Try.underlying42 (hH.out.upd ((((Upd.refl Non w).then_alloc _).then_alloc _).then_alloc _) fun _ _ h => h) (bs_one B n)) ?h63 ?hby (by simp) ?_))
  case h63 => simp; unfold maxLen; omega
  case hby => simp; omega
  intro v' w3 ho hu hf
  have ho : w3.ownsRow (w.heap.size + 2) 4 1 v' n (bs B n) := by simpa [bc] using ho
  have hu2 : Upd Non ((w.alloc (.cells #[.slice a n c] 44)).alloc (.cells #[.slice none 0 0] 44)) w3 :=
    (Upd.alloc Non _ _).trans hu fun j hj h => by simp [At, Value.ownBlock] at h hj; omega
  have hW := hu2.own2 (fun _ h => h.elim)
  have hU3 := hW.2.2.2.2.2.2
  obtain ⟨g, cap, rfl, k1, k2, k3, k4, k5⟩ := own_block ho (by omega)
  replace ho := owns_mono (B' := w.heap.size) ho fun q hq => by have := own_ge ho hq; omega
  clear hu hu2 hf k5
  cases b with
  | true =>
    go_wp2_with fail
    go_loopw [10] (fun jv wr => ∃ (j B' : Nat), jv = .int .i64 (j : Int) ∧ j ≤ k ∧ wr.ownsRow w.heap.size 4 1 (.slice (some ⟨g, 0, none⟩) n cap) n (bs B' n) ∧ setN B' (i + j) (k - j) true = setN B i k true ∧ Upd (fun x => x = g) w3 wr) (fun jv _ => k - (intOf jv).toNat)
    case atStart => exact ⟨0, B, rfl, by omega, ho, rfl, Upd.refl _ _⟩
    case round =>
      obtain ⟨j, B', rfl, hj, hoR, hs, hur⟩ := hrel
      have hM := hur.cell (hW.2.2.1 0) (by dsimp only; omega)
      have hF : wr.frozen? ⟨w.heap.size + 1, 0, none⟩ = false := (World.frozen?_of_block (a := ⟨w.heap.size + 1, 0, none⟩) (hur.block _ hW.2.2.2.2.2.1 (by dsimp only; omega))).trans (hW.2.2.2.1 0)
      have hT := hur.cell (hW.1 0) (by dsimp only; omega)
      by_cases hjk : j < k
      · have hp : i + j < n := by omega
        have hst : setN B' (i + j) (k - j) true = setN (putN B' (i + j) true) (i + j + 1) (k - j - 1) true := by
          obtain ⟨m, hm⟩ : ∃ m, k - j = m + 1 := ⟨k - j - 1, by omega⟩
          rw [hm]; rfl
        have hwr : IntKind.i64.wrap ((i : Int) + (j : Int)) = ((i + j : Nat) : Int) := IntWalk.i64_in _ ⟨by omega, by omega⟩
        have hset := Lib.hid (own_set hoR (i + j) (by rw [bs_length]; exact hp) (.bool true))
        obtain ⟨hc1, hc2⟩ := own_free hoR (i + j) (by rw [bs_length]; exact hp)
        have hlt : (j : Int) < (k : Int) := by omega
        have hq0 : (0 : Int) ≤ ((i + j : Nat) : Int) := by omega
        have hq1 : ((i + j : Nat) : Int) < (n : Int) := by omega
        generalize (bs B' n)[i + j]'_ = old at *
        generalize hpe : i + j = p at *
        replace hpe := Lib.hid hpe
        replace hs := Lib.hid hs
        replace hst := Lib.hid hst
        go_wp2_with fail
        go_roundw
        case rel => exact ⟨j + 1, putN B' p true, by go_num, by omega, by rw [← bs_set]; exact hset.out, by
          have e1 := hst.out
          have e2 := hs.out
          have e3 := hpe.out
          rw [show i + (j + 1) = p + 1 by omega, show k - (j + 1) = k - j - 1 by omega, ← e1, e2], hur.then_setCell (fun _ => rfl) _⟩
        case measure => simp [intOf]; omega
      · obtain rfl : j = k := by omega
        have hlt : ¬ (j : Int) < (j : Int) := by omega
        rw [Nat.sub_self] at hs
        replace hs : Hid (B' = setN B i j true) := hs
        have hM0 : Hid (wr.heap.size ≥ w.heap.size + 2) := by have := hur.size; show _ ≤ _; omega
        go_wp2_with fail
        refine bodyPost_ret (v := .agg #[.slice (some ⟨g, 0, none⟩) n cap]) (by simp [results, Try.results34, go_sem, hM, hF]; try rfl) rfl ?_
        have hoF := ownsRow_setCell_other hoR (a := ⟨w.heap.size + 1, 0, none⟩) (by simp [Value.ownBlock]; omega) (.slice (some ⟨g, 0, none⟩) n cap)
        exact ⟨_, rfl, by rw [← hs.out]; exact has_of_owns hoF, ((hU3.trans hur fun q hq h => by omega).then_setCell (fun h => by simp at h; omega) _), fun q hq => own_ge hoR hq⟩
  | false =>
    go_wp2_with fail
    go_loopw [10] (fun jv wr => ∃ (j B' : Nat), jv = .int .i64 (j : Int) ∧ j ≤ k ∧ wr.ownsRow w.heap.size 4 1 (.slice (some ⟨g, 0, none⟩) n cap) n (bs B' n) ∧ setN B' (i + j) (k - j) false = setN B i k false ∧ Upd (fun x => x = g) w3 wr) (fun jv _ => k - (intOf jv).toNat)
    case atStart => exact ⟨0, B, rfl, by omega, ho, rfl, Upd.refl _ _⟩
    case round =>
      obtain ⟨j, B', rfl, hj, hoR, hs, hur⟩ := hrel
      have hM := hur.cell (hW.2.2.1 0) (by dsimp only; omega)
      have hF : wr.frozen? ⟨w.heap.size + 1, 0, none⟩ = false := (World.frozen?_of_block (a := ⟨w.heap.size + 1, 0, none⟩) (hur.block _ hW.2.2.2.2.2.1 (by dsimp only; omega))).trans (hW.2.2.2.1 0)
      have hT := hur.cell (hW.1 0) (by dsimp only; omega)
      by_cases hjk : j < k
      · have hp : i + j < n := by omega
        have hst : setN B' (i + j) (k - j) false = setN (putN B' (i + j) false) (i + j + 1) (k - j - 1) false := by
          obtain ⟨m, hm⟩ : ∃ m, k - j = m + 1 := ⟨k - j - 1, by omega⟩
          rw [hm]; rfl
        have hwr : IntKind.i64.wrap ((i : Int) + (j : Int)) = ((i + j : Nat) : Int) := IntWalk.i64_in _ ⟨by omega, by omega⟩
        have hset := Lib.hid (own_set hoR (i + j) (by rw [bs_length]; exact hp) (.bool false))
        obtain ⟨hc1, hc2⟩ := own_free hoR (i + j) (by rw [bs_length]; exact hp)
        have hlt : (j : Int) < (k : Int) := by omega
        have hq0 : (0 : Int) ≤ ((i + j : Nat) : Int) := by omega
        have hq1 : ((i + j : Nat) : Int) < (n : Int) := by omega
        generalize (bs B' n)[i + j]'_ = old at *
        generalize hpe : i + j = p at *
        replace hpe := Lib.hid hpe
        replace hs := Lib.hid hs
        replace hst := Lib.hid hst
        go_wp2_with fail
        go_roundw
        case rel => exact ⟨j + 1, putN B' p false, by go_num, by omega, by rw [← bs_set]; exact hset.out, by
          have e1 := hst.out
          have e2 := hs.out
          have e3 := hpe.out
          rw [show i + (j + 1) = p + 1 by omega, show k - (j + 1) = k - j - 1 by omega, ← e1, e2], hur.then_setCell (fun _ => rfl) _⟩
        case measure => simp [intOf]; omega
      · obtain rfl : j = k := by omega
        have hlt : ¬ (j : Int) < (j : Int) := by omega
        rw [Nat.sub_self] at hs
        replace hs : Hid (B' = setN B i j false) := hs
        have hM0 : Hid (wr.heap.size ≥ w.heap.size + 2) := by have := hur.size; show _ ≤ _; omega
        go_wp2_with fail
        refine bodyPost_ret (v := .agg #[.slice (some ⟨g, 0, none⟩) n cap]) (by simp [results, Try.results34, go_sem, hM, hF]; try rfl) rfl ?_
        have hoF := ownsRow_setCell_other hoR (a := ⟨w.heap.size + 1, 0, none⟩) (by simp [Value.ownBlock]; omega) (.slice (some ⟨g, 0, none⟩) n cap)
        exact ⟨_, rfl, by rw [← hs.out]; exact has_of_owns hoF, ((hU3.trans hur fun q hq h => by omega).then_setCell (fun h => by simp at h; omega) _), fun q hq => own_ge hoR hq⟩
end Go.Proofs.Yteeppclnmjlcbaa
