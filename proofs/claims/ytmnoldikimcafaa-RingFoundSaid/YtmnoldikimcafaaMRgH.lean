/- Records, Sync, Truncate at the next one; no ring. -/
import Derived.Test.YtmnoldikimcafaaMRgG
import Derived.Lib.SliceRun
import Derived.Deep.QuietTactic
namespace Go.Proofs.Ytmnoldikimcafaa
open Go.RowKit Go.Amb Go.Shelf
set_option linter.unusedVariables false
set_option linter.unusedSimpArgs false
set_option maxRecDepth 100000
theorem lCloneR (a : Option Addr) (n c : Nat) (xs : List Value) (w : World) (h : Has w 3 (.slice a n c) n xs) (h1 : ∀ u ∈ xs, u.oneCell' = true) (hm : n ≤ 1000000) :
    Calls Try.prog 35 #[.slice a n c] w (fun en w' => ∃ v', en = .returned v' ∧ w'.ownsRow w.heap.size 65 3 v' n xs ∧ Upd Non w w' ∧ ∀ k, At v' k → w.heap.size ≤ k) := by
  have hsl : ∀ (w : World) a n c, (binOp .eql 35 (.slice a n c) (.slice none 0 0)).run Try.prog w = .ok (.bool a.isNone) w := fun w a n c => Lib.run_eql_slice_nil w _ 65 a n c 0 0 Try.underlying35
  cases a with
  | none =>
    obtain rfl : n = 0 := by
      obtain ⟨_, a', c', e, _, _, h4⟩ := h
      injection e with e1 e2 e3
      rcases h4 with h4 | ⟨g, off, h4, -⟩
      · exact h4
      · rw [← e1] at h4; cases h4
    have hx : xs = [] := List.eq_nil_of_length_eq_zero (by have := h.len; omega)
    subst hx
    clear h
    go_enter Try.func35, Try.ntmps35
    go_wp2_with fail
    go_ret
    exact ⟨_, rfl, World.ownsRow_nil _ _ _ _, Upd.refl _ _, fun k hk => by simp [At, Value.ownBlock] at hk⟩
  | some ad =>
    have hinf := Lib.hid (@info_rec)
    replace h := Lib.hid h
    replace h1 := Lib.hid h1
    go_enter Try.func35, Try.ntmps35
    go_wp2_with (at_builtin; go_must (refine wpList_app rfl _ _ 35 35 rfl w.heap.size 65 _ 3 32 Try.underlying35 hinf.out (by simp [Value.cells]) _ 0 [] rfl (World.ownsRow_lit (size := 3) w #[] 0 (Nat.le_refl _) (Nat.zero_le _) rfl) _ n xs rfl (Src.ofHas Try.underlying35 (h.out.upd (Upd.alloc Non w _) fun _ _ h => h) h1.out) (by unfold maxLen; omega) (by omega) (by simp) ?_))
    intro v1 w1 ho1 hu1 hf1
    have hN : Upd Non w w1 := (Upd.alloc Non w _).trans hu1 fun j hj h => by simp [At, Value.ownBlock] at h; omega
    have hv : ∀ k, At v1 k → w.heap.size ≤ k := fun k hk => own_ge ho1 hk
    replace ho1 := Lib.hid ho1
    clear hu1 hf1
    go_wp2_with fail
    go_ret
    exact ⟨_, rfl, ho1.out, hN, hv⟩
theorem jc_oneR (l : List R3) : ∀ u ∈ jc l, u.oneCell' = true := jc_one l
section
variable {w : World} {R D : Nat} {F G : Nat → Prop} {d : Dk} {r : Rn}
/-- Records: a row of the caller's own. -/
def RecsTo (w : World) (L : List R3) : Ending → World → Prop := fun en w' => ∃ v, en = .returned v ∧ w'.ownsRow w.heap.size 65 3 v L.length (jc L) ∧ Upd Non w w'
theorem lRecords (hR : RingAt w R D G r) : Calls Try.prog 12 #[.pointer (some ⟨R, 0, none⟩)] w (RecsTo w r.L) := by
  have hO := Lib.hid (lOpened hR)
  obtain ⟨a, c, x0, x1, x2, x3, x4, x5, x6⟩ := hR.cell
  have hL := hR.ok.l
  have hC : Hid (∀ w', Upd Non w w' → Calls Try.prog 35 #[.slice a r.L.length c] w' (RecsTo w' r.L)) := Lib.hid (fun w' hu => by
    obtain ⟨vr, hX, ho, -, -⟩ := (hR.non hu).ex
    have e : vr = .slice a r.L.length c := by
      have h := (cells_of hX).1 6
      rw [hu.cell x6 fun h => h] at h
      exact (Option.some.inj h).symm
    subst e
    exact (lCloneR _ _ _ _ w' (has_of_owns ho) (jc_one _) (by omega)).mono fun en w'' ⟨v, h1, h2, h3, _⟩ => ⟨v, h1, h2, h3⟩)
  have hfin : Hid (∀ en w1 w', Upd Non w w1 → RecsTo w1 r.L en w' → RecsTo w r.L en w') := Lib.hid (fun en w1 w' hu ⟨v, h1, h2, h3⟩ => ⟨v, h1, owns_mono h2 (fun k hk => Nat.le_trans hu.size (own_ge h2 hk)), hu.trans h3 fun _ _ h => h⟩)
  generalize RecsTo w r.L = PR at *
  generalize r.L.length = n at *
  clear hR
  go_enter Try.func12, Try.ntmps12
  go_wp2_with fail
  refine hO.out.mono ?_
  rintro en w1 ⟨rfl, hu⟩
  have x6 := hu.cell x6 fun h => h
  have hc := Lib.hid (hC.out _ hu)
  go_wp2_with fail
  refine hc.out.mono ?_
  rintro en w2 h
  obtain ⟨v, rfl, h2, h3⟩ := h
  have hf := hfin.out (.returned v) w1 w2 hu ⟨v, rfl, h2, h3⟩
  clear h2 h3
  go_wp2_with fail
  exact hf
end
end Go.Proofs.Ytmnoldikimcafaa

namespace Go.Proofs.Ytmnoldikimcafaa
open Go.RowKit Go.Amb Go.Shelf
set_option linter.unusedVariables false
set_option linter.unusedSimpArgs false
set_option maxRecDepth 100000
theorem lTrunc1 (s n q : Int) (dt : List UInt8) (bx : Nat) (w : World) (hb : w.cell? ⟨bx, 0, none⟩ = some (.int .i64 q)) : Calls Try.prog 37 #[.agg #[.int .i64 s, .int .i64 n, .string ⟨dt.toArray⟩], .pointer (some ⟨bx, 0, none⟩)] w (Ret (.bool (s == q)) w) := by
  have hb' := (Upd.alloc Non w (.cells #[.int .i64 s, .int .i64 n, .string ⟨dt.toArray⟩] 65)).cell hb fun h => h
  go_enter Try.func37, Try.ntmps37
  go_wp2_with fail
  go_ret
  exact ⟨rfl, Upd.alloc _ _ _⟩
def Some64 : Ending → Prop := fun en => ∃ i : Int, en = .returned (.int .i64 i)
set_option maxHeartbeats 1000000 in
theorem lIdxR (va : Option Addr) (vc : Nat) (L : List R3) (q : Int) (bx : Nat) (w : World) (h : Has w 3 (.slice va L.length vc) L.length (jc L)) (hl : L.length ≤ 100000) (hb : w.cell? ⟨bx, 0, none⟩ = some (.int .i64 q)) :
    Calls Try.prog 36 #[.slice va L.length vc, .func (.func 37) #[] #[.pointer (some ⟨bx, 0, none⟩)]] w (fun en w' => Some64 en ∧ Upd Non w w') := by
  have cT := Lib.hid (fun s n dt w' hb => lTrunc1 s n q dt bx w' hb)
  have hx : Hid (∀ k (hk : k < L.length), ∃ g off, va = some ⟨g, off, none⟩ ∧ w.cell? ⟨g, off + k * 3, none⟩ = some (.int .i64 L[k].s) ∧ w.cell? ⟨g, off + (k * 3 + 1), none⟩ = some (.int .i64 L[k].n) ∧ w.cell? ⟨g, off + (k * 3 + 2), none⟩ = some (.string ⟨L[k].d.toArray⟩)) := Lib.hid (fun k hk => by
    obtain ⟨_, a', c', e, _, _, h4⟩ := h
    injection e with e1 e2 e3
    subst e1
    rcases h4 with h0 | ⟨g, off, rfl, hc⟩
    · omega
    · obtain ⟨h1, h2, h3⟩ := jc_get L k hk
      exact ⟨g, off, rfl, hc _ _ h1, hc _ _ h2, hc _ _ h3⟩)
  have hS : Hid (∀ i : Int, Some64 (.returned (.int .i64 i))) := Lib.hid (fun i => ⟨i, rfl⟩)
  obtain ⟨n, hn⟩ : ∃ n, L.length = n := ⟨_, rfl⟩
  have hn' := Lib.hid hn
  rw [hn] at hl ⊢
  clear hn h
  go_enter Try.func36, Try.ntmps36
  go_wp2_with fail
  go_loopw [8] (fun iv wr => ∃ (k : Nat), iv = .int .i64 (k : Int) ∧ k ≤ n ∧ Upd Non w wr) (fun iv _ => n - (intOf iv).toNat)
  case atStart => exact ⟨0, rfl, Nat.zero_le _, Upd.refl _ _⟩
  case round =>
    obtain ⟨k, rfl, hk, hU⟩ := hrel
    by_cases hlt : k < n
    · have hltI : (k : Int) < (n : Int) := by omega
      have hk0 : (0 : Int) ≤ (k : Int) := by omega
      have hkl : k < L.length := by rw [hn'.out]; exact hlt
      obtain ⟨g, off, rfl, y0, y1, y2⟩ := hx.out k hkl
      have hb' := hU.cell hb fun h => h
      generalize L[k]'hkl = p at *
      obtain ⟨ps, pn, pd⟩ := p
      simp only at y0 y1 y2
      have y0 : wr.cell? ⟨g, off + k * 3, none⟩ = some (.int .i64 ps) := hU.cell y0 fun h => h
      have y1 : wr.cell? ⟨g, off + k * 3 + 1, none⟩ = some (.int .i64 pn) := hU.cell y1 fun h => h
      have y2 : wr.cell? ⟨g, off + k * 3 + 2, none⟩ = some (.string ⟨pd.toArray⟩) := hU.cell y2 fun h => h
      have hT := Lib.hid (cT.out ps pn pd wr hb')
      obtain ⟨b, hbe⟩ : ∃ b, (ps == q) = b := ⟨_, rfl⟩
      rw [hbe] at hT
      clear hbe
      go_wp2_with fail
      refine hT.out.mono ?_
      rintro en w1 ⟨rfl, hu⟩
      have hU1 := hU.trans hu fun _ _ h => h
      clear hu hT y0 y1 y2 hb'
      cases b with
      | true =>
        go_wp2_with fail
        go_ret
        exact ⟨hS.out _, hU1⟩
      | false =>
        go_wp2_with fail
        go_roundw
        case rel => exact ⟨k + 1, by go_num, by omega, hU1⟩
        case measure => simp [intOf]; omega
    · have hltI : ¬ (k : Int) < (n : Int) := by omega
      go_wp2_with fail
      go_ret
      exact ⟨hS.out _, hU⟩
section
variable {w : World} {R D : Nat} {F G : Nat → Prop} {d : Dk} {r : Rn}
/-- A ring that let all go. -/
def gone (r : Rn) : Rn := ⟨r.fr, r.cn, r.nx, r.nx, r.ep, []⟩
set_option maxHeartbeats 1000000 in
theorem lTruncNext (hR : RingAt w R D G r) : Calls Try.prog 17 #[.pointer (some ⟨R, 0, none⟩), .int .i64 r.nx] w (fun en w' => en = .returned (.int .i64 0) ∧ ∃ G', RingAt w' R D G' (gone r) ∧ Kp w G w' G') := by
  have hu0 := Upd.alloc Non w (.cells #[.int .i64 r.nx] 3)
  have hb0 : (w.alloc (.cells #[.int .i64 r.nx] 3)).cell? ⟨w.heap.size, 0, none⟩ = some (.int .i64 r.nx) := (cells_of (heap_alloc_new w _)).1 0
  have hO := Lib.hid (fun w' (hu : Upd Non w w') => lOpened (hR.non hu))
  obtain ⟨a, c, x0, x1, x2, x3, x4, x5, x6⟩ := hR.cell
  obtain ⟨vr, hX, ho, hvR, hG⟩ := hR.ex
  obtain rfl : vr = .slice a r.L.length c := by
    have h := (cells_of hX).1 6
    rw [x6] at h
    exact (Option.some.inj h).symm
  have hHas := has_of_owns ho
  have hl := hR.ok.l
  have hcase : a = none ∧ r.L.length = 0 ∨ ∃ g, a = some ⟨g, 0, none⟩ := by
    rcases ho.2 with ⟨h, -⟩ | ⟨g, cap, cur, h, -⟩
    · injection h with h1 h2 h3
      exact .inl ⟨h1, h2⟩
    · injection h with h1 h2 h3
      exact .inr ⟨g, h1⟩
  have hI : Hid (∀ w', Upd Non w w' → w'.cell? ⟨w.heap.size, 0, none⟩ = some (.int .i64 r.nx) → Calls Try.prog 36 #[.slice a r.L.length c, .func (.func 37) #[] #[.pointer (some ⟨w.heap.size, 0, none⟩)]] w' (fun en w'' => Some64 en ∧ Upd Non w' w'')) :=
    Lib.hid (fun w' hu hb => lIdxR a c r.L r.nx _ w' (hHas.upd hu fun _ _ h => h) hl hb)
  have hok : Hid (gone r).Ok := Lib.hid (by
    obtain ⟨a1, a2, a3, a4, a5, a6, a7, a8, a9⟩ := hR.ok
    exact ⟨a1, a2, a3, Int.le_trans a4 a5, Int.le_refl _, a6, a7, a8, by show 0 ≤ 100000; omega⟩)
  have hcap : r.L.length ≤ c ∧ c ≤ maxLen := by
    obtain ⟨_, a', c', e, h1, h2, -⟩ := hHas
    injection e with e1 e2 e3
    subst e3
    exact ⟨h1, h2⟩
  have hGR := Lib.hid (hR.gR)
  have hRlt := heap_lt hX
  obtain ⟨PR, hPR⟩ : ∃ PR : Ending → World → Prop, PR = (fun en w' => en = .returned (.int .i64 0) ∧ ∃ G', RingAt w' R D G' (gone r) ∧ Kp w G w' G') := ⟨_, rfl⟩
  rw [← hPR]
  replace hPR := Lib.hid hPR
  obtain ⟨fr, cn, st, nx, ep, L⟩ := r
  simp only at *
  obtain ⟨hc1, hc2⟩ := hcap
  unfold maxLen at hc2
  generalize L.length = n at *
  have hnI : (n : Int) ≤ (c : Int) := by omega
  have hn0 : (0 : Int) ≤ (n : Int) := by omega
  have hC := Lib.hid (fun a n c xs w h h1 hm => lCloneR a n c xs w h h1 hm)
  replace hX := Lib.hid hX
  clear hR ho hHas hvR
  go_enter Try.func17, Try.ntmps17
  go_wp2_with fail
  refine (hO.out _ hu0).mono ?_
  rintro en w1 ⟨rfl, hu1⟩
  have hU1 := hu0.trans hu1 fun _ _ h => h
  have x6' := hU1.cell x6 fun h => h
  have hb1 := hu1.cell hb0 fun h => h
  have hi := Lib.hid (hI.out _ hU1 hb1)
  go_wp2_with fail
  refine hi.out.mono ?_
  rintro en w2 ⟨⟨iv, rfl⟩, hu2⟩
  have hU2 := hU1.trans hu2 fun _ _ h => h
  have x4 := hU2.cell x4 fun h => h
  have x3 := hU2.cell x3 fun h => h
  have x6 := hU2.cell x6 fun h => h
  have hb2 := hu2.cell hb1 fun h => h
  have hX2 := hU2.heap hX.out fun h => h
  have hz2 := hU2.size
  clear hi hI hO hb1 hb0 x6' hu0 hu1 hu2 hU1
  go_wp2_with fail
  go_quiet (fail)
  have hX3 := (Upd.drewN Non w2 nq).heap hX2 fun h => h
  have hU3 := hU2.trans (Upd.drewN Non w2 nq) fun _ _ h => h
  have hb3 := (Upd.drewN Non w2 nq).cell hb2 fun h => h
  generalize w2.drewN nq = w3 at *
  have x6 : w3.cell? ⟨R, 6, none⟩ = some (.slice a n c) := (cells_of hX3).1 6
  clear x3 x4 hX2 hU2 hb2
  have hE : Hid (∀ a c, c ≤ maxLen → ∀ w, Calls Try.prog 35 #[.slice a 0 c] w (fun en w' => ∃ v', en = .returned v' ∧ w'.ownsRow w.heap.size 65 3 v' 0 [] ∧ Upd Non w w' ∧ ∀ k, At v' k → w.heap.size ≤ k)) :=
    Lib.hid (fun a c hc w => hC.out a 0 c [] w ⟨by simp, _, _, rfl, Nat.zero_le _, hc, .inl rfl⟩ (by intro u hu; cases hu) (by omega))
  rcases hcase with ⟨rfl, rfl⟩ | ⟨g, rfl⟩
  · go_wp2_with fail
    refine ((hE.out none c (by unfold maxLen; omega) w3)).mono ?_
    rintro en w4 ⟨v4, rfl, ho4, hu4, hv4⟩
    obtain ⟨_, a4, c4, rfl, -⟩ := has_of_owns ho4
    have hX4 := hu4.heap hX3 fun h => h
    have hb4 := hu4.cell hb3 fun h => h
    have hU4 := hU3.trans hu4 fun _ _ h => h
    have hR3 := heap_lt hX3
    obtain ⟨m', mz⟩ := cells_of hX4
    have m3 : w4.cell? ⟨R, 3, none⟩ = some (.int .i64 st) := m' 3
    have m6 := m' 6
    have z3 : w4.frozen? ⟨R, 3, none⟩ = false := mz 3
    have z6 : w4.frozen? ⟨R, 6, none⟩ = false := mz 6
    have hX5 := set_blk (j := 6) hX4 (.slice a4 0 c4)
    simp only [List.setIfInBounds_toArray, List.set_cons_zero, List.set_cons_succ] at hX5
    have hbR : w.heap.size ≠ R := Nat.ne_of_gt hRlt
    have hu5 := Upd.setCell (S := fun k => k = R) w4 (a := ⟨R, 6, none⟩) rfl (.slice a4 0 c4)
    have hb5 := hu5.cell hb4 hbR
    have m35 := (cells_of hX5).1 3
    have z35 := (cells_of hX5).2 3
    have hX6 := set_blk (j := 3) hX5 (.int .i64 nx)
    simp only [List.setIfInBounds_toArray, List.set_cons_zero, List.set_cons_succ] at hX6
    have hu6 := hu5.trans (Upd.setCell (S := fun k => k = R) _ (a := ⟨R, 3, none⟩) rfl (.int .i64 nx)) fun _ _ h => h
    have hfin : PR (.returned (.int .i64 0)) ((w4.setCell ⟨R, 6, none⟩ (.slice a4 0 c4)).setCell ⟨R, 3, none⟩ (.int .i64 nx)) := by
      rw [hPR.out]
      have hz := hU3.size
      refine ⟨rfl, fun k => k = R ∨ At (.slice a4 0 c4) k, ⟨hok.out, _, hX6, owns_mono (hu6.owns ho4 fun k hk e => by have := own_ge ho4 hk; omega) fun _ _ => Nat.zero_le _, fun h => by have := own_ge ho4 h; omega, fun k => Iff.rfl⟩, ?_, ?_⟩
      · exact (hU4.non : Upd G w w4).trans hu6 fun j hj e => by rw [e]; exact hGR.out
      · rintro k (rfl | h)
        · exact .inl hGR.out
        · have := own_ge ho4 h; exact .inr (by omega)
    clear hX4 hX5 hX6 hu5 hu6 ho4 hv4 m' mz
    go_wp2_with fail
    exact hfin
  · by_cases hcn : c = n
    · subst hcn
      go_wp2_with fail
      refine ((hE.out (some ⟨g, 0, none⟩) 0 (by unfold maxLen; omega) w3)).mono ?_
      rintro en w4 ⟨v4, rfl, ho4, hu4, hv4⟩
      obtain ⟨_, a4, c4, rfl, -⟩ := has_of_owns ho4
      have hX4 := hu4.heap hX3 fun h => h
      have hb4 := hu4.cell hb3 fun h => h
      have hU4 := hU3.trans hu4 fun _ _ h => h
      have hR3 := heap_lt hX3
      obtain ⟨m', mz⟩ := cells_of hX4
      have m3 : w4.cell? ⟨R, 3, none⟩ = some (.int .i64 st) := m' 3
      have m6 := m' 6
      have z3 : w4.frozen? ⟨R, 3, none⟩ = false := mz 3
      have z6 : w4.frozen? ⟨R, 6, none⟩ = false := mz 6
      have hX5 := set_blk (j := 6) hX4 (.slice a4 0 c4)
      simp only [List.setIfInBounds_toArray, List.set_cons_zero, List.set_cons_succ] at hX5
      have hbR : w.heap.size ≠ R := Nat.ne_of_gt hRlt
      have hu5 := Upd.setCell (S := fun k => k = R) w4 (a := ⟨R, 6, none⟩) rfl (.slice a4 0 c4)
      have hb5 := hu5.cell hb4 hbR
      have m35 := (cells_of hX5).1 3
      have z35 := (cells_of hX5).2 3
      have hX6 := set_blk (j := 3) hX5 (.int .i64 nx)
      simp only [List.setIfInBounds_toArray, List.set_cons_zero, List.set_cons_succ] at hX6
      have hu6 := hu5.trans (Upd.setCell (S := fun k => k = R) _ (a := ⟨R, 3, none⟩) rfl (.int .i64 nx)) fun _ _ h => h
      have hfin : PR (.returned (.int .i64 0)) ((w4.setCell ⟨R, 6, none⟩ (.slice a4 0 c4)).setCell ⟨R, 3, none⟩ (.int .i64 nx)) := by
        rw [hPR.out]
        have hz := hU3.size
        refine ⟨rfl, fun k => k = R ∨ At (.slice a4 0 c4) k, ⟨hok.out, _, hX6, owns_mono (hu6.owns ho4 fun k hk e => by have := own_ge ho4 hk; omega) fun _ _ => Nat.zero_le _, fun h => by have := own_ge ho4 h; omega, fun k => Iff.rfl⟩, ?_, ?_⟩
        · exact (hU4.non : Upd G w w4).trans hu6 fun j hj e => by rw [e]; exact hGR.out
        · rintro k (rfl | h)
          · exact .inl hGR.out
          · have := own_ge ho4 h; exact .inr (by omega)
      clear hX4 hX5 hX6 hu5 hu6 ho4 hv4 m' mz
      go_wp2_with fail
      exact hfin
    · go_wp2_with fail
      refine ((hE.out (some ⟨g, n * 3, none⟩) (c - n) (by unfold maxLen; omega) w3)).mono ?_
      rintro en w4 ⟨v4, rfl, ho4, hu4, hv4⟩
      obtain ⟨_, a4, c4, rfl, -⟩ := has_of_owns ho4
      have hX4 := hu4.heap hX3 fun h => h
      have hb4 := hu4.cell hb3 fun h => h
      have hU4 := hU3.trans hu4 fun _ _ h => h
      have hR3 := heap_lt hX3
      obtain ⟨m', mz⟩ := cells_of hX4
      have m3 : w4.cell? ⟨R, 3, none⟩ = some (.int .i64 st) := m' 3
      have m6 := m' 6
      have z3 : w4.frozen? ⟨R, 3, none⟩ = false := mz 3
      have z6 : w4.frozen? ⟨R, 6, none⟩ = false := mz 6
      have hX5 := set_blk (j := 6) hX4 (.slice a4 0 c4)
      simp only [List.setIfInBounds_toArray, List.set_cons_zero, List.set_cons_succ] at hX5
      have hbR : w.heap.size ≠ R := Nat.ne_of_gt hRlt
      have hu5 := Upd.setCell (S := fun k => k = R) w4 (a := ⟨R, 6, none⟩) rfl (.slice a4 0 c4)
      have hb5 := hu5.cell hb4 hbR
      have m35 := (cells_of hX5).1 3
      have z35 := (cells_of hX5).2 3
      have hX6 := set_blk (j := 3) hX5 (.int .i64 nx)
      simp only [List.setIfInBounds_toArray, List.set_cons_zero, List.set_cons_succ] at hX6
      have hu6 := hu5.trans (Upd.setCell (S := fun k => k = R) _ (a := ⟨R, 3, none⟩) rfl (.int .i64 nx)) fun _ _ h => h
      have hfin : PR (.returned (.int .i64 0)) ((w4.setCell ⟨R, 6, none⟩ (.slice a4 0 c4)).setCell ⟨R, 3, none⟩ (.int .i64 nx)) := by
        rw [hPR.out]
        have hz := hU3.size
        refine ⟨rfl, fun k => k = R ∨ At (.slice a4 0 c4) k, ⟨hok.out, _, hX6, owns_mono (hu6.owns ho4 fun k hk e => by have := own_ge ho4 hk; omega) fun _ _ => Nat.zero_le _, fun h => by have := own_ge ho4 h; omega, fun k => Iff.rfl⟩, ?_, ?_⟩
        · exact (hU4.non : Upd G w w4).trans hu6 fun j hj e => by rw [e]; exact hGR.out
        · rintro k (rfl | h)
          · exact .inl hGR.out
          · have := own_ge ho4 h; exact .inr (by omega)
      clear hX4 hX5 hX6 hu5 hu6 ho4 hv4 m' mz
      go_wp2_with fail
      exact hfin
theorem lSync (hR : RingAt w R D G r) (hD : DiskAt w D F d) (hn : d.P.length ≤ 1000000) : Calls Try.prog 10 #[.pointer (some ⟨R, 0, none⟩)] w (Stepped w D F d.flush.1 (.int .i64 d.flush.2)) := by
  have hO := Lib.hid (lOpened hR)
  obtain ⟨a, c, x0, -⟩ := hR.cell
  have hF := Lib.hid (fun w' (hu : Upd Non w w') => lFlush (hD.non hu) hn)
  have hfin : Hid (∀ en w1 w', Upd Non w w1 → Stepped w1 D F d.flush.1 (.int .i64 d.flush.2) en w' → Stepped w D F d.flush.1 (.int .i64 d.flush.2) en w') := Lib.hid (fun en w1 w' hu ⟨h1, F', h2, h3, h4⟩ => ⟨h1, F', h2, hu.non.trans h3 fun _ _ h => h, fun k hk => (h4 k hk).imp id fun h => Nat.le_trans hu.size h⟩)
  obtain ⟨PR, hPR⟩ : ∃ PR, Stepped w D F d.flush.1 (.int .i64 d.flush.2) = PR := ⟨_, rfl⟩
  rw [hPR] at hfin ⊢
  generalize d.flush = fl at *
  obtain ⟨d', x⟩ := fl
  clear hPR hR hD
  go_enter Try.func10, Try.ntmps10
  go_wp2_with fail
  refine hO.out.mono ?_
  rintro en w1 ⟨rfl, hu⟩
  have x0 := hu.cell x0 fun h => h
  have hf := Lib.hid (hF.out _ hu)
  go_wp2_with fail
  refine hf.out.mono ?_
  rintro en w2 ⟨rfl, F', h2, h3, h4⟩
  have hq := hfin.out _ w1 w2 hu ⟨rfl, F', h2, h3, h4⟩
  clear h2 h3 h4
  go_wp2_with fail
  exact hq
end
end Go.Proofs.Ytmnoldikimcafaa

namespace Go.Proofs.Ytmnoldikimcafaa
open Go.RowKit Go.Amb Go.Shelf
set_option linter.unusedVariables false
set_option linter.unusedSimpArgs false
set_option maxRecDepth 100000
/-- No ring, or one that nothing made. -/
def NoRing (w : World) (v : Value) : Prop := v = .pointer none ∨ ∃ R, v = .pointer (some ⟨R, 0, none⟩) ∧ w.heap[R]? = some (.cells #[.pointer none, .int .i64 0, .int .i64 0, .int .i64 0, .int .i64 0, .int .i64 0, .slice none 0 0] 43 (0, 0))
theorem NoRing.non {w w' : World} {v : Value} (h : NoRing w v) (hu : Upd Non w w') : NoRing w' v := by
  rcases h with h | ⟨D, h, hX⟩
  · exact .inl h
  · exact .inr ⟨D, h, hu.heap hX fun h => h⟩
theorem nOpened {w : World} {v : Value} (h : NoRing w v) : Calls Try.prog 25 #[v] w (Ret (.bool false) w) := by
  rcases h with rfl | ⟨D, rfl, hX⟩
  · go_enter Try.func25, Try.ntmps25
    go_wp2_with fail
    go_ret
    exact ⟨rfl, Upd.refl _ _⟩
  · have x0 : w.cell? ⟨D, 0, none⟩ = some (.pointer none) := (cells_of hX).1 0
    clear hX
    go_enter Try.func25, Try.ntmps25
    go_wp2_with fail
    go_ret
    exact ⟨rfl, Upd.refl _ _⟩
theorem nStart {w : World} {v : Value} (h : NoRing w v) : Calls Try.prog 18 #[v] w (Ret (.int .i64 0) w) := by
  have cM := Lib.hid (fun w' (hu : Upd Non w w') => nOpened (h.non hu))
  clear h
  go_enter Try.func18, Try.ntmps18
  go_wp2_with fail
  refine (cM.out _ (Upd.refl _ _)).mono ?_
  rintro en w1 ⟨rfl, hu1⟩
  have hU := hu1
  simp only []
  go_wp2_with fail
  go_ret
  exact ⟨rfl, hU⟩
theorem nNext {w : World} {v : Value} (h : NoRing w v) : Calls Try.prog 15 #[v] w (Ret (.int .i64 0) w) := by
  have cM := Lib.hid (fun w' (hu : Upd Non w w') => nOpened (h.non hu))
  clear h
  go_enter Try.func15, Try.ntmps15
  go_wp2_with fail
  refine (cM.out _ (Upd.refl _ _)).mono ?_
  rintro en w1 ⟨rfl, hu1⟩
  have hU := hu1
  simp only []
  go_wp2_with fail
  go_ret
  exact ⟨rfl, hU⟩
theorem nEpoch {w : World} {v : Value} (h : NoRing w v) : Calls Try.prog 14 #[v] w (Ret (.int .i64 0) w) := by
  have cM := Lib.hid (fun w' (hu : Upd Non w w') => nOpened (h.non hu))
  clear h
  go_enter Try.func14, Try.ntmps14
  go_wp2_with fail
  refine (cM.out _ (Upd.refl _ _)).mono ?_
  rintro en w1 ⟨rfl, hu1⟩
  have hU := hu1
  simp only []
  go_wp2_with fail
  go_ret
  exact ⟨rfl, hU⟩
theorem nRoom {w : World} {v : Value} (h : NoRing w v) : Calls Try.prog 16 #[v] w (Ret (.int .i64 0) w) := by
  have cM := Lib.hid (fun w' (hu : Upd Non w w') => nOpened (h.non hu))
  clear h
  go_enter Try.func16, Try.ntmps16
  go_wp2_with fail
  refine (cM.out _ (Upd.refl _ _)).mono ?_
  rintro en w1 ⟨rfl, hu1⟩
  have hU := hu1
  simp only []
  go_wp2_with fail
  go_ret
  exact ⟨rfl, hU⟩
theorem nSync {w : World} {v : Value} (h : NoRing w v) : Calls Try.prog 10 #[v] w (Ret (.int .i64 1) w) := by
  have cM := Lib.hid (fun w' (hu : Upd Non w w') => nOpened (h.non hu))
  clear h
  go_enter Try.func10, Try.ntmps10
  go_wp2_with fail
  refine (cM.out _ (Upd.refl _ _)).mono ?_
  rintro en w1 ⟨rfl, hu1⟩
  have hU := hu1
  simp only []
  go_wp2_with fail
  go_ret
  exact ⟨rfl, hU⟩
theorem nRecords {w : World} {v : Value} (h : NoRing w v) : Calls Try.prog 12 #[v] w (Ret (.slice none 0 0) w) := by
  have cM := Lib.hid (fun w' (hu : Upd Non w w') => nOpened (h.non hu))
  clear h
  go_enter Try.func12, Try.ntmps12
  go_wp2_with fail
  refine (cM.out _ (Upd.refl _ _)).mono ?_
  rintro en w1 ⟨rfl, hu1⟩
  have hU := hu1
  simp only []
  go_wp2_with fail
  go_ret
  exact ⟨rfl, hU⟩
theorem nAppend {w : World} {v : Value} (h : NoRing w v) (s : List UInt8) : Calls Try.prog 9 #[v, .string ⟨s.toArray⟩] w (Ret (.int .i64 1) w) := by
  have cM := Lib.hid (fun w' (hu : Upd Non w w') => nOpened (h.non hu))
  clear h
  go_enter Try.func9, Try.ntmps9
  go_wp2_with fail
  refine (cM.out _ (Upd.refl _ _)).mono ?_
  rintro en w1 ⟨rfl, hu1⟩
  have hU := hu1
  simp only []
  go_wp2_with fail
  go_ret
  exact ⟨rfl, hU⟩
theorem nTruncate {w : World} {v : Value} (h : NoRing w v) (n : Int) : Calls Try.prog 17 #[v, .int .i64 n] w (Ret (.int .i64 1) w) := by
  have hu0 := Upd.alloc Non w (.cells #[.int .i64 n] 3)
  have cM := Lib.hid (fun w' (hu : Upd Non w w') => nOpened (h.non hu))
  clear h
  go_enter Try.func17, Try.ntmps17
  go_wp2_with fail
  refine (cM.out _ hu0).mono ?_
  rintro en w1 ⟨rfl, hu1⟩
  have hU := hu0.trans hu1 fun _ _ h => h
  simp only []
  go_wp2_with fail
  go_ret
  exact ⟨rfl, hU⟩
theorem nOpen (w : World) (fr cn st e : Int) : Calls Try.prog 8 #[.pointer none, .int .i64 fr, .int .i64 cn, .int .i64 st, .int .i64 e] w (Ret (.tuple #[.pointer none, .int .i64 1]) w) := by
  have cM := Lib.hid (nSize (w := w) (.inl rfl))
  obtain ⟨PR, hPR⟩ : ∃ PR : Ending → World → Prop, PR = Ret (.tuple #[.pointer none, .int .i64 1]) w := ⟨_, rfl⟩
  rw [← hPR]
  replace hPR := Lib.hid hPR
  refine (callsIn_wide (n := 5)).1 (callsIn_of_wp_marks Try.func8 rfl trivial (wpIn_wide.2 ?_) rfl)
  simp only [Try.ntmps8, List.size_toArray, List.length_cons, List.length_nil, Nat.reduceAdd, Nat.reduceSub, Array.replicate_succ, Array.replicate_zero, List.push_toArray, List.append_toArray, List.nil_append, List.cons_append]
  go_wp2_with fail
  refine cM.out.mono ?_
  rintro en w1 ⟨rfl, hu1⟩
  go_wp2_with fail
  refine ⟨.tuple #[.pointer none, .int .i64 1], by simp [results, Try.results8, go_sem]; try rfl, ?_⟩
  rw [hPR.out]
  exact ⟨rfl, hu1⟩
end Go.Proofs.Ytmnoldikimcafaa
