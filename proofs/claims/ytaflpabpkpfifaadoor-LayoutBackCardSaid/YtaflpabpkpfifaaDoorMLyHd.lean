/- The walks over ambryref03.Right, ambryref21.RightHead, head, Head. -/
import Derived.Test.YtaflpabpkpfifaaDoorMLyK
import Derived.Test.YtaflpabpkpfifaaDoorMRefA
namespace Go.Proofs.YtaflpabpkpfifaaDoor
set_option maxRecDepth 100000
open Go.RowKit Go.Amb
set_option linter.unusedVariables false
attribute [local go_sem ↓] Go.wp_at_zero Go.wp_at_succ

set_option maxHeartbeats 1000000 in
theorem qRight (re im : Int) (w : World) : Calls Tryd.prog 72 #[tagV re im] w (Ret (.bool (decide (tagOk re im))) w) := by
  unfold tagV
  have hq : decide (tagOk re im) = (decide (0 ≤ re) && (decide (re < 1048573) && (decide (0 ≤ im) && decide (im < 1048573)))) := by
    rw [Bool.eq_iff_iff]
    simp only [Bool.and_eq_true, decide_eq_true_eq]
    constructor
    · rintro ⟨⟨h1, h2⟩, h3, h4⟩; exact ⟨h1, h2, h3, h4⟩
    · rintro ⟨h1, h2, h3, h4⟩; exact ⟨⟨h1, h2⟩, h3, h4⟩
  generalize decide (tagOk re im) = bb at *
  by_cases h1 : 0 ≤ re
  · have d1 := decide_eq_true h1
    by_cases h2 : re < 1048573
    · have d2 := decide_eq_true h2
      by_cases h3 : 0 ≤ im
      · have d3 := decide_eq_true h3
        by_cases h4 : im < 1048573
        · have d4 := decide_eq_true h4
          rw [d1, d2, d3, d4] at hq
          subst hq
          go_enter Tryd.func72, Tryd.ntmps72
          go_wp2_with fail
          go_ret
          exact ⟨rfl, (Upd.refl _ _).then_alloc _⟩
        · have d4 := decide_eq_false h4
          rw [d1, d2, d3, d4] at hq
          subst hq
          go_enter Tryd.func72, Tryd.ntmps72
          go_wp2_with fail
          go_ret
          exact ⟨rfl, (Upd.refl _ _).then_alloc _⟩
      · have d3 := decide_eq_false h3
        rw [d1, d2, d3] at hq
        subst hq
        go_enter Tryd.func72, Tryd.ntmps72
        go_wp2_with fail
        go_ret
        exact ⟨rfl, (Upd.refl _ _).then_alloc _⟩
    · have d2 := decide_eq_false h2
      rw [d1, d2] at hq
      subst hq
      go_enter Tryd.func72, Tryd.ntmps72
      go_wp2_with fail
      go_ret
      exact ⟨rfl, (Upd.refl _ _).then_alloc _⟩
  · have d1 := decide_eq_false h1
    rw [d1] at hq
    subst hq
    go_enter Tryd.func72, Tryd.ntmps72
    go_wp2_with fail
    go_ret
    exact ⟨rfl, (Upd.refl _ _).then_alloc _⟩
theorem tag_eql (a b c d : Int) (w : World) : (binOp .eql 46 (.agg #[.int .i64 a, .int .i64 b]) (.agg #[.int .i64 c, .int .i64 d])).run Tryd.prog w = .ok (.bool (decide (a = c) && decide (b = d))) w := by
  have hs : Program.stoodInHeld Tryd.prog 46 = false := by kernel_rfl
  rw [run_eql_struct, run_equalIn_agg w 9999 46 _ _ (by kernel_rfl) hs]
  simp only [Program.fieldsOf, Tryd.underlying46]
  simp [Op.eqFields, go_sem]
  by_cases h1 : a = c
  · by_cases h2 : b = d <;> simp [h1, h2]
  · simp [h1]
set_option maxHeartbeats 2000000 in
theorem qRightHead (h : Hd) (w : World) : Calls Tryd.prog 53 #[hdV h] w (Ret (.bool (decide (HdOk h))) w) := by
  have hrt := qRight h.re h.im
  have hgu := tag_eqGuard .eql
  have hne := tag_eql h.re h.im 0 0
  obtain ⟨s, re, im, gone, null⟩ := h
  simp only at hrt hne
  unfold hdV
  unfold tagV at hrt
  by_cases h1 : 0 ≤ s
  · have d1 := decide_eq_true h1
    by_cases h2 : s ≤ 2560
    · have d2 := decide_eq_true h2
      by_cases ht : tagOk re im
      · rw [decide_eq_true ht] at hrt
        replace hrt := Lib.hid hrt
        cases gone with
        | false =>
          rw [decide_eq_true (show HdOk ⟨s, re, im, false, null⟩ from ⟨h1, h2, ht, fun e => by cases e⟩)]
          replace ht := Lib.hid ht
          go_enter Tryd.func53, Tryd.ntmps53
          go_wp2_with fail
          refine (hrt.out _).mono ?_
          rintro e w1 ⟨rfl, hB⟩
          replace hB : HdBox w s re im false null w1 := hB
          obtain ⟨c0, c1, c2, c3, c4⟩ := hB.cells
          go_wp2_with fail
          go_ret
          exact ⟨rfl, hB.upd⟩
        | true =>
          by_cases h3 : s = 0
          · have h3a : (s == 0) = true := by simp [h3]
            by_cases h4 : re = 0 ∧ im = 0
            · rw [decide_eq_true (show HdOk ⟨s, re, im, true, null⟩ from ⟨h1, h2, ht, fun _ => ⟨h3, h4.1, h4.2⟩⟩)]
              rw [show (decide (re = 0) && decide (im = 0)) = true by simp [h4]] at hne
              replace ht := Lib.hid ht
              replace h3 := Lib.hid h3
              replace h4 := Lib.hid h4
              go_enter Tryd.func53, Tryd.ntmps53
              go_wp2_with fail
              refine (hrt.out _).mono ?_
              rintro e w1 ⟨rfl, hB⟩
              replace hB : HdBox w s re im true null w1 := hB
              obtain ⟨c0, c1, c2, c3, c4⟩ := hB.cells
              go_wp2_with fail
              go_ret
              exact ⟨rfl, hB.upd⟩
            · rw [decide_eq_false (show ¬ HdOk ⟨s, re, im, true, null⟩ from fun e => h4 (e.2.2.2 rfl).2)]
              rw [show (decide (re = 0) && decide (im = 0)) = false by rw [← Bool.not_eq_true, Bool.and_eq_true, decide_eq_true_eq, decide_eq_true_eq]; exact h4] at hne
              replace ht := Lib.hid ht
              replace h3 := Lib.hid h3
              replace h4 := Lib.hid h4
              go_enter Tryd.func53, Tryd.ntmps53
              go_wp2_with fail
              refine (hrt.out _).mono ?_
              rintro e w1 ⟨rfl, hB⟩
              replace hB : HdBox w s re im true null w1 := hB
              obtain ⟨c0, c1, c2, c3, c4⟩ := hB.cells
              go_wp2_with fail
              go_ret
              exact ⟨rfl, hB.upd⟩
          · have h3a : (s == 0) = false := by simp [h3]
            rw [decide_eq_false (show ¬ HdOk ⟨s, re, im, true, null⟩ from fun e => h3 (e.2.2.2 rfl).1)]
            replace ht := Lib.hid ht
            go_enter Tryd.func53, Tryd.ntmps53
            go_wp2_with fail
            refine (hrt.out _).mono ?_
            rintro e w1 ⟨rfl, hB⟩
            replace hB : HdBox w s re im true null w1 := hB
            obtain ⟨c0, c1, c2, c3, c4⟩ := hB.cells
            go_wp2_with fail
            go_ret
            exact ⟨rfl, hB.upd⟩
      · rw [decide_eq_false ht] at hrt
        replace hrt := Lib.hid hrt
        rw [decide_eq_false (show ¬ HdOk ⟨s, re, im, gone, null⟩ from fun e => ht e.2.2.1)]
        replace ht := Lib.hid ht
        go_enter Tryd.func53, Tryd.ntmps53
        go_wp2_with fail
        refine (hrt.out _).mono ?_
        rintro e w1 ⟨rfl, hB⟩
        replace hB : HdBox w s re im gone null w1 := hB
        obtain ⟨c0, c1, c2, c3, c4⟩ := hB.cells
        go_wp2_with fail
        go_ret
        exact ⟨rfl, hB.upd⟩
    · have d2 := decide_eq_false h2
      rw [decide_eq_false (show ¬ HdOk ⟨s, re, im, gone, null⟩ from fun e => h2 e.2.1)]
      clear hrt
      go_enter Tryd.func53, Tryd.ntmps53
      go_wp2_with fail
      go_ret
      exact ⟨rfl, (Upd.refl _ _).then_alloc _⟩
  · have d1 := decide_eq_false h1
    rw [decide_eq_false (show ¬ HdOk ⟨s, re, im, gone, null⟩ from fun e => h1 e.1)]
    clear hrt
    go_enter Tryd.func53, Tryd.ntmps53
    go_wp2_with fail
    go_ret
    exact ⟨rfl, (Upd.refl _ _).then_alloc _⟩
theorem txt_add (a b : Str) : (⟨a.toArray⟩ : ByteArray) ++ ⟨b.toArray⟩ = ⟨(a ++ b).toArray⟩ := ByteArray.mk_append_mk a b
end Go.Proofs.YtaflpabpkpfifaaDoor
