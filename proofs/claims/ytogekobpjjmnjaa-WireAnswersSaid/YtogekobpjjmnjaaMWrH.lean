/- The reference: tag's Right, Fields, letter, short. -/
import Derived.Test.YtogekobpjjmnjaaMWrA
namespace Go.Proofs.Ytogekobpjjmnjaa
open Go.RowKit Go.Amb
set_option linter.unusedVariables false
set_option linter.unusedSimpArgs false
set_option maxRecDepth 100000
attribute [local go_sem ↓] Go.wp_at_zero Go.wp_at_succ
theorem rTagRight (re im : Int) (w : World) : Calls Try.prog 66 #[tagV re im] w (Ret (.bool (decide (tagOk re im))) w) := by
  unfold tagV
  have hq : decide (tagOk re im) = (decide (0 ≤ re) && (decide (re < 1048573) && (decide (0 ≤ im) && decide (im < 1048573)))) := by
    rw [Bool.eq_iff_iff]
    simp only [Bool.and_eq_true, decide_eq_true_eq]
    exact Iff.rfl
  generalize decide (tagOk re im) = bb at *
  by_cases h1 : 0 ≤ re
  · have d1 := decide_eq_true h1
    by_cases h2 : re < 1048573
    · have d2 := decide_eq_true h2
      by_cases h3 : 0 ≤ im
      · have d3 := decide_eq_true h3
        by_cases h4 : im < 1048573
        · have d4 := decide_eq_true h4
          rw [d1, d2, d3, d4] at hq
          subst hq
          go_enter Try.func66, Try.ntmps66
          go_wp2_with fail
          go_ret
          exact ⟨rfl, (Upd.refl _ _).then_alloc _⟩
        · have d4 := decide_eq_false h4
          rw [d1, d2, d3, d4] at hq
          subst hq
          go_enter Try.func66, Try.ntmps66
          go_wp2_with fail
          go_ret
          exact ⟨rfl, (Upd.refl _ _).then_alloc _⟩
      · have d3 := decide_eq_false h3
        rw [d1, d2, d3] at hq
        subst hq
        go_enter Try.func66, Try.ntmps66
        go_wp2_with fail
        go_ret
        exact ⟨rfl, (Upd.refl _ _).then_alloc _⟩
    · have d2 := decide_eq_false h2
      rw [d1, d2] at hq
      subst hq
      go_enter Try.func66, Try.ntmps66
      go_wp2_with fail
      go_ret
      exact ⟨rfl, (Upd.refl _ _).then_alloc _⟩
  · have d1 := decide_eq_false h1
    rw [d1] at hq
    subst hq
    go_enter Try.func66, Try.ntmps66
    go_wp2_with fail
    go_ret
    exact ⟨rfl, (Upd.refl _ _).then_alloc _⟩
end Go.Proofs.Ytogekobpjjmnjaa
