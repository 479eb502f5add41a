/- Plain: the first of so many free pages that follow one another. -/
import Derived.Test.YteeppclnmjlcbaaAJ
namespace Go.Proofs.Yteeppclnmjlcbaa
open Go.RowKit Go.Amb
set_option linter.unusedVariables false

theorem runN_le (B n : Nat) : ∀ (m i : Nat), runN B n i m ≤ m := by
  intro m
  induction m with
  | zero => intro i; exact Nat.le_refl _
  | succ m ih =>
    intro i
    rw [runN]
    split
    · have := ih (i + 1); omega
    · omega
/-- The pages of a run are free. -/
theorem runN_free (B n : Nat) : ∀ (m i j : Nat), j < runN B n i m → i + j < n ∧ B.testBit (i + j) = false := by
  intro m
  induction m with
  | zero => intro i j h; cases h
  | succ m ih =>
    intro i j h
    rw [runN] at h
    by_cases hc : i < n ∧ B.testBit i = false
    · rw [if_pos hc] at h
      cases j with
      | zero => exact hc
      | succ j =>
        have := ih (i + 1) j (by omega)
        rw [show i + (j + 1) = i + 1 + j by omega]
        exact this
    · rw [if_neg hc] at h; cases h
/-- Behind a run that is too short stands a page that is taken, or none. -/
theorem runN_end (B n : Nat) : ∀ (m i : Nat), runN B n i m < m → ¬ (i + runN B n i m < n ∧ B.testBit (i + runN B n i m) = false) := by
  intro m
  induction m with
  | zero => intro i h; cases h
  | succ m ih =>
    intro i h
    by_cases hc : i < n ∧ B.testBit i = false
    · have e : runN B n i (m + 1) = runN B n (i + 1) m + 1 := by rw [runN, if_pos hc]
      rw [e] at h ⊢
      have := ih (i + 1) (by omega)
      rw [show i + (runN B n (i + 1) m + 1) = i + 1 + runN B n (i + 1) m by omega]
      exact this
    · have e : runN B n i (m + 1) = 0 := by rw [runN, if_neg hc]
      rw [e]
      exact hc
/-- Where a page is taken, or there is none, no run reaches beyond. -/
theorem runN_block {B n i p m : Nat} (h : ¬ (p < n ∧ B.testBit p = false)) (hi : i ≤ p) : runN B n i m ≤ p - i := by
  by_cases hr : runN B n i m ≤ p - i
  · exact hr
  · have := runN_free B n m i (p - i) (by omega)
    rw [show i + (p - i) = p by omega] at this
    exact absurd this h
/-- The first page from which on so many are free. -/
def findN (B n k : Nat) : Option Nat := (List.range n).find? fun i => runN B n i k == k
theorem findN_some {B n k i : Nat} (hi : i < n) (h : runN B n i k = k) (hb : ∀ j, j < i → runN B n j k ≠ k) : findN B n k = some i := by
  unfold findN
  rw [List.find?_range_eq_some]
  exact ⟨by simp [h], by simp [hi], fun j hj => by simp [hb j hj]⟩
theorem findN_none {B n k : Nat} (hb : ∀ j, j < n → runN B n j k ≠ k) : findN B n k = none := by
  unfold findN
  rw [List.find?_eq_none]
  intro j hj
  simp [hb j (List.mem_range.1 hj)]
end Go.Proofs.Yteeppclnmjlcbaa
