/- The reference's Read: the walk. -/
import Derived.Test.YtogekobpjjmnjaaMWrZb
import Derived.Test.YtogekobpjjmnjaaMWrM
namespace Go.Proofs.Ytogekobpjjmnjaa
open Go.RowKit Go.Amb
set_option linter.unusedVariables false
set_option linter.unusedSimpArgs false
set_option maxRecDepth 100000
attribute [local go_sem ↓] Go.wp_at_zero Go.wp_at_succ
theorem str_beq (a b : List UInt8) : ((⟨a.toArray⟩ : ByteArray) == ⟨b.toArray⟩) = decide (a = b) := by
  show (a.toArray == b.toArray) = _
  rw [List.beq_toArray]
  by_cases h : a = b
  · subst h; simp
  · simp [h]
theorem str_bne {a b : List UInt8} (h : ¬ a = b) : ((⟨a.toArray⟩ : ByteArray) != ⟨b.toArray⟩) = true := by
  unfold bne
  rw [str_beq, decide_eq_false h]; rfl
end Go.Proofs.Ytogekobpjjmnjaa
