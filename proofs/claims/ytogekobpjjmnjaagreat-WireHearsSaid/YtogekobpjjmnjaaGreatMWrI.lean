/- The walk over ambryref24.Right (printed by gen/mkright24.py), and Check. -/
import Derived.Test.YtogekobpjjmnjaaGreatMWrX
import Derived.Test.YtogekobpjjmnjaaGreatMBlA
import Derived.Deep.Cut
namespace Go.Proofs.YtogekobpjjmnjaaGreat
open Go.RowKit Go.Amb
set_option linter.unusedVariables false
set_option linter.unusedSimpArgs false
set_option maxRecDepth 100000
attribute [local go_sem ↓] Go.wp_at_zero Go.wp_at_succ
theorem good_snoc {l : List Int} (i : Nat) (h : i < l.length) (h0 : ∀ p ∈ l.take i, 0 ≤ p ∧ p ≤ 255) (h1 : 0 ≤ l[i] ∧ l[i] ≤ 255) : ∀ p ∈ l.take (i + 1), 0 ≤ p ∧ p ≤ 255 := by
  intro p hp
  rw [List.take_add_one, List.getElem?_eq_getElem h, Option.toList_some, List.mem_append, List.mem_singleton] at hp
  rcases hp with hp | rfl
  · exact h0 p hp
  · exact h1
end Go.Proofs.YtogekobpjjmnjaaGreat
