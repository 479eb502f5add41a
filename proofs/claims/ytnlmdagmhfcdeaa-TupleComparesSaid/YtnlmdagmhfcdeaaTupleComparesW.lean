/- The walk of TupleCompares. -/
import Derived.Test.YtnlmdagmhfcdeaaTI
import Derived.Test.YtnlmdagmhfcdeaaTJ
namespace Go.Proofs.Ytnlmdagmhfcdeaa
open Go.RowKit Go.Amb
set_option linter.unusedVariables false
attribute [local go_sem ↓] Go.wp_at_zero Go.wp_at_succ

set_option maxHeartbeats 1000000 in
theorem compares_any (va vb : Value) (a b : List Part) (w : World) (hna : ∀ p ∈ a, numOk p ∧ p.s.length ≤ 140737488355328) (hnb : ∀ p ∈ b, numOk p ∧ p.s.length ≤ 140737488355328) (hA : Parts w va a) (hB : Parts w vb b) :
    Calls Try.prog 3 #[va, vb] w (Ret (.bool true) w) := by
  have ct := Lib.hid (tCompare va vb a b w hna hnb hA hB)
  have cr := Lib.hid (fun w' (hu : Upd Non w w') => rCompare va vb a b w' hna hnb (hA.non hu) (hB.non hu))
  obtain ⟨aa, ac, rfl, halc, hac, hacell⟩ := parts_at hA
  obtain ⟨ba, bc', rfl, hblc, hbc, hbcell⟩ := parts_at hB
  clear hacell hbcell
  by_cases h : 1000 < a.length ∨ 1000 < b.length
  · by_cases h1 : 1000 < a.length
    · have h1' : (1000 : Int) < a.length := by omega
      go_enter Try.func3, Try.ntmps3
      go_wp2_with fail
      refine (lives02 w).mono ?_
      rintro e w1 ⟨rfl, hu1⟩
      go_wp2_with fail
      go_ret
      exact ⟨rfl, hu1⟩
    · have h1' : ¬ (1000 : Int) < a.length := by omega
      have h2' : (1000 : Int) < b.length := by omega
      go_enter Try.func3, Try.ntmps3
      go_wp2_with fail
      refine (lives02 w).mono ?_
      rintro e w1 ⟨rfl, hu1⟩
      go_wp2_with fail
      go_ret
      exact ⟨rfl, hu1⟩
  · have h1' : ¬ (1000 : Int) < a.length := by omega
    have h2' : ¬ (1000 : Int) < b.length := by omega
    clear h
    generalize cmpR a b = q at *
    obtain ⟨q1, q2⟩ := q
    go_enter Try.func3, Try.ntmps3
    go_wp2_with fail
    refine ct.out.mono ?_
    rintro e w1 ⟨rfl, hu1⟩
    go_wp2_with fail
    refine (cr.out _ hu1).mono ?_
    rintro e w2 ⟨rfl, hu2⟩
    have hu2 := hu1.trans hu2 fun _ _ h => h
    go_wp2_with fail
    refine (lives02 _).mono ?_
    rintro e w3 ⟨rfl, hu3⟩
    go_wp2_with fail
    go_ret
    exact ⟨rfl, hu2.trans hu3 fun _ _ h => h⟩
end Go.Proofs.Ytnlmdagmhfcdeaa
