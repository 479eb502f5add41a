/- The walks over ambrylaw02.TupleReads and TupleBack. -/
import Derived.Test.YtnlmdagmhfcdeaaTP
import Derived.Test.YtnlmdagmhfcdeaaTK
import Derived.Test.YtnlmdagmhfcdeaaTupleOrderW
namespace Go.Proofs.Ytnlmdagmhfcdeaa
open Go.RowKit Go.Amb
set_option linter.unusedVariables false
attribute [local go_sem ↓] Go.wp_at_zero Go.wp_at_succ

set_option maxHeartbeats 1000000 in
theorem reads_any (s : List UInt8) (w : World) : Calls Try.prog 8 #[.string ⟨s.toArray⟩] w (Ret (.bool true) w) := by
  have hd := Lib.hid (fun w => tDecode s w)
  have hr := Lib.hid (fun w => rDecode s w)
  generalize decR s = q at *
  obtain ⟨m, x⟩ := q
  go_enter Try.func8, Try.ntmps8
  go_wp2_with fail
  refine (hd.out _).mono ?_
  rintro e w1 ⟨v1, rfl, hP1, hu1, -⟩
  go_wp2_with fail
  refine (hr.out _).mono ?_
  rintro e w2 ⟨v2, rfl, hP2, hu2, -⟩
  replace hP1 : Parts w2 v1 m := hP1.non hu2
  have hu := hu1.trans hu2 fun _ _ h => h
  go_wp2_with fail
  refine (rSame v1 v2 m m _ hP1 hP2).mono ?_
  rintro e w3 ⟨rfl, hu3⟩
  have hu' := hu.trans hu3 fun _ _ h => h
  simp only [decide_true]
  go_wp2_with fail
  refine (lives02 _).mono ?_
  rintro e w4 ⟨rfl, hu4⟩
  go_wp2_with fail
  go_ret
  exact ⟨rfl, hu'.trans hu4 fun _ _ h => h⟩
end Go.Proofs.Ytnlmdagmhfcdeaa
