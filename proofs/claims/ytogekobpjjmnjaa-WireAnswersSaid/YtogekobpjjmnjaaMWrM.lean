/- The reference: text, put, Bytes. -/
import Derived.Test.YtogekobpjjmnjaaMWrJ
import Derived.Test.YtogekobpjjmnjaaMWrH
import Derived.Test.YtogekobpjjmnjaaMLib
import Derived.Deep.Cut
namespace Go.Proofs.Ytogekobpjjmnjaa
open Go.RowKit Go.Amb
set_option linter.unusedVariables false
set_option linter.unusedSimpArgs false
set_option maxRecDepth 100000
attribute [local go_sem ↓] Go.wp_at_zero Go.wp_at_succ
theorem rText (s : List UInt8) (m : Nat) (w : World) (hs : s.length ≤ 140737488355328) (hm : m ≤ 8) :
    Calls Try.prog 70 #[.string ⟨s.toArray⟩, .int .i64 (m : Int)] w (Ret (.string ⟨(txtF s m).toArray⟩) w) := by
  go_enter Try.func70, Try.ntmps70
  go_wp2_with fail
  refine (refField _ m w (by omega) (by omega) hm).mono ?_
  rintro e w1 ⟨rfl, hu⟩
  have hl : (fld s.length m).length + s.length ≤ 9223372036854775807 := by rw [fld_length]; omega
  go_wp2_with fail
  go_ret
  exact ⟨congrArg (fun b => Ending.returned (.string b)) (ByteArray.mk_append_mk _ _), hu⟩
end Go.Proofs.Ytogekobpjjmnjaa
