/- The walk of FieldNil. -/
import Derived.Test.YtgemlapmjbgdkaaFL
namespace Go.Proofs.Ytgemlapmjbgdkaa
open Go.RowKit Go.Amb
attribute [local go_sem ↓] Go.wp_at_zero Go.wp_at_succ

set_option maxHeartbeats 1000000 in
theorem nil_none (most : Int) (w : World) : Calls Try.prog 6 #[.int .i64 most, .bool false] w (Ret (.bool true) w) := by
  go_enter Try.func6, Try.ntmps6
  go_wp2_with (first | (go_at_call 13; refine (lives01 _).mono ?_; rintro e w1 ⟨rfl, hu⟩) | go_in)
  go_ret
  exact ⟨rfl, hu⟩

set_option maxHeartbeats 1000000 in
theorem nil_made (most : Int) (w : World) : Calls Try.prog 6 #[.int .i64 most, .bool true] w (Ret (.bool true) w) := by
  go_enter Try.func6, Try.ntmps6
  go_wp2_with (first | (go_at_call 13; refine (lives01 _).mono ?_; rintro e w1 ⟨rfl, hu⟩) | go_in)
  go_ret
  exact ⟨rfl, (Upd.alloc Non w _).trans hu fun _ _ h => h⟩

theorem nil_all (most : Int) (made : Bool) (w : World) : Calls Try.prog 6 #[.int .i64 most, .bool made] w (Ret (.bool true) w) := by
  cases made
  · exact nil_none most w
  · exact nil_made most w
end Go.Proofs.Ytgemlapmjbgdkaa
