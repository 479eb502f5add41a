/- The walks over the readers of package field: what one tells; the statements' own helpers. -/
import Derived.Test.YtiadbijholnbjaaFT
namespace Go.Proofs.Ytiadbijholnbjaa
open Go.RowKit Go.Amb
variable {L : Nat}
attribute [local go_sem ↓] Go.wp_at_zero Go.wp_at_succ

/-- A call that answers v and leaves the world as it is (but for draws). -/
def Told (v : Value) (w : World) (e : Ending) (w' : World) : Prop := e = .returned v ∧ ∃ n, w' = w.drewN n
theorem drewN_zero (w : World) : w = w.drewN 0 := rfl

theorem fAt (r : Nat) (s : List UInt8) (a : Nat) (e : Int) (w : World) (h : RdAt w r L s a e) :
    Calls Try.prog 35 #[.pointer (some ⟨r, 0, none⟩)] w fun e w' => e = .returned (.int .i64 a) ∧ w = w' := by
  obtain ⟨bv, hr, hB, hn, hL⟩ := h.ex
  obtain ⟨c, f⟩ := cells_of hr
  clear hr
  go_enter Try.func35, Try.ntmps35
  go_wp2_with fail
  go_ret
  exact ⟨rfl, rfl⟩


/-- The number of bytes of a width. -/
def wid (k : Nat) : Nat := 2 ^ k

theorem wid_lt (k : Nat) (h : k < 4) : 1 ≤ wid k ∧ wid k ≤ 8 := by
  obtain rfl | rfl | rfl | rfl : k = 0 ∨ k = 1 ∨ k = 2 ∨ k = 3 := by omega
  all_goals decide


end Go.Proofs.Ytiadbijholnbjaa
