/- The walks over package alloc: made, Has, Claim. -/
import Derived.Test.YteeppclnmjlcbaaAF
namespace Go.Proofs.Yteeppclnmjlcbaa
open Go.RowKit Go.Amb
set_option linter.unusedVariables false

theorem aMade (r g n B : Nat) (w : World) (h : AllocAt w r g n B) : Calls Try.prog 23 #[.pointer (some ⟨r, 0, none⟩)] w (Ret (.bool true) w) := by
  have h1 := h.size
  have hp := h.pos
  have hp' : Hid (decide (0 < n) = true) := by show _ = _; simp; omega
  go_enter Try.func23, Try.ntmps23
  go_wp2_with fail
  go_ret
  exact ⟨by rw [← hp'.out]; rfl, Upd.refl _ _⟩
theorem aMade_nil (w : World) : Calls Try.prog 23 #[.pointer none] w (Ret (.bool false) w) := by
  go_enter Try.func23, Try.ntmps23
  go_wp2_with fail
  go_ret
  exact ⟨rfl, Upd.refl _ _⟩
theorem aMade_zero (r : Nat) (w : World) (h : w.cell? ⟨r, 0, none⟩ = some (.int .i64 0)) : Calls Try.prog 23 #[.pointer (some ⟨r, 0, none⟩)] w (Ret (.bool false) w) := by
  go_enter Try.func23, Try.ntmps23
  go_wp2_with fail
  go_ret
  exact ⟨rfl, Upd.refl _ _⟩
end Go.Proofs.Yteeppclnmjlcbaa
