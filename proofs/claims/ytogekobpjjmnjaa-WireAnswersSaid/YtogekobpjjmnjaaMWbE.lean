/- What Answer tells, in one row (printed by gen/mkwans.py). -/
import Derived.Test.YtogekobpjjmnjaaMWaF
namespace Go.Proofs.Ytogekobpjjmnjaa
open Go.RowKit Go.Amb
set_option linter.unusedVariables false
set_option linter.unusedSimpArgs false
set_option maxRecDepth 100000
attribute [local go_sem ↓] Go.wp_at_zero Go.wp_at_succ
def bytesA (r : Rs) : List UInt8 := if rightA r then putA r else []
def ckA (r : Rs) : Int := if rightA r then 0 else 4
theorem wAnswer2 (r : Rs) (S : Sl) (w : World) (hR : RsAt w r S) (hs : smallA r) (hlt : SlLt S w.heap.size) (hid : ids r) : Calls Try.prog 19 #[rsV r S] w (fun en w' => ∃ bv, en = .returned (.tuple #[bv, .int .i64 (ckA r)]) ∧ Bytes w' bv (bytesA r) ∧ Upd Non w w' ∧ ∀ k, At bv k → w.heap.size ≤ k ∧ k < w'.heap.size) := by
  refine (wAnswer r S w hR hs hlt hid).mono ?_
  rintro en w' (⟨h, v, rfl, ho, hu⟩ | ⟨h, rfl, hu⟩)
  · refine ⟨v, by rw [show ckA r = 0 from if_pos h], ?_, hu, fun k hk => ⟨by have := own_ge ho hk; omega, own_lt ho hk⟩⟩
    rw [show bytesA r = putA r from if_pos h]
    exact ho.bytes
  · refine ⟨.slice none 0 0, by rw [show ckA r = 4 from if_neg h], ?_, hu, fun k hk => by simp [At, Value.ownBlock] at hk⟩
    rw [show bytesA r = [] from if_neg h]
    exact Has.nil _ _
end Go.Proofs.Ytogekobpjjmnjaa
