/- The reference's reader: Num, where Text is not reached. -/
import Derived.Test.YtogekobpjjmnjaaGreatMRd
namespace Go.Proofs.YtogekobpjjmnjaaGreat
set_option maxRecDepth 100000
open Go.RowKit Go.Amb
attribute [local go_sem ↓] Go.wp_at_zero Go.wp_at_succ

set_option maxHeartbeats 400000 in
theorem refNum (s : List UInt8) (a : Nat) (e : Int) (m : Nat) (w : World) (ha : a ≤ s.length) (hs : s.length ≤ 140737488355328) (hm : m ≤ 8) :
    Calls Tryz.prog 58 #[rdV s a e, .int .i64 m] w (Ret (.tuple #[rdV s (rdNum s a e m).1 (rdNum s a e m).2.1, .int .i64 (rdNum s a e m).2.2]) w) := by
  by_cases he : e = 0
  · subst he
    by_cases h : a + m ≤ s.length
    · rw [rdNum_ok h]
      have hi : IntKind.i64.wrap ((a : Int) + (m : Int)) = ((a + m : Nat) : Int) := IntWalk.i64_in _ ⟨by omega, by omega⟩
      go_enter Tryz.func58, Tryz.ntmps58
      go_wp2_with fail
      go_region_held3 (fun w' => w'.cell? ⟨w.heap.size, 0, none⟩ = some (.string ⟨s.toArray⟩) ∧ w'.cell? ⟨w.heap.size, 1, none⟩ = some (.int .i64 a)) (go_keep) ((go_at_call 89; refine (refNumber s a m _ h hs hm).mono ?_; rintro e w' ⟨rfl, rfl⟩))
      go_wp2_with fail
      go_returns
      exact ⟨rfl, (((Upd.refl _ _).then_alloc _).then_alloc _).then_drew⟩
    · rw [rdNum_short h]
      go_enter Tryz.func58, Tryz.ntmps58
      go_wp2
      go_returns
      exact ⟨rfl, ((((Upd.refl _ _).then_alloc _).then_alloc _).then_alloc _).then_alloc _⟩
  · rw [rdNum_err he]
    have hne : (e != 0) = true := by simp [he]
    go_enter Tryz.func58, Tryz.ntmps58
    go_wp2_with fail
    go_returns
    exact ⟨rfl, ((Upd.refl _ _).then_alloc _).then_alloc _⟩
end Go.Proofs.YtogekobpjjmnjaaGreat
