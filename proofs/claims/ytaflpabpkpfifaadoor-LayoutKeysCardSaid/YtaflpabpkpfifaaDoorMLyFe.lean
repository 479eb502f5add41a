/- The walks over the readers of package field: whether one has failed, whether all is read (FU without At, of which this seat has the name alone). -/
import Derived.Test.YtaflpabpkpfifaaDoorMFT
namespace Go.Proofs.YtaflpabpkpfifaaDoor
set_option maxRecDepth 100000
open Go.RowKit Go.Amb
variable {L : Nat}
attribute [local go_sem ↓] Go.wp_at_zero Go.wp_at_succ

/-- A call that answers v and leaves the world as it is (but for draws). -/
def Told (v : Value) (w : World) (e : Ending) (w' : World) : Prop := e = .returned v ∧ ∃ n, w' = w.drewN n
theorem drewN_zero (w : World) : w = w.drewN 0 := rfl

theorem fErr (r : Nat) (s : List UInt8) (a : Nat) (e : Int) (w : World) (h : RdAt w r L s a e) :
    Calls Tryd.prog 70 #[.pointer (some ⟨r, 0, none⟩)] w fun x w' => x = .returned (.int .i64 e) ∧ w = w' := by
  obtain ⟨bv, hr, hB, hn, hL⟩ := h.ex
  obtain ⟨c, f⟩ := cells_of hr
  clear hr
  go_enter Tryd.func70, Tryd.ntmps70
  go_wp2_with fail
  go_ret
  exact ⟨rfl, rfl⟩

set_option maxHeartbeats 400000 in
theorem fEnd (r : Nat) (s : List UInt8) (a : Nat) (e : Int) (w : World) (h : RdAt w r L s a e) :
    Calls Tryd.prog 51 #[.pointer (some ⟨r, 0, none⟩)] w (Told (.int .i64 (rdEnd s a e)) w) := by
  have he := Lib.hid (fErr r s a e w h)
  obtain ⟨bv, hr, hB, hn, hL⟩ := h.ex
  obtain ⟨cc, f⟩ := cells_of hr
  clear hr f
  obtain ⟨av, cv, rfl⟩ := bytes_form hB
  clear hB hn
  unfold rdEnd
  by_cases h0 : e = 0
  · subst h0
    rw [if_pos rfl]
    by_cases hl : a < s.length
    · rw [if_pos hl]
      have hl' : (a : Int) < s.length := by omega
      go_enter Tryd.func51, Tryd.ntmps51
      go_wp2_with (go_at_call 70; refine he.out.mono ?_; rintro e w' ⟨rfl, rfl⟩)
      go_quiet (fail)
      go_wp2_with fail
      go_ret
      exact ⟨rfl, _, rfl⟩
    · rw [if_neg hl]
      have hl' : ¬ (a : Int) < s.length := by omega
      go_enter Tryd.func51, Tryd.ntmps51
      go_wp2_with (go_at_call 70; refine he.out.mono ?_; rintro e w' ⟨rfl, rfl⟩)
      go_quiet (fail)
      go_wp2_with fail
      go_ret
      exact ⟨rfl, _, rfl⟩
  · rw [if_neg h0]
    have hne : (e != 0) = true := by simp [h0]
    go_enter Tryd.func51, Tryd.ntmps51
    go_wp2_with (go_at_call 70; refine he.out.mono ?_; rintro e w' ⟨rfl, rfl⟩)
    go_ret
    exact ⟨rfl, 0, rfl⟩

end Go.Proofs.YtaflpabpkpfifaaDoor
