/- The walks over the readers of package field: what one tells; the statements' own helpers. -/
import Derived.Test.YtgemlapmjbgdkaaFT
namespace Go.Proofs.Ytgemlapmjbgdkaa
open Go.RowKit Go.Amb
variable {L : Nat}
attribute [local go_sem ↓] Go.wp_at_zero Go.wp_at_succ

/-- A call that answers v and leaves the world as it is (but for draws). -/
def Told (v : Value) (w : World) (e : Ending) (w' : World) : Prop := e = .returned v ∧ ∃ n, w' = w.drewN n
theorem drewN_zero (w : World) : w = w.drewN 0 := rfl

theorem fAt (r : Nat) (s : List UInt8) (a : Nat) (e : Int) (w : World) (h : RdAt w r L s a e) :
    Calls Try.prog 19 #[.pointer (some ⟨r, 0, none⟩)] w fun e w' => e = .returned (.int .i64 a) ∧ w = w' := by
  obtain ⟨bv, hr, hB, hn, hL⟩ := h.ex
  obtain ⟨c, f⟩ := cells_of hr
  clear hr
  go_enter Try.func19, Try.ntmps19
  go_wp2_with fail
  go_ret
  exact ⟨rfl, rfl⟩

theorem fErr (r : Nat) (s : List UInt8) (a : Nat) (e : Int) (w : World) (h : RdAt w r L s a e) :
    Calls Try.prog 20 #[.pointer (some ⟨r, 0, none⟩)] w fun x w' => x = .returned (.int .i64 e) ∧ w = w' := by
  obtain ⟨bv, hr, hB, hn, hL⟩ := h.ex
  obtain ⟨c, f⟩ := cells_of hr
  clear hr
  go_enter Try.func20, Try.ntmps20
  go_wp2_with fail
  go_ret
  exact ⟨rfl, rfl⟩

set_option maxHeartbeats 400000 in
theorem fEnd (r : Nat) (s : List UInt8) (a : Nat) (e : Int) (w : World) (h : RdAt w r L s a e) :
    Calls Try.prog 21 #[.pointer (some ⟨r, 0, none⟩)] w (Told (.int .i64 (rdEnd s a e)) w) := by
  have he := Lib.hid (fErr r s a e w h)
  obtain ⟨bv, hr, hB, hn, hL⟩ := h.ex
  obtain ⟨cc, f⟩ := cells_of hr
  clear hr f
  obtain ⟨av, cv, rfl⟩ := bytes_form hB
  clear hB hn
  unfold rdEnd
  by_cases h0 : e = 0
  · subst h0
    rw [if_pos rfl]
    by_cases hl : a < s.length
    · rw [if_pos hl]
      have hl' : (a : Int) < s.length := by omega
      go_enter Try.func21, Try.ntmps21
      go_wp2_with (go_at_call 20; refine he.out.mono ?_; rintro e w' ⟨rfl, rfl⟩)
      go_quiet (fail)
      go_wp2_with fail
      go_ret
      exact ⟨rfl, _, rfl⟩
    · rw [if_neg hl]
      have hl' : ¬ (a : Int) < s.length := by omega
      go_enter Try.func21, Try.ntmps21
      go_wp2_with (go_at_call 20; refine he.out.mono ?_; rintro e w' ⟨rfl, rfl⟩)
      go_quiet (fail)
      go_wp2_with fail
      go_ret
      exact ⟨rfl, _, rfl⟩
  · rw [if_neg h0]
    have hne : (e != 0) = true := by simp [h0]
    go_enter Try.func21, Try.ntmps21
    go_wp2_with (go_at_call 20; refine he.out.mono ?_; rintro e w' ⟨rfl, rfl⟩)
    go_ret
    exact ⟨rfl, 0, rfl⟩

/-- The number of bytes of a width. -/
def wid (k : Nat) : Nat := 2 ^ k

theorem wid_lt (k : Nat) (h : k < 4) : 1 ≤ wid k ∧ wid k ≤ 8 := by
  obtain rfl | rfl | rfl | rfl : k = 0 ∨ k = 1 ∨ k = 2 ∨ k = 3 := by omega
  all_goals decide

set_option maxHeartbeats 400000 in
theorem lPut (base : Nat) (v : Value) (l : List UInt8) (k : Nat) (n : Int) (w : World) (hk : k < 4) (hlo : -9223372036854775808 ≤ n) (hhi : n ≤ 9223372036854775807)
    (hown : Own w base 5 v l) (hlen : l.length + 8 ≤ 140737488355328) (hb : base ≤ w.heap.size) :
    Calls Try.prog 9 #[v, .int .i64 k, .int .i64 n] w (Grew base 5 v (l ++ fld n (wid k)) w) := by
  replace hown := Lib.hid hown
  obtain rfl | rfl | rfl | rfl : k = 0 ∨ k = 1 ∨ k = 2 ∨ k = 3 := by omega
  · go_enter Try.func9, Try.ntmps9
    go_wp2_with fail
    refine (Put8 base v l n w hlo hhi hown.out (by omega) hb).mono ?_
    rintro e w1 ⟨v', rfl, ho, hu, hn⟩
    go_wp2_with fail
    go_ret
    exact ⟨v', rfl, ho, hu, hn⟩
  · go_enter Try.func9, Try.ntmps9
    go_wp2_with fail
    refine (Put16 base v l n w hlo hhi hown.out (by omega) hb).mono ?_
    rintro e w1 ⟨v', rfl, ho, hu, hn⟩
    go_wp2_with fail
    go_ret
    exact ⟨v', rfl, ho, hu, hn⟩
  · go_enter Try.func9, Try.ntmps9
    go_wp2_with fail
    refine (Put32 base v l n w hlo hhi hown.out (by omega) hb).mono ?_
    rintro e w1 ⟨v', rfl, ho, hu, hn⟩
    go_wp2_with fail
    go_ret
    exact ⟨v', rfl, ho, hu, hn⟩
  · go_enter Try.func9, Try.ntmps9
    go_wp2_with fail
    refine (Put64 base v l n w hlo hhi hown.out (by omega) hb).mono ?_
    rintro e w1 ⟨v', rfl, ho, hu, hn⟩
    go_wp2_with fail
    go_ret
    exact ⟨v', rfl, ho, hu, hn⟩

set_option maxHeartbeats 400000 in
theorem lGet (r : Nat) (s : List UInt8) (a : Nat) (e : Int) (k : Nat) (w : World) (hk : k < 4) (h : RdAt w r L s a e) :
    Calls Try.prog 16 #[.pointer (some ⟨r, 0, none⟩), .int .i64 k] w (Rdd r L s (rdNum s a e (wid k)).1 (rdNum s a e (wid k)).2.1 (.int .i64 (rdNum s a e (wid k)).2.2) w) := by
  replace h := Lib.hid h
  obtain rfl | rfl | rfl | rfl : k = 0 ∨ k = 1 ∨ k = 2 ∨ k = 3 := by omega
  · go_enter Try.func16, Try.ntmps16
    go_wp2_with fail
    refine (fU8 r s a e w h.out).mono ?_
    rintro e w1 ⟨rfl, h1, h2⟩
    go_wp2_with fail
    go_ret
    exact ⟨rfl, h1, h2⟩
  · go_enter Try.func16, Try.ntmps16
    go_wp2_with fail
    refine (fU16 r s a e w h.out).mono ?_
    rintro e w1 ⟨rfl, h1, h2⟩
    go_wp2_with fail
    go_ret
    exact ⟨rfl, h1, h2⟩
  · go_enter Try.func16, Try.ntmps16
    go_wp2_with fail
    refine (fU32 r s a e w h.out).mono ?_
    rintro e w1 ⟨rfl, h1, h2⟩
    go_wp2_with fail
    go_ret
    exact ⟨rfl, h1, h2⟩
  · go_enter Try.func16, Try.ntmps16
    go_wp2_with fail
    refine (fI64 r s a e w h.out).mono ?_
    rintro e w1 ⟨rfl, h1, h2⟩
    go_wp2_with fail
    go_ret
    exact ⟨rfl, h1, h2⟩

end Go.Proofs.Ytgemlapmjbgdkaa
