/- The walks over the readers of package field: what moves them. -/
import Derived.Test.YtgemlapmjbgdkaaFR
namespace Go.Proofs.Ytgemlapmjbgdkaa
open Go.RowKit Go.Amb
variable {L : Nat}
attribute [local go_sem ↓] Go.wp_at_zero Go.wp_at_succ

theorem bytes_piece {w : World} {g off cap : Nat} {s : List UInt8} (h : Bytes w (.slice (some ⟨g, off, none⟩) s.length cap) s) (lo n c : Nat) (h1 : lo + n ≤ s.length) (hc : n ≤ c) (hm : c ≤ maxLen) :
    Has w 1 (.slice (some ⟨g, off + lo, none⟩) n c) n (bc ((s.drop lo).take n)) := by
  refine ⟨by rw [bc_length]; simp; omega, _, _, rfl, hc, hm, .inr ⟨g, off + lo, rfl, fun j u hj => ?_⟩⟩
  obtain ⟨hl, rfl⟩ := (bc_get _ _ _).1 hj
  obtain ⟨hl0, a, c', hv, h1', h2', h3'⟩ := h
  injection hv with e1 _ e2
  subst e1; subst e2
  simp only [List.length_take, List.length_drop] at hl
  rcases h3' with h3' | ⟨g', off', he, hc'⟩
  · omega
  · injection he with he
    injection he with e3 e4 _
    subst e3; subst e4
    have := hc' (lo + j) (.int .u8 (s[lo + j].toNat : Int)) ((bc_get _ _ _).2 ⟨by omega, rfl⟩)
    rw [Nat.add_assoc, this]
    simp
theorem bytes_setCell {w : World} {v : Value} {s : List UInt8} {p : Addr} (h : Bytes w v s) (hn : ∀ k, At v k → k ≠ p.block) (u : Value) : Bytes (w.setCell p u) v s :=
  h.upd (Upd.setCell (S := fun k => k = p.block) w rfl u) fun k hk e => hn k hk e
theorem RdAt.move {w : World} {r : Nat} {s : List UInt8} {a a' : Nat} {e : Int} (h : RdAt w r L s a e) (ha : a' ≤ s.length) {x : Int} (hx : x = a') : RdAt (w.setCell ⟨r, 2, none⟩ (.int .i64 x)) r L s a' e := by
  subst hx
  obtain ⟨bv, hr, hB, hn, hL⟩ := h.ex
  exact ⟨h.len, ha, bv, by rw [heap_setCell_same w r 2 _ _ _ hr]; rfl, bytes_setCell hB (fun k hk => Nat.ne_of_lt (hn k hk).2) _, hn, hL⟩
theorem RdAt.fail {w : World} {r : Nat} {s : List UInt8} {a : Nat} {e : Int} (h : RdAt w r L s a e) (e' : Int) : RdAt (w.setCell ⟨r, 3, none⟩ (.int .i64 e')) r L s a e' := by
  obtain ⟨bv, hr, hB, hn, hL⟩ := h.ex
  exact ⟨h.len, h.le, bv, by rw [heap_setCell_same w r 3 _ _ _ hr]; rfl, bytes_setCell hB (fun k hk => Nat.ne_of_lt (hn k hk).2) _, hn, hL⟩
theorem RdAt.upd {S : Nat → Prop} {w w' : World} {r : Nat} {s : List UInt8} {a : Nat} {e : Int} (h : RdAt w r L s a e) (hu : Upd S w w') (hS : ∀ k, k < w.heap.size → S k → k < L ∨ r < k) : RdAt w' r L s a e := by
  obtain ⟨bv, hr, hB, hn, hL⟩ := h.ex
  refine ⟨h.len, h.le, bv, hu.heap hr (fun hs => by have := hS r (heap_lt hr) hs; omega), ?_, hn, hL⟩
  have hu' : Upd (fun k => S k ∧ k < w.heap.size) w w' := ⟨hu.os, hu.tape, hu.output, hu.size, fun k hk hs => hu.block k hk fun h => hs ⟨h, hk⟩⟩
  exact hB.upd hu' fun k hk hs => by have h1 := hn k hk; have h2 := hS k hs.2 hs.1; omega
theorem RdAt.non {w w' : World} {r : Nat} {s : List UInt8} {a : Nat} {e : Int} (h : RdAt w r L s a e) (hu : Upd Non w w') : RdAt w' r L s a e := h.upd hu fun _ _ h => h.elim
theorem RdAt.lt {w : World} {r : Nat} {s : List UInt8} {a : Nat} {e : Int} (h : RdAt w r L s a e) : r < w.heap.size := by obtain ⟨bv, hr, _⟩ := h.ex; exact heap_lt hr

/-- What a reading call leaves: its answer; the reader at a', with error e'; nothing else old is written. -/
def Rdd (r L : Nat) (s : List UInt8) (a' : Nat) (e' : Int) (v : Value) (w : World) (e : Ending) (w' : World) : Prop := e = .returned v ∧ RdAt w' r L s a' e' ∧ Upd (fun k => k = r) w w'

set_option maxHeartbeats 800000 in
theorem take_err_plain (r : Nat) (s : List UInt8) (a m : Nat) (e : Int) (w : World) (h : RdAt w r L s a e) (he : ¬ e = 0) :
    Calls Try.prog 36 #[.pointer (some ⟨r, 0, none⟩), .int .i64 m, .func (.func 37) #[] #[]] w (Rdd r L s a e (.int .i64 0) w) := by
  obtain ⟨bv, hr, hB, hn, hL⟩ := h.ex
  obtain ⟨c, f⟩ := cells_of hr
  replace hr := Lib.hid hr
  have hee : (e == 0) = false := by simp [he]
  go_enter Try.func36, Try.ntmps36
  go_wp2
  go_ret
  exact ⟨rfl, h, Upd.refl _ _⟩

set_option maxHeartbeats 800000 in
theorem take_short_plain (r : Nat) (s : List UInt8) (a m : Nat) (w : World) (h : RdAt w r L s a 0) (hs : ¬ a + m ≤ s.length) :
    Calls Try.prog 36 #[.pointer (some ⟨r, 0, none⟩), .int .i64 m, .func (.func 37) #[] #[]] w (Rdd r L s a 3 (.int .i64 0) w) := by
  obtain ⟨bv, hr, hB, hn, hL⟩ := h.ex
  obtain ⟨c, f⟩ := cells_of hr
  replace hr := Lib.hid hr
  go_enter Try.func36, Try.ntmps36
  go_wp2_with (first | (go_at_call 35; refine (fNumber_short r bv s a m 0 w hr.out hB h.le h.len hs).mono ?_; rintro e w' ⟨rfl, rfl⟩) | go_in)
  go_ret
  exact ⟨rfl, h.fail 3, Upd.setCell (S := fun k => k = r) w rfl _⟩

set_option maxHeartbeats 800000 in
theorem take_ok_plain (r : Nat) (s : List UInt8) (a m : Nat) (w : World) (h : RdAt w r L s a 0) (hs : a + m ≤ s.length) (h1 : 1 ≤ m) (h8 : m ≤ 8) :
    Calls Try.prog 36 #[.pointer (some ⟨r, 0, none⟩), .int .i64 m, .func (.func 37) #[] #[]] w (Rdd r L s (a + m) 0 (.int .i64 (wrap64 (numL ((s.drop a).take m)))) w) := by
  obtain ⟨bv, hr, hB, hn, hL⟩ := h.ex
  obtain ⟨g, off, cap, rfl, hcap, hmx, hc⟩ := bytes_at hB (by omega)
  obtain ⟨c, f⟩ := cells_of hr
  replace hr := Lib.hid hr
  replace hc := Lib.hid hc
  have hlen := h.len
  have hi : IntKind.i64.wrap ((a : Int) + (m : Int)) = (a : Int) + m := IntWalk.i64_in _ ⟨by omega, by omega⟩
  go_enter Try.func36, Try.ntmps36
  go_wp2_with (first | (go_at_call 35; refine (fNumber_ok r g off cap s a m 0 w hr.out hcap hmx hc.out hlen hs h1 h8).mono ?_; rintro e w' ⟨rfl, rfl⟩) | go_in)
  go_ret
  exact ⟨rfl, h.move hs (by omega), Upd.setCell (S := fun k => k = r) w rfl _⟩
set_option maxHeartbeats 800000 in
theorem take_err_i64 (r : Nat) (s : List UInt8) (a m : Nat) (e : Int) (w : World) (h : RdAt w r L s a e) (he : ¬ e = 0) :
    Calls Try.prog 36 #[.pointer (some ⟨r, 0, none⟩), .int .i64 m, .func (.func 38) #[] #[]] w (Rdd r L s a e (.int .i64 0) w) := by
  obtain ⟨bv, hr, hB, hn, hL⟩ := h.ex
  obtain ⟨c, f⟩ := cells_of hr
  replace hr := Lib.hid hr
  have hee : (e == 0) = false := by simp [he]
  go_enter Try.func36, Try.ntmps36
  go_wp2
  go_ret
  exact ⟨rfl, h, Upd.refl _ _⟩

set_option maxHeartbeats 800000 in
theorem take_short_i64 (r : Nat) (s : List UInt8) (a m : Nat) (w : World) (h : RdAt w r L s a 0) (hs : ¬ a + m ≤ s.length) :
    Calls Try.prog 36 #[.pointer (some ⟨r, 0, none⟩), .int .i64 m, .func (.func 38) #[] #[]] w (Rdd r L s a 3 (.int .i64 0) w) := by
  obtain ⟨bv, hr, hB, hn, hL⟩ := h.ex
  obtain ⟨c, f⟩ := cells_of hr
  replace hr := Lib.hid hr
  go_enter Try.func36, Try.ntmps36
  go_wp2_with (first | (go_at_call 35; refine (fNumber_short r bv s a m 0 w hr.out hB h.le h.len hs).mono ?_; rintro e w' ⟨rfl, rfl⟩) | go_in)
  go_ret
  exact ⟨rfl, h.fail 3, Upd.setCell (S := fun k => k = r) w rfl _⟩

set_option maxHeartbeats 800000 in
theorem take_ok_i64 (r : Nat) (s : List UInt8) (a m : Nat) (w : World) (h : RdAt w r L s a 0) (hs : a + m ≤ s.length) (h1 : 1 ≤ m) (h8 : m ≤ 8) :
    Calls Try.prog 36 #[.pointer (some ⟨r, 0, none⟩), .int .i64 m, .func (.func 38) #[] #[]] w (Rdd r L s (a + m) 0 (.int .i64 (wrap64 (numL ((s.drop a).take m)))) w) := by
  obtain ⟨bv, hr, hB, hn, hL⟩ := h.ex
  obtain ⟨g, off, cap, rfl, hcap, hmx, hc⟩ := bytes_at hB (by omega)
  obtain ⟨c, f⟩ := cells_of hr
  replace hr := Lib.hid hr
  replace hc := Lib.hid hc
  have hlen := h.len
  have hi : IntKind.i64.wrap ((a : Int) + (m : Int)) = (a : Int) + m := IntWalk.i64_in _ ⟨by omega, by omega⟩
  go_enter Try.func36, Try.ntmps36
  go_wp2_with (first | (go_at_call 35; refine (fNumber_ok r g off cap s a m 0 w hr.out hcap hmx hc.out hlen hs h1 h8).mono ?_; rintro e w' ⟨rfl, rfl⟩) | go_in)
  go_ret
  exact ⟨rfl, h.move hs (by omega), Upd.setCell (S := fun k => k = r) w rfl _⟩

theorem take_plain (r : Nat) (s : List UInt8) (a m : Nat) (e : Int) (w : World) (h : RdAt w r L s a e) (h1 : 1 ≤ m) (h8 : m ≤ 8) :
    Calls Try.prog 36 #[.pointer (some ⟨r, 0, none⟩), .int .i64 m, .func (.func 37) #[] #[]] w (Rdd r L s (rdNum s a e m).1 (rdNum s a e m).2.1 (.int .i64 (rdNum s a e m).2.2) w) := by
  by_cases he : e = 0
  · subst he
    by_cases hs : a + m ≤ s.length
    · rw [rdNum_ok hs]; exact take_ok_plain r s a m w h hs h1 h8
    · rw [rdNum_short hs]; exact take_short_plain r s a m w h hs
  · rw [rdNum_err he]; exact take_err_plain r s a m e w h he
theorem take_i64 (r : Nat) (s : List UInt8) (a m : Nat) (e : Int) (w : World) (h : RdAt w r L s a e) (h1 : 1 ≤ m) (h8 : m ≤ 8) :
    Calls Try.prog 36 #[.pointer (some ⟨r, 0, none⟩), .int .i64 m, .func (.func 38) #[] #[]] w (Rdd r L s (rdNum s a e m).1 (rdNum s a e m).2.1 (.int .i64 (rdNum s a e m).2.2) w) := by
  by_cases he : e = 0
  · subst he
    by_cases hs : a + m ≤ s.length
    · rw [rdNum_ok hs]; exact take_ok_i64 r s a m w h hs h1 h8
    · rw [rdNum_short hs]; exact take_short_i64 r s a m w h hs
  · rw [rdNum_err he]; exact take_err_i64 r s a m e w h he

theorem fU8 (r : Nat) (s : List UInt8) (a : Nat) (e : Int) (w : World) (h : RdAt w r L s a e) :
    Calls Try.prog 23 #[.pointer (some ⟨r, 0, none⟩)] w (Rdd r L s (rdNum s a e 1).1 (rdNum s a e 1).2.1 (.int .i64 (rdNum s a e 1).2.2) w) := by
  go_enter Try.func23, Try.ntmps23
  go_wp2_with fail
  refine (take_plain r s a 1 e w h (by decide) (by decide)).mono ?_
  rintro e w1 ⟨rfl, h1, h2⟩
  go_wp2_with fail
  go_ret
  exact ⟨rfl, h1, h2⟩
theorem fU16 (r : Nat) (s : List UInt8) (a : Nat) (e : Int) (w : World) (h : RdAt w r L s a e) :
    Calls Try.prog 24 #[.pointer (some ⟨r, 0, none⟩)] w (Rdd r L s (rdNum s a e 2).1 (rdNum s a e 2).2.1 (.int .i64 (rdNum s a e 2).2.2) w) := by
  go_enter Try.func24, Try.ntmps24
  go_wp2_with fail
  refine (take_plain r s a 2 e w h (by decide) (by decide)).mono ?_
  rintro e w1 ⟨rfl, h1, h2⟩
  go_wp2_with fail
  go_ret
  exact ⟨rfl, h1, h2⟩
theorem fU32 (r : Nat) (s : List UInt8) (a : Nat) (e : Int) (w : World) (h : RdAt w r L s a e) :
    Calls Try.prog 25 #[.pointer (some ⟨r, 0, none⟩)] w (Rdd r L s (rdNum s a e 4).1 (rdNum s a e 4).2.1 (.int .i64 (rdNum s a e 4).2.2) w) := by
  go_enter Try.func25, Try.ntmps25
  go_wp2_with fail
  refine (take_plain r s a 4 e w h (by decide) (by decide)).mono ?_
  rintro e w1 ⟨rfl, h1, h2⟩
  go_wp2_with fail
  go_ret
  exact ⟨rfl, h1, h2⟩
theorem fI64 (r : Nat) (s : List UInt8) (a : Nat) (e : Int) (w : World) (h : RdAt w r L s a e) :
    Calls Try.prog 26 #[.pointer (some ⟨r, 0, none⟩)] w (Rdd r L s (rdNum s a e 8).1 (rdNum s a e 8).2.1 (.int .i64 (rdNum s a e 8).2.2) w) := by
  go_enter Try.func26, Try.ntmps26
  go_wp2_with fail
  refine (take_i64 r s a 8 e w h (by decide) (by decide)).mono ?_
  rintro e w1 ⟨rfl, h1, h2⟩
  go_wp2_with fail
  go_ret
  exact ⟨rfl, h1, h2⟩

set_option maxHeartbeats 800000 in
theorem fText_err (r : Nat) (s : List UInt8) (a : Nat) (e most : Int) (w : World) (h : RdAt w r L s a e) (he : ¬ e = 0) :
    Calls Try.prog 18 #[.pointer (some ⟨r, 0, none⟩), .int .i64 most] w (Rdd r L s a e (.string ⟨[].toArray⟩) w) := by
  obtain ⟨bv, hr, hB, hn, hL⟩ := h.ex
  obtain ⟨c, f⟩ := cells_of hr
  replace hr := Lib.hid hr
  have hee : (e == 0) = false := by simp [he]
  go_enter Try.func18, Try.ntmps18
  go_wp2
  go_ret
  exact ⟨rfl, h, Upd.refl _ _⟩

set_option maxHeartbeats 800000 in
theorem fText_head (r : Nat) (s : List UInt8) (a : Nat) (most : Int) (w : World) (h : RdAt w r L s a 0) (hs : ¬ a + 4 ≤ s.length) :
    Calls Try.prog 18 #[.pointer (some ⟨r, 0, none⟩), .int .i64 most] w (Rdd r L s a 3 (.string ⟨[].toArray⟩) w) := by
  obtain ⟨bv, hr, hB, hn, hL⟩ := h.ex
  obtain ⟨c, f⟩ := cells_of hr
  replace hr := Lib.hid hr
  have hl := h.len
  have hl2 := h.le
  go_enter Try.func18, Try.ntmps18
  go_wp2_with (first | (go_at_call 35; refine (fNumber_short r bv s a 4 0 w hr.out hB h.le h.len hs).mono ?_; rintro e w' ⟨rfl, rfl⟩) | go_in)
  go_ret
  exact ⟨rfl, h.fail 3, Upd.setCell (S := fun k => k = r) w rfl _⟩

section
variable (r : Nat) (s : List UInt8) (a : Nat) (most : Int) (w : World) (h : RdAt w r L s a 0) (hs : a + 4 ≤ s.length) (z : Nat) (hq : numL ((s.drop a).take 4) = z) (hz : z < 4294967296)
include h hs hq hz
set_option maxHeartbeats 800000 in
theorem fText_big (h2 : max 0 most < (z : Int)) :
    Calls Try.prog 18 #[.pointer (some ⟨r, 0, none⟩), .int .i64 most] w (Rdd r L s a 5 (.string ⟨[].toArray⟩) w) := by
  obtain ⟨bv, hr, hB, hn, hL⟩ := h.ex
  obtain ⟨g, off, cap, rfl, hcap, hmx, hc⟩ := bytes_at hB (by omega)
  obtain ⟨c, f⟩ := cells_of hr
  replace hr := Lib.hid hr
  replace hc := Lib.hid hc
  replace hq := Lib.hid hq
  have hlen := h.len
  by_cases hp : 0 < most
  all_goals
    first | rw [max0_pos hp] at h2 | rw [max0_neg hp] at h2
    go_enter Try.func18, Try.ntmps18
    go_wp2_with (first | (go_at_call 35; refine (fNumber_ok r g off cap s a 4 0 w hr.out hcap hmx hc.out hlen hs (by decide) (by decide)).mono ?_; rw [hq.out]; rintro e w' ⟨rfl, rfl⟩) | go_in)
    go_ret
    exact ⟨rfl, h.fail 5, Upd.setCell (S := fun k => k = r) w rfl _⟩

set_option maxHeartbeats 800000 in
theorem fText_short (h2 : (z : Int) ≤ max 0 most) (h3 : (s.length : Int) - (a + 4) < z) :
    Calls Try.prog 18 #[.pointer (some ⟨r, 0, none⟩), .int .i64 most] w (Rdd r L s a 3 (.string ⟨[].toArray⟩) w) := by
  obtain ⟨bv, hr, hB, hn, hL⟩ := h.ex
  obtain ⟨g, off, cap, rfl, hcap, hmx, hc⟩ := bytes_at hB (by omega)
  obtain ⟨c, f⟩ := cells_of hr
  replace hr := Lib.hid hr
  replace hc := Lib.hid hc
  replace hq := Lib.hid hq
  have hlen := h.len
  by_cases hp : 0 < most
  · rw [max0_pos hp] at h2
    go_enter Try.func18, Try.ntmps18
    go_wp2_with (first | (go_at_call 35; refine (fNumber_ok r g off cap s a 4 0 w hr.out hcap hmx hc.out hlen hs (by decide) (by decide)).mono ?_; rw [hq.out]; rintro e w' ⟨rfl, rfl⟩) | go_in)
    go_ret
    exact ⟨rfl, h.fail 3, Upd.setCell (S := fun k => k = r) w rfl _⟩
  · omega

set_option maxHeartbeats 800000 in
theorem fText_ok (h2 : (z : Int) ≤ max 0 most) (h3 : a + 4 + z ≤ s.length) :
    Calls Try.prog 18 #[.pointer (some ⟨r, 0, none⟩), .int .i64 most] w (Rdd r L s (a + 4 + z) 0 (.string ⟨((s.drop (a + 4)).take z).toArray⟩) w) := by
  obtain ⟨bv, hr, hB, hn, hL⟩ := h.ex
  obtain ⟨g, off, cap, rfl, hcap, hmx, hc⟩ := bytes_at hB (by omega)
  obtain ⟨c, f⟩ := cells_of hr
  replace hr := Lib.hid hr
  replace hc := Lib.hid hc
  replace hq := Lib.hid hq
  have hlen := h.len
  have h4 : (z : Int) ≤ s.length - (a + 4) := by omega
  have hi : IntKind.i64.wrap ((a : Int) + 4 + (z : Int)) = (a : Int) + 4 + (z : Int) := IntWalk.i64_in _ ⟨by omega, by omega⟩
  have hb1 : (a : Int) + 4 ≤ (a : Int) + 4 + (z : Int) := by omega
  have hb2 : (a : Int) + 4 + (z : Int) ≤ (cap : Int) := by omega
  have hW : Bytes (w.setCell ⟨r, 2, none⟩ (.int .i64 ((a : Int) + 4 + (z : Int)))) (.slice (some ⟨g, off, none⟩) s.length cap) s := bytes_setCell hB (fun k hk => Nat.ne_of_lt (hn k hk).2) _
  have hmv := h.move h3 (x := (a : Int) + 4 + (z : Int)) (by omega)
  have hup := Upd.setCell (S := fun k => k = r) w (a := ⟨r, 2, none⟩) rfl (.int .i64 ((a : Int) + 4 + (z : Int)))
  replace hB := Lib.hid hB
  replace hmv := Lib.hid hmv
  replace hup := Lib.hid hup
  by_cases hne : cap = a + 4
  · obtain rfl : z = 0 := by omega
    subst hne
    have hcv : Hid (∀ nq, (convert 22 9 (.slice (some ⟨g, off, none⟩) 0 0)).run Try.prog ((w.setCell ⟨r, 2, none⟩ (.int .i64 ((a : Int) + 4))).drewN nq) = .ok (.string ⟨#[]⟩) ((w.setCell ⟨r, 2, none⟩ (.int .i64 ((a : Int) + 4))).drewN nq)) :=
      fun nq => run_str _ _ _ 5 Try.underlying22 Try.underlying5 Try.underlying9 _ [] ⟨rfl, _, _, rfl, Nat.le_refl _, by unfold maxLen; omega, .inl rfl⟩
    simp only [Int.natCast_zero, Int.add_zero, Nat.add_zero] at *
    clear hW
    by_cases hp : 0 < most
    all_goals
      first | rw [max0_pos hp] at h2 | rw [max0_neg hp] at h2
      go_enter Try.func18, Try.ntmps18
      go_wp2_with (first | (go_at_call 35; refine (fNumber_ok r g off _ s a 4 0 w hr.out hcap hmx hc.out hlen hs (by decide) (by decide)).mono ?_; rw [hq.out]; rintro e w' ⟨rfl, rfl⟩) | go_in)
      have hcv := hcv.out
      go_quiet (fail)
      go_wp2_with fail
      go_ret
      exact ⟨rfl, hmv.out.non (Upd.drewN _ _ _), hup.out.then_drewN _⟩
  · have hP : Bytes (w.setCell ⟨r, 2, none⟩ (.int .i64 ((a : Int) + 4 + (z : Int)))) (.slice (some ⟨g, off + (a + 4), none⟩) z (cap - (a + 4))) ((s.drop (a + 4)).take z) := by
      have h := bytes_piece hW (a + 4) z (cap - (a + 4)) h3 (by omega) (by omega)
      have hl : List.length (List.take z (List.drop (a + 4) s)) = z := by simp; omega
      unfold Bytes
      rw [hl]
      exact h
    have hcv : Hid (∀ nq, (convert 22 9 (.slice (some ⟨g, off + (a + 4), none⟩) z (cap - (a + 4)))).run Try.prog ((w.setCell ⟨r, 2, none⟩ (.int .i64 ((a : Int) + 4 + (z : Int)))).drewN nq) = .ok (.string ⟨((s.drop (a + 4)).take z).toArray⟩) ((w.setCell ⟨r, 2, none⟩ (.int .i64 ((a : Int) + 4 + (z : Int)))).drewN nq)) :=
      fun nq => run_str _ _ _ 5 Try.underlying22 Try.underlying5 Try.underlying9 _ _ ((hP.upd (Upd.drewN Non _ nq) (fun _ _ h => h)))
    clear hW hP
    by_cases hp : 0 < most
    all_goals
      first | rw [max0_pos hp] at h2 | rw [max0_neg hp] at h2
      go_enter Try.func18, Try.ntmps18
      go_wp2_with (first | (go_at_call 35; refine (fNumber_ok r g off _ s a 4 0 w hr.out hcap hmx hc.out hlen hs (by decide) (by decide)).mono ?_; rw [hq.out]; rintro e w' ⟨rfl, rfl⟩) | go_in)
      have hcv := hcv.out
      go_quiet (fail)
      go_wp2_with fail
      go_ret
      exact ⟨rfl, hmv.out.non (Upd.drewN _ _ _), hup.out.then_drewN _⟩
end
end Go.Proofs.Ytgemlapmjbgdkaa
