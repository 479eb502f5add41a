/- The walks over the readers of package field: what moves them. -/
import Derived.Test.YtaflpabpkpfifaaDoorMRd
namespace Go.Proofs.YtaflpabpkpfifaaDoor
set_option maxRecDepth 100000
open Go.RowKit Go.Amb
variable {L : Nat}
attribute [local go_sem ↓] Go.wp_at_zero Go.wp_at_succ

theorem bytes_piece {w : World} {g off cap : Nat} {s : List UInt8} (h : Bytes w (.slice (some ⟨g, off, none⟩) s.length cap) s) (lo n c : Nat) (h1 : lo + n ≤ s.length) (hc : n ≤ c) (hm : c ≤ maxLen) :
    Has w 1 (.slice (some ⟨g, off + lo, none⟩) n c) n (bc ((s.drop lo).take n)) := by
  refine ⟨by rw [bc_length]; simp; omega, _, _, rfl, hc, hm, .inr ⟨g, off + lo, rfl, fun j u hj => ?_⟩⟩
  obtain ⟨hl, rfl⟩ := (bc_get _ _ _).1 hj
  obtain ⟨hl0, a, c', hv, h1', h2', h3'⟩ := h
  injection hv with e1 _ e2
  subst e1; subst e2
  simp only [List.length_take, List.length_drop] at hl
  rcases h3' with h3' | ⟨g', off', he, hc'⟩
  · omega
  · injection he with he
    injection he with e3 e4 _
    subst e3; subst e4
    have := hc' (lo + j) (.int .u8 (s[lo + j].toNat : Int)) ((bc_get _ _ _).2 ⟨by omega, rfl⟩)
    rw [Nat.add_assoc, this]
    simp
theorem bytes_setCell {w : World} {v : Value} {s : List UInt8} {p : Addr} (h : Bytes w v s) (hn : ∀ k, At v k → k ≠ p.block) (u : Value) : Bytes (w.setCell p u) v s :=
  h.upd (Upd.setCell (S := fun k => k = p.block) w rfl u) fun k hk e => hn k hk e
theorem RdAt.move {w : World} {r : Nat} {s : List UInt8} {a a' : Nat} {e : Int} (h : RdAt w r L s a e) (ha : a' ≤ s.length) {x : Int} (hx : x = a') : RdAt (w.setCell ⟨r, 2, none⟩ (.int .i64 x)) r L s a' e := by
  subst hx
  obtain ⟨bv, hr, hB, hn, hL⟩ := h.ex
  exact ⟨h.len, ha, bv, by rw [heap_setCell_same w r 2 _ _ _ hr]; rfl, bytes_setCell hB (fun k hk => Nat.ne_of_lt (hn k hk).2) _, hn, hL⟩
theorem RdAt.fail {w : World} {r : Nat} {s : List UInt8} {a : Nat} {e : Int} (h : RdAt w r L s a e) (e' : Int) : RdAt (w.setCell ⟨r, 3, none⟩ (.int .i64 e')) r L s a e' := by
  obtain ⟨bv, hr, hB, hn, hL⟩ := h.ex
  exact ⟨h.len, h.le, bv, by rw [heap_setCell_same w r 3 _ _ _ hr]; rfl, bytes_setCell hB (fun k hk => Nat.ne_of_lt (hn k hk).2) _, hn, hL⟩
theorem RdAt.upd {S : Nat → Prop} {w w' : World} {r : Nat} {s : List UInt8} {a : Nat} {e : Int} (h : RdAt w r L s a e) (hu : Upd S w w') (hS : ∀ k, k < w.heap.size → S k → k < L ∨ r < k) : RdAt w' r L s a e := by
  obtain ⟨bv, hr, hB, hn, hL⟩ := h.ex
  refine ⟨h.len, h.le, bv, hu.heap hr (fun hs => by have := hS r (heap_lt hr) hs; omega), ?_, hn, hL⟩
  have hu' : Upd (fun k => S k ∧ k < w.heap.size) w w' := ⟨hu.os, hu.tape, hu.output, hu.size, fun k hk hs => hu.block k hk fun h => hs ⟨h, hk⟩⟩
  exact hB.upd hu' fun k hk hs => by have h1 := hn k hk; have h2 := hS k hs.2 hs.1; omega
theorem RdAt.non {w w' : World} {r : Nat} {s : List UInt8} {a : Nat} {e : Int} (h : RdAt w r L s a e) (hu : Upd Non w w') : RdAt w' r L s a e := h.upd hu fun _ _ h => h.elim
theorem RdAt.lt {w : World} {r : Nat} {s : List UInt8} {a : Nat} {e : Int} (h : RdAt w r L s a e) : r < w.heap.size := by obtain ⟨bv, hr, _⟩ := h.ex; exact heap_lt hr

/-- What a reading call leaves: its answer; the reader at a', with error e'; nothing else old is written. -/
def Rdd (r L : Nat) (s : List UInt8) (a' : Nat) (e' : Int) (v : Value) (w : World) (e : Ending) (w' : World) : Prop := e = .returned v ∧ RdAt w' r L s a' e' ∧ Upd (fun k => k = r) w w'

set_option maxHeartbeats 800000 in
theorem take_err_plain (r : Nat) (s : List UInt8) (a m : Nat) (e : Int) (w : World) (h : RdAt w r L s a e) (he : ¬ e = 0) :
    Calls Tryd.prog 68 #[.pointer (some ⟨r, 0, none⟩), .int .i64 m, .func (.func 69) #[] #[]] w (Rdd r L s a e (.int .i64 0) w) := by
  obtain ⟨bv, hr, hB, hn, hL⟩ := h.ex
  obtain ⟨c, f⟩ := cells_of hr
  replace hr := Lib.hid hr
  have hee : (e == 0) = false := by simp [he]
  go_enter Tryd.func68, Tryd.ntmps68
  go_wp2
  go_ret
  exact ⟨rfl, h, Upd.refl _ _⟩

set_option maxHeartbeats 800000 in
theorem take_short_plain (r : Nat) (s : List UInt8) (a m : Nat) (w : World) (h : RdAt w r L s a 0) (hs : ¬ a + m ≤ s.length) :
    Calls Tryd.prog 68 #[.pointer (some ⟨r, 0, none⟩), .int .i64 m, .func (.func 69) #[] #[]] w (Rdd r L s a 3 (.int .i64 0) w) := by
  obtain ⟨bv, hr, hB, hn, hL⟩ := h.ex
  obtain ⟨c, f⟩ := cells_of hr
  replace hr := Lib.hid hr
  go_enter Tryd.func68, Tryd.ntmps68
  go_wp2_with (first | (go_at_call 83; refine (fNumber_short r bv s a m 0 w hr.out hB h.le h.len hs).mono ?_; rintro e w' ⟨rfl, rfl⟩) | go_in)
  go_ret
  exact ⟨rfl, h.fail 3, Upd.setCell (S := fun k => k = r) w rfl _⟩

set_option maxHeartbeats 800000 in
theorem take_ok_plain (r : Nat) (s : List UInt8) (a m : Nat) (w : World) (h : RdAt w r L s a 0) (hs : a + m ≤ s.length) (h1 : 1 ≤ m) (h8 : m ≤ 8) :
    Calls Tryd.prog 68 #[.pointer (some ⟨r, 0, none⟩), .int .i64 m, .func (.func 69) #[] #[]] w (Rdd r L s (a + m) 0 (.int .i64 (wrap64 (numL ((s.drop a).take m)))) w) := by
  obtain ⟨bv, hr, hB, hn, hL⟩ := h.ex
  obtain ⟨g, off, cap, rfl, hcap, hmx, hc⟩ := bytes_at hB (by omega)
  obtain ⟨c, f⟩ := cells_of hr
  replace hr := Lib.hid hr
  replace hc := Lib.hid hc
  have hlen := h.len
  have hi : IntKind.i64.wrap ((a : Int) + (m : Int)) = (a : Int) + m := IntWalk.i64_in _ ⟨by omega, by omega⟩
  go_enter Tryd.func68, Tryd.ntmps68
  go_wp2_with (first | (go_at_call 83; refine (fNumber_ok r g off cap s a m 0 w hr.out hcap hmx hc.out hlen hs h1 h8).mono ?_; rintro e w' ⟨rfl, rfl⟩) | go_in)
  go_ret
  exact ⟨rfl, h.move hs (by omega), Upd.setCell (S := fun k => k = r) w rfl _⟩

theorem take_plain (r : Nat) (s : List UInt8) (a m : Nat) (e : Int) (w : World) (h : RdAt w r L s a e) (h1 : 1 ≤ m) (h8 : m ≤ 8) :
    Calls Tryd.prog 68 #[.pointer (some ⟨r, 0, none⟩), .int .i64 m, .func (.func 69) #[] #[]] w (Rdd r L s (rdNum s a e m).1 (rdNum s a e m).2.1 (.int .i64 (rdNum s a e m).2.2) w) := by
  by_cases he : e = 0
  · subst he
    by_cases hs : a + m ≤ s.length
    · rw [rdNum_ok hs]; exact take_ok_plain r s a m w h hs h1 h8
    · rw [rdNum_short hs]; exact take_short_plain r s a m w h hs
  · rw [rdNum_err he]; exact take_err_plain r s a m e w h he

theorem fU8 (r : Nat) (s : List UInt8) (a : Nat) (e : Int) (w : World) (h : RdAt w r L s a e) :
    Calls Tryd.prog 48 #[.pointer (some ⟨r, 0, none⟩)] w (Rdd r L s (rdNum s a e 1).1 (rdNum s a e 1).2.1 (.int .i64 (rdNum s a e 1).2.2) w) := by
  go_enter Tryd.func48, Tryd.ntmps48
  go_wp2_with fail
  refine (take_plain r s a 1 e w h (by decide) (by decide)).mono ?_
  rintro e w1 ⟨rfl, h1, h2⟩
  go_wp2_with fail
  go_ret
  exact ⟨rfl, h1, h2⟩
theorem fU16 (r : Nat) (s : List UInt8) (a : Nat) (e : Int) (w : World) (h : RdAt w r L s a e) :
    Calls Tryd.prog 49 #[.pointer (some ⟨r, 0, none⟩)] w (Rdd r L s (rdNum s a e 2).1 (rdNum s a e 2).2.1 (.int .i64 (rdNum s a e 2).2.2) w) := by
  go_enter Tryd.func49, Tryd.ntmps49
  go_wp2_with fail
  refine (take_plain r s a 2 e w h (by decide) (by decide)).mono ?_
  rintro e w1 ⟨rfl, h1, h2⟩
  go_wp2_with fail
  go_ret
  exact ⟨rfl, h1, h2⟩
theorem fU32 (r : Nat) (s : List UInt8) (a : Nat) (e : Int) (w : World) (h : RdAt w r L s a e) :
    Calls Tryd.prog 50 #[.pointer (some ⟨r, 0, none⟩)] w (Rdd r L s (rdNum s a e 4).1 (rdNum s a e 4).2.1 (.int .i64 (rdNum s a e 4).2.2) w) := by
  go_enter Tryd.func50, Tryd.ntmps50
  go_wp2_with fail
  refine (take_plain r s a 4 e w h (by decide) (by decide)).mono ?_
  rintro e w1 ⟨rfl, h1, h2⟩
  go_wp2_with fail
  go_ret
  exact ⟨rfl, h1, h2⟩

end Go.Proofs.YtaflpabpkpfifaaDoor
