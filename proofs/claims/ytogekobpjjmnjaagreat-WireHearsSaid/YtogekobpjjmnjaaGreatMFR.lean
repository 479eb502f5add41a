/- The walks over the readers of package field. -/
import Derived.Test.YtogekobpjjmnjaaGreatMRd
namespace Go.Proofs.YtogekobpjjmnjaaGreat
set_option maxRecDepth 100000
open Go.RowKit Go.Amb
set_option linter.unusedVariables false
variable {L : Nat}
attribute [local go_sem ↓] Go.wp_at_zero Go.wp_at_succ

/-- 'End' of the reference's reader. -/
def rdEnd (s : List UInt8) (a : Nat) (e : Int) : Int := if e = 0 then (if a < s.length then 5 else 0) else e
set_option maxHeartbeats 400000 in
theorem refEnd (s : List UInt8) (a : Nat) (e : Int) (w : World) :
    Calls Tryz.prog 29 #[rdV s a e] w (Ret (.int .i64 (rdEnd s a e)) w) := by
  unfold rdEnd
  by_cases he : e = 0
  · subst he
    rw [if_pos rfl]
    by_cases h : a < s.length
    · rw [if_pos h]
      have h' : (a : Int) < s.length := by omega
      go_enter Tryz.func29, Tryz.ntmps29
      go_wp2_with fail
      go_ret
      exact ⟨rfl, by (repeat (first | (with_reducible exact Upd.refl _ _) | (with_reducible assumption) | (with_reducible refine Upd.then_drew ?_) | (with_reducible refine Upd.then_drewN ?_ _) | (with_reducible refine Upd.then_alloc ?_ _) | (with_reducible refine Upd.then_setCell ?_ (fun h => absurd h (by simp <;> omega)) _) | (with_reducible refine Upd.trans ?_ (Upd.non (by assumption)) (fun _ _ h => h))))⟩
    · rw [if_neg h]
      have h' : ¬ (a : Int) < s.length := by omega
      go_enter Tryz.func29, Tryz.ntmps29
      go_wp2_with fail
      go_ret
      exact ⟨rfl, by (repeat (first | (with_reducible exact Upd.refl _ _) | (with_reducible assumption) | (with_reducible refine Upd.then_drew ?_) | (with_reducible refine Upd.then_drewN ?_ _) | (with_reducible refine Upd.then_alloc ?_ _) | (with_reducible refine Upd.then_setCell ?_ (fun h => absurd h (by simp <;> omega)) _) | (with_reducible refine Upd.trans ?_ (Upd.non (by assumption)) (fun _ _ h => h))))⟩
  · rw [if_neg he]
    have hne : (e != 0) = true := by simp [he]
    go_enter Tryz.func29, Tryz.ntmps29
    go_wp2_with fail
    go_ret
    exact ⟨rfl, by (repeat (first | (with_reducible exact Upd.refl _ _) | (with_reducible assumption) | (with_reducible refine Upd.then_drew ?_) | (with_reducible refine Upd.then_drewN ?_ _) | (with_reducible refine Upd.then_alloc ?_ _) | (with_reducible refine Upd.then_setCell ?_ (fun h => absurd h (by simp <;> omega)) _) | (with_reducible refine Upd.trans ?_ (Upd.non (by assumption)) (fun _ _ h => h))))⟩

/-- A reader of package field in memory: it has s, stands at a, its error is e. -/
structure RdAt (w : World) (r L : Nat) (s : List UInt8) (a : Nat) (e : Int) : Prop where
  len : s.length ≤ 140737488355328
  le : a ≤ s.length
  ex : ∃ bv, w.heap[r]? = some (.cells #[.bool true, bv, .int .i64 a, .int .i64 e] 91 (0, 0)) ∧ Bytes w bv s ∧ (∀ k, At bv k → L ≤ k ∧ k < r) ∧ L ≤ r
/-- The bytes of a value that reads so, where there are any. -/
theorem bytes_at {w : World} {v : Value} {s : List UInt8} (h : Bytes w v s) (hs : 0 < s.length) : ∃ g off cap, v = .slice (some ⟨g, off, none⟩) s.length cap ∧ s.length ≤ cap ∧ cap ≤ maxLen ∧ ∀ j (hj : j < s.length), w.cell? ⟨g, off + j, none⟩ = some (.int .u8 (s[j].toNat : Int)) := by
  obtain ⟨hl, a, c, rfl, h1, h2, h3⟩ := h
  rcases h3 with h3 | ⟨g, off, rfl, hc⟩
  · omega
  · exact ⟨g, off, c, rfl, h1, h2, fun j hj => hc j _ ((bc_get s j _).2 ⟨hj, rfl⟩)⟩

set_option maxHeartbeats 800000 in
theorem fNumber_ok (r g off cap : Nat) (s : List UInt8) (a m : Nat) (e : Int) (w : World) (hr : w.heap[r]? = some (.cells #[.bool true, .slice (some ⟨g, off, none⟩) s.length cap, .int .i64 a, .int .i64 e] 91 (0, 0)))
    (hcap : s.length ≤ cap) (hm : cap ≤ maxLen) (hc : ∀ j (hj : j < s.length), w.cell? ⟨g, off + j, none⟩ = some (.int .u8 (s[j].toNat : Int))) (hs : s.length ≤ 140737488355328) (h : a + m ≤ s.length) (h1 : 1 ≤ m) (h8 : m ≤ 8) :
    Calls Tryz.prog 73 #[.pointer (some ⟨r, 0, none⟩), .int .i64 a, .int .i64 m] w fun e w' => e = .returned (.tuple #[.int .u64 (numL ((s.drop a).take m)), .bool true]) ∧ w = w' := by
  obtain ⟨c, f⟩ := cells_of hr
  clear f hr
  have hne : ¬ cap = a := by omega
  have hi : IntKind.i64.wrap ((a : Int) + (m : Int)) = (a : Int) + m := IntWalk.i64_in _ ⟨by omega, by omega⟩
  have hb1 : (a : Int) ≤ (a : Int) + m := by omega
  have hb2 : (a : Int) + m ≤ (cap : Int) := by omega
  replace hc := Lib.hid hc
  unfold maxLen at hm
  go_enter Tryz.func73, Tryz.ntmps73
  go_wp2_with fail
  go_loop [8, 10, 30] (fun u _ i => ∃ k : Nat, k ≤ m ∧ i = .int .i64 k ∧ u = .int .u64 (numL ((s.drop a).take k))) (fun _ _ i => m - (intOf i).toNat)
  case atStart => exact ⟨0, by omega, rfl, rfl⟩
  case round =>
    obtain ⟨k, hk, rfl, rfl⟩ := hrel
    by_cases hlt : k < m
    · have hck := hc.out (a + k) (by omega)
      rw [← Nat.add_assoc] at hck
      have hlt' : (k : Int) < m := by omega
      go_wp2_with fail
      go_round
      case rel =>
        refine ⟨k + 1, by omega, by go_num, ?_⟩
        rw [num_step _ _ (numL_nonneg _) (numL_lt_of (by simp; omega)), take_drop_succ s a k (by omega), numL_snoc]
      case measure => simp [intOf]; omega
    · obtain rfl : k = m := by omega
      go_wp2_with fail
      go_ret2
      exact ⟨rfl, rfl⟩

set_option maxHeartbeats 800000 in
theorem fNumber_short (r : Nat) (bv : Value) (s : List UInt8) (a m : Nat) (e : Int) (w : World) (hr : w.heap[r]? = some (.cells #[.bool true, bv, .int .i64 a, .int .i64 e] 91 (0, 0))) (hB : Bytes w bv s)
    (ha : a ≤ s.length) (hs : s.length ≤ 140737488355328) (h : ¬ a + m ≤ s.length) :
    Calls Tryz.prog 73 #[.pointer (some ⟨r, 0, none⟩), .int .i64 a, .int .i64 m] w fun e w' => e = .returned (.tuple #[.int .u64 0, .bool false]) ∧ w = w' := by
  obtain ⟨c, f⟩ := cells_of hr
  obtain ⟨hl, av, cv, rfl, h1, h2, h3⟩ := hB
  clear f hr h3 hl
  have hlt : (s.length : Int) - a < m := by omega
  go_enter Tryz.func73, Tryz.ntmps73
  go_wp2_with fail
  go_ret2
  exact ⟨rfl, rfl⟩
end Go.Proofs.YtogekobpjjmnjaaGreat

namespace Go.Proofs.YtogekobpjjmnjaaGreat
set_option maxRecDepth 100000
open Go.RowKit Go.Amb
variable {L : Nat}
attribute [local go_sem ↓] Go.wp_at_zero Go.wp_at_succ

theorem bytes_piece {w : World} {g off cap : Nat} {s : List UInt8} (h : Bytes w (.slice (some ⟨g, off, none⟩) s.length cap) s) (lo n c : Nat) (h1 : lo + n ≤ s.length) (hc : n ≤ c) (hm : c ≤ maxLen) :
    Has w 1 (.slice (some ⟨g, off + lo, none⟩) n c) n (bc ((s.drop lo).take n)) := by
  refine ⟨by rw [bc_length]; simp; omega, _, _, rfl, hc, hm, .inr ⟨g, off + lo, rfl, fun j u hj => ?_⟩⟩
  obtain ⟨hl, rfl⟩ := (bc_get _ _ _).1 hj
  obtain ⟨hl0, a, c', hv, h1', h2', h3'⟩ := h
  injection hv with e1 _ e2
  subst e1; subst e2
  simp only [List.length_take, List.length_drop] at hl
  rcases h3' with h3' | ⟨g', off', he, hc'⟩
  · omega
  · injection he with he
    injection he with e3 e4 _
    subst e3; subst e4
    have := hc' (lo + j) (.int .u8 (s[lo + j].toNat : Int)) ((bc_get _ _ _).2 ⟨by omega, rfl⟩)
    rw [Nat.add_assoc, this]
    simp
theorem bytes_setCell {w : World} {v : Value} {s : List UInt8} {p : Addr} (h : Bytes w v s) (hn : ∀ k, At v k → k ≠ p.block) (u : Value) : Bytes (w.setCell p u) v s :=
  h.upd (Upd.setCell (S := fun k => k = p.block) w rfl u) fun k hk e => hn k hk e
theorem RdAt.move {w : World} {r : Nat} {s : List UInt8} {a a' : Nat} {e : Int} (h : RdAt w r L s a e) (ha : a' ≤ s.length) {x : Int} (hx : x = a') : RdAt (w.setCell ⟨r, 2, none⟩ (.int .i64 x)) r L s a' e := by
  subst hx
  obtain ⟨bv, hr, hB, hn, hL⟩ := h.ex
  exact ⟨h.len, ha, bv, by rw [heap_setCell_same w r 2 _ _ _ hr]; rfl, bytes_setCell hB (fun k hk => Nat.ne_of_lt (hn k hk).2) _, hn, hL⟩
theorem RdAt.fail {w : World} {r : Nat} {s : List UInt8} {a : Nat} {e : Int} (h : RdAt w r L s a e) (e' : Int) : RdAt (w.setCell ⟨r, 3, none⟩ (.int .i64 e')) r L s a e' := by
  obtain ⟨bv, hr, hB, hn, hL⟩ := h.ex
  exact ⟨h.len, h.le, bv, by rw [heap_setCell_same w r 3 _ _ _ hr]; rfl, bytes_setCell hB (fun k hk => Nat.ne_of_lt (hn k hk).2) _, hn, hL⟩
theorem RdAt.upd {S : Nat → Prop} {w w' : World} {r : Nat} {s : List UInt8} {a : Nat} {e : Int} (h : RdAt w r L s a e) (hu : Upd S w w') (hS : ∀ k, k < w.heap.size → S k → k < L ∨ r < k) : RdAt w' r L s a e := by
  obtain ⟨bv, hr, hB, hn, hL⟩ := h.ex
  refine ⟨h.len, h.le, bv, hu.heap hr (fun hs => by have := hS r (heap_lt hr) hs; omega), ?_, hn, hL⟩
  have hu' : Upd (fun k => S k ∧ k < w.heap.size) w w' := ⟨hu.os, hu.tape, hu.output, hu.size, fun k hk hs => hu.block k hk fun h => hs ⟨h, hk⟩⟩
  exact hB.upd hu' fun k hk hs => by have h1 := hn k hk; have h2 := hS k hs.2 hs.1; omega
theorem RdAt.non {w w' : World} {r : Nat} {s : List UInt8} {a : Nat} {e : Int} (h : RdAt w r L s a e) (hu : Upd Non w w') : RdAt w' r L s a e := h.upd hu fun _ _ h => h.elim
theorem RdAt.lt {w : World} {r : Nat} {s : List UInt8} {a : Nat} {e : Int} (h : RdAt w r L s a e) : r < w.heap.size := by obtain ⟨bv, hr, _⟩ := h.ex; exact heap_lt hr

/-- What a reading call leaves: its answer; the reader at a', with error e'; nothing else old is written. -/
def Rdd (r L : Nat) (s : List UInt8) (a' : Nat) (e' : Int) (v : Value) (w : World) (e : Ending) (w' : World) : Prop := e = .returned v ∧ RdAt w' r L s a' e' ∧ Upd (fun k => k = r) w w'

set_option maxHeartbeats 800000 in
theorem take_err_plain (r : Nat) (s : List UInt8) (a m : Nat) (e : Int) (w : World) (h : RdAt w r L s a e) (he : ¬ e = 0) :
    Calls Tryz.prog 40 #[.pointer (some ⟨r, 0, none⟩), .int .i64 m, .func (.func 41) #[] #[]] w (Rdd r L s a e (.int .i64 0) w) := by
  obtain ⟨bv, hr, hB, hn, hL⟩ := h.ex
  obtain ⟨c, f⟩ := cells_of hr
  replace hr := Lib.hid hr
  have hee : (e == 0) = false := by simp [he]
  go_enter Tryz.func40, Tryz.ntmps40
  go_wp2
  go_ret
  exact ⟨rfl, h, Upd.refl _ _⟩

set_option maxHeartbeats 800000 in
theorem take_short_plain (r : Nat) (s : List UInt8) (a m : Nat) (w : World) (h : RdAt w r L s a 0) (hs : ¬ a + m ≤ s.length) :
    Calls Tryz.prog 40 #[.pointer (some ⟨r, 0, none⟩), .int .i64 m, .func (.func 41) #[] #[]] w (Rdd r L s a 3 (.int .i64 0) w) := by
  obtain ⟨bv, hr, hB, hn, hL⟩ := h.ex
  obtain ⟨c, f⟩ := cells_of hr
  replace hr := Lib.hid hr
  go_enter Tryz.func40, Tryz.ntmps40
  go_wp2_with (first | (go_at_call 73; refine (fNumber_short r bv s a m 0 w hr.out hB h.le h.len hs).mono ?_; rintro e w' ⟨rfl, rfl⟩) | go_in)
  go_ret
  exact ⟨rfl, h.fail 3, Upd.setCell (S := fun k => k = r) w rfl _⟩

set_option maxHeartbeats 800000 in
theorem take_ok_plain (r : Nat) (s : List UInt8) (a m : Nat) (w : World) (h : RdAt w r L s a 0) (hs : a + m ≤ s.length) (h1 : 1 ≤ m) (h8 : m ≤ 8) :
    Calls Tryz.prog 40 #[.pointer (some ⟨r, 0, none⟩), .int .i64 m, .func (.func 41) #[] #[]] w (Rdd r L s (a + m) 0 (.int .i64 (wrap64 (numL ((s.drop a).take m)))) w) := by
  obtain ⟨bv, hr, hB, hn, hL⟩ := h.ex
  obtain ⟨g, off, cap, rfl, hcap, hmx, hc⟩ := bytes_at hB (by omega)
  obtain ⟨c, f⟩ := cells_of hr
  replace hr := Lib.hid hr
  replace hc := Lib.hid hc
  have hlen := h.len
  have hi : IntKind.i64.wrap ((a : Int) + (m : Int)) = (a : Int) + m := IntWalk.i64_in _ ⟨by omega, by omega⟩
  go_enter Tryz.func40, Tryz.ntmps40
  go_wp2_with (first | (go_at_call 73; refine (fNumber_ok r g off cap s a m 0 w hr.out hcap hmx hc.out hlen hs h1 h8).mono ?_; rintro e w' ⟨rfl, rfl⟩) | go_in)
  go_ret
  exact ⟨rfl, h.move hs (by omega), Upd.setCell (S := fun k => k = r) w rfl _⟩
set_option maxHeartbeats 800000 in
theorem take_err_i64 (r : Nat) (s : List UInt8) (a m : Nat) (e : Int) (w : World) (h : RdAt w r L s a e) (he : ¬ e = 0) :
    Calls Tryz.prog 40 #[.pointer (some ⟨r, 0, none⟩), .int .i64 m, .func (.func 42) #[] #[]] w (Rdd r L s a e (.int .i64 0) w) := by
  obtain ⟨bv, hr, hB, hn, hL⟩ := h.ex
  obtain ⟨c, f⟩ := cells_of hr
  replace hr := Lib.hid hr
  have hee : (e == 0) = false := by simp [he]
  go_enter Tryz.func40, Tryz.ntmps40
  go_wp2
  go_ret
  exact ⟨rfl, h, Upd.refl _ _⟩

set_option maxHeartbeats 800000 in
theorem take_short_i64 (r : Nat) (s : List UInt8) (a m : Nat) (w : World) (h : RdAt w r L s a 0) (hs : ¬ a + m ≤ s.length) :
    Calls Tryz.prog 40 #[.pointer (some ⟨r, 0, none⟩), .int .i64 m, .func (.func 42) #[] #[]] w (Rdd r L s a 3 (.int .i64 0) w) := by
  obtain ⟨bv, hr, hB, hn, hL⟩ := h.ex
  obtain ⟨c, f⟩ := cells_of hr
  replace hr := Lib.hid hr
  go_enter Tryz.func40, Tryz.ntmps40
  go_wp2_with (first | (go_at_call 73; refine (fNumber_short r bv s a m 0 w hr.out hB h.le h.len hs).mono ?_; rintro e w' ⟨rfl, rfl⟩) | go_in)
  go_ret
  exact ⟨rfl, h.fail 3, Upd.setCell (S := fun k => k = r) w rfl _⟩

set_option maxHeartbeats 800000 in
theorem take_ok_i64 (r : Nat) (s : List UInt8) (a m : Nat) (w : World) (h : RdAt w r L s a 0) (hs : a + m ≤ s.length) (h1 : 1 ≤ m) (h8 : m ≤ 8) :
    Calls Tryz.prog 40 #[.pointer (some ⟨r, 0, none⟩), .int .i64 m, .func (.func 42) #[] #[]] w (Rdd r L s (a + m) 0 (.int .i64 (wrap64 (numL ((s.drop a).take m)))) w) := by
  obtain ⟨bv, hr, hB, hn, hL⟩ := h.ex
  obtain ⟨g, off, cap, rfl, hcap, hmx, hc⟩ := bytes_at hB (by omega)
  obtain ⟨c, f⟩ := cells_of hr
  replace hr := Lib.hid hr
  replace hc := Lib.hid hc
  have hlen := h.len
  have hi : IntKind.i64.wrap ((a : Int) + (m : Int)) = (a : Int) + m := IntWalk.i64_in _ ⟨by omega, by omega⟩
  go_enter Tryz.func40, Tryz.ntmps40
  go_wp2_with (first | (go_at_call 73; refine (fNumber_ok r g off cap s a m 0 w hr.out hcap hmx hc.out hlen hs h1 h8).mono ?_; rintro e w' ⟨rfl, rfl⟩) | go_in)
  go_ret
  exact ⟨rfl, h.move hs (by omega), Upd.setCell (S := fun k => k = r) w rfl _⟩

theorem take_plain (r : Nat) (s : List UInt8) (a m : Nat) (e : Int) (w : World) (h : RdAt w r L s a e) (h1 : 1 ≤ m) (h8 : m ≤ 8) :
    Calls Tryz.prog 40 #[.pointer (some ⟨r, 0, none⟩), .int .i64 m, .func (.func 41) #[] #[]] w (Rdd r L s (rdNum s a e m).1 (rdNum s a e m).2.1 (.int .i64 (rdNum s a e m).2.2) w) := by
  by_cases he : e = 0
  · subst he
    by_cases hs : a + m ≤ s.length
    · rw [rdNum_ok hs]; exact take_ok_plain r s a m w h hs h1 h8
    · rw [rdNum_short hs]; exact take_short_plain r s a m w h hs
  · rw [rdNum_err he]; exact take_err_plain r s a m e w h he
theorem take_i64 (r : Nat) (s : List UInt8) (a m : Nat) (e : Int) (w : World) (h : RdAt w r L s a e) (h1 : 1 ≤ m) (h8 : m ≤ 8) :
    Calls Tryz.prog 40 #[.pointer (some ⟨r, 0, none⟩), .int .i64 m, .func (.func 42) #[] #[]] w (Rdd r L s (rdNum s a e m).1 (rdNum s a e m).2.1 (.int .i64 (rdNum s a e m).2.2) w) := by
  by_cases he : e = 0
  · subst he
    by_cases hs : a + m ≤ s.length
    · rw [rdNum_ok hs]; exact take_ok_i64 r s a m w h hs h1 h8
    · rw [rdNum_short hs]; exact take_short_i64 r s a m w h hs
  · rw [rdNum_err he]; exact take_err_i64 r s a m e w h he

theorem fU8 (r : Nat) (s : List UInt8) (a : Nat) (e : Int) (w : World) (h : RdAt w r L s a e) :
    Calls Tryz.prog 9 #[.pointer (some ⟨r, 0, none⟩)] w (Rdd r L s (rdNum s a e 1).1 (rdNum s a e 1).2.1 (.int .i64 (rdNum s a e 1).2.2) w) := by
  go_enter Tryz.func9, Tryz.ntmps9
  go_wp2_with fail
  refine (take_plain r s a 1 e w h (by decide) (by decide)).mono ?_
  rintro e w1 ⟨rfl, h1, h2⟩
  go_wp2_with fail
  go_ret
  exact ⟨rfl, h1, h2⟩
theorem fU16 (r : Nat) (s : List UInt8) (a : Nat) (e : Int) (w : World) (h : RdAt w r L s a e) :
    Calls Tryz.prog 20 #[.pointer (some ⟨r, 0, none⟩)] w (Rdd r L s (rdNum s a e 2).1 (rdNum s a e 2).2.1 (.int .i64 (rdNum s a e 2).2.2) w) := by
  go_enter Tryz.func20, Tryz.ntmps20
  go_wp2_with fail
  refine (take_plain r s a 2 e w h (by decide) (by decide)).mono ?_
  rintro e w1 ⟨rfl, h1, h2⟩
  go_wp2_with fail
  go_ret
  exact ⟨rfl, h1, h2⟩
theorem fU32 (r : Nat) (s : List UInt8) (a : Nat) (e : Int) (w : World) (h : RdAt w r L s a e) :
    Calls Tryz.prog 44 #[.pointer (some ⟨r, 0, none⟩)] w (Rdd r L s (rdNum s a e 4).1 (rdNum s a e 4).2.1 (.int .i64 (rdNum s a e 4).2.2) w) := by
  go_enter Tryz.func44, Tryz.ntmps44
  go_wp2_with fail
  refine (take_plain r s a 4 e w h (by decide) (by decide)).mono ?_
  rintro e w1 ⟨rfl, h1, h2⟩
  go_wp2_with fail
  go_ret
  exact ⟨rfl, h1, h2⟩
theorem fI64 (r : Nat) (s : List UInt8) (a : Nat) (e : Int) (w : World) (h : RdAt w r L s a e) :
    Calls Tryz.prog 10 #[.pointer (some ⟨r, 0, none⟩)] w (Rdd r L s (rdNum s a e 8).1 (rdNum s a e 8).2.1 (.int .i64 (rdNum s a e 8).2.2) w) := by
  go_enter Tryz.func10, Tryz.ntmps10
  go_wp2_with fail
  refine (take_i64 r s a 8 e w h (by decide) (by decide)).mono ?_
  rintro e w1 ⟨rfl, h1, h2⟩
  go_wp2_with fail
  go_ret
  exact ⟨rfl, h1, h2⟩

set_option maxHeartbeats 800000 in
theorem fText_err (r : Nat) (s : List UInt8) (a : Nat) (e most : Int) (w : World) (h : RdAt w r L s a e) (he : ¬ e = 0) :
    Calls Tryz.prog 43 #[.pointer (some ⟨r, 0, none⟩), .int .i64 most] w (Rdd r L s a e (.string ⟨[].toArray⟩) w) := by
  obtain ⟨bv, hr, hB, hn, hL⟩ := h.ex
  obtain ⟨c, f⟩ := cells_of hr
  replace hr := Lib.hid hr
  have hee : (e == 0) = false := by simp [he]
  go_enter Tryz.func43, Tryz.ntmps43
  go_wp2
  go_ret
  exact ⟨rfl, h, Upd.refl _ _⟩

set_option maxHeartbeats 800000 in
theorem fText_head (r : Nat) (s : List UInt8) (a : Nat) (most : Int) (w : World) (h : RdAt w r L s a 0) (hs : ¬ a + 4 ≤ s.length) :
    Calls Tryz.prog 43 #[.pointer (some ⟨r, 0, none⟩), .int .i64 most] w (Rdd r L s a 3 (.string ⟨[].toArray⟩) w) := by
  obtain ⟨bv, hr, hB, hn, hL⟩ := h.ex
  obtain ⟨c, f⟩ := cells_of hr
  replace hr := Lib.hid hr
  have hl := h.len
  have hl2 := h.le
  go_enter Tryz.func43, Tryz.ntmps43
  go_wp2_with (first | (go_at_call 73; refine (fNumber_short r bv s a 4 0 w hr.out hB h.le h.len hs).mono ?_; rintro e w' ⟨rfl, rfl⟩) | go_in)
  go_ret
  exact ⟨rfl, h.fail 3, Upd.setCell (S := fun k => k = r) w rfl _⟩

section
variable (r : Nat) (s : List UInt8) (a : Nat) (most : Int) (w : World) (h : RdAt w r L s a 0) (hs : a + 4 ≤ s.length) (z : Nat) (hq : numL ((s.drop a).take 4) = z) (hz : z < 4294967296)
include h hs hq hz
set_option maxHeartbeats 800000 in
theorem fText_big (h2 : max 0 most < (z : Int)) :
    Calls Tryz.prog 43 #[.pointer (some ⟨r, 0, none⟩), .int .i64 most] w (Rdd r L s a 5 (.string ⟨[].toArray⟩) w) := by
  obtain ⟨bv, hr, hB, hn, hL⟩ := h.ex
  obtain ⟨g, off, cap, rfl, hcap, hmx, hc⟩ := bytes_at hB (by omega)
  obtain ⟨c, f⟩ := cells_of hr
  replace hr := Lib.hid hr
  replace hc := Lib.hid hc
  replace hq := Lib.hid hq
  have hlen := h.len
  by_cases hp : 0 < most
  all_goals
    first | rw [max0_pos hp] at h2 | rw [max0_neg hp] at h2
    go_enter Tryz.func43, Tryz.ntmps43
    go_wp2_with (first | (go_at_call 73; refine (fNumber_ok r g off cap s a 4 0 w hr.out hcap hmx hc.out hlen hs (by decide) (by decide)).mono ?_; rw [hq.out]; rintro e w' ⟨rfl, rfl⟩) | go_in)
    go_ret
    exact ⟨rfl, h.fail 5, Upd.setCell (S := fun k => k = r) w rfl _⟩

set_option maxHeartbeats 800000 in
theorem fText_short (h2 : (z : Int) ≤ max 0 most) (h3 : (s.length : Int) - (a + 4) < z) :
    Calls Tryz.prog 43 #[.pointer (some ⟨r, 0, none⟩), .int .i64 most] w (Rdd r L s a 3 (.string ⟨[].toArray⟩) w) := by
  obtain ⟨bv, hr, hB, hn, hL⟩ := h.ex
  obtain ⟨g, off, cap, rfl, hcap, hmx, hc⟩ := bytes_at hB (by omega)
  obtain ⟨c, f⟩ := cells_of hr
  replace hr := Lib.hid hr
  replace hc := Lib.hid hc
  replace hq := Lib.hid hq
  have hlen := h.len
  by_cases hp : 0 < most
  · rw [max0_pos hp] at h2
    go_enter Tryz.func43, Tryz.ntmps43
    go_wp2_with (first | (go_at_call 73; refine (fNumber_ok r g off cap s a 4 0 w hr.out hcap hmx hc.out hlen hs (by decide) (by decide)).mono ?_; rw [hq.out]; rintro e w' ⟨rfl, rfl⟩) | go_in)
    go_ret
    exact ⟨rfl, h.fail 3, Upd.setCell (S := fun k => k = r) w rfl _⟩
  · omega

set_option maxHeartbeats 800000 in
theorem fText_ok (h2 : (z : Int) ≤ max 0 most) (h3 : a + 4 + z ≤ s.length) :
    Calls Tryz.prog 43 #[.pointer (some ⟨r, 0, none⟩), .int .i64 most] w (Rdd r L s (a + 4 + z) 0 (.string ⟨((s.drop (a + 4)).take z).toArray⟩) w) := by
  obtain ⟨bv, hr, hB, hn, hL⟩ := h.ex
  obtain ⟨g, off, cap, rfl, hcap, hmx, hc⟩ := bytes_at hB (by omega)
  obtain ⟨c, f⟩ := cells_of hr
  replace hr := Lib.hid hr
  replace hc := Lib.hid hc
  replace hq := Lib.hid hq
  have hlen := h.len
  have h4 : (z : Int) ≤ s.length - (a + 4) := by omega
  have hi : IntKind.i64.wrap ((a : Int) + 4 + (z : Int)) = (a : Int) + 4 + (z : Int) := IntWalk.i64_in _ ⟨by omega, by omega⟩
  have hb1 : (a : Int) + 4 ≤ (a : Int) + 4 + (z : Int) := by omega
  have hb2 : (a : Int) + 4 + (z : Int) ≤ (cap : Int) := by omega
  have hW : Bytes (w.setCell ⟨r, 2, none⟩ (.int .i64 ((a : Int) + 4 + (z : Int)))) (.slice (some ⟨g, off, none⟩) s.length cap) s := bytes_setCell hB (fun k hk => Nat.ne_of_lt (hn k hk).2) _
  have hmv := h.move h3 (x := (a : Int) + 4 + (z : Int)) (by omega)
  have hup := Upd.setCell (S := fun k => k = r) w (a := ⟨r, 2, none⟩) rfl (.int .i64 ((a : Int) + 4 + (z : Int)))
  replace hB := Lib.hid hB
  replace hmv := Lib.hid hmv
  replace hup := Lib.hid hup
  by_cases hne : cap = a + 4
  · obtain rfl : z = 0 := by omega
    subst hne
    have hcv : Hid (∀ nq, (convert 22 9 (.slice (some ⟨g, off, none⟩) 0 0)).run Tryz.prog ((w.setCell ⟨r, 2, none⟩ (.int .i64 ((a : Int) + 4))).drewN nq) = .ok (.string ⟨#[]⟩) ((w.setCell ⟨r, 2, none⟩ (.int .i64 ((a : Int) + 4))).drewN nq)) :=
      fun nq => run_str _ _ _ 5 Tryz.underlying22 Tryz.underlying5 Tryz.underlying9 _ [] ⟨rfl, _, _, rfl, Nat.le_refl _, by unfold maxLen; omega, .inl rfl⟩
    simp only [Int.natCast_zero, Int.add_zero, Nat.add_zero] at *
    clear hW
    by_cases hp : 0 < most
    all_goals
      first | rw [max0_pos hp] at h2 | rw [max0_neg hp] at h2
      go_enter Tryz.func43, Tryz.ntmps43
      go_wp2_with (first | (go_at_call 73; refine (fNumber_ok r g off _ s a 4 0 w hr.out hcap hmx hc.out hlen hs (by decide) (by decide)).mono ?_; rw [hq.out]; rintro e w' ⟨rfl, rfl⟩) | go_in)
      have hcv := hcv.out
      go_quiet (fail)
      go_wp2_with fail
      go_ret
      exact ⟨rfl, hmv.out.non (Upd.drewN _ _ _), hup.out.then_drewN _⟩
  · have hP : Bytes (w.setCell ⟨r, 2, none⟩ (.int .i64 ((a : Int) + 4 + (z : Int)))) (.slice (some ⟨g, off + (a + 4), none⟩) z (cap - (a + 4))) ((s.drop (a + 4)).take z) := by
      have h := bytes_piece hW (a + 4) z (cap - (a + 4)) h3 (by omega) (by omega)
      have hl : List.length (List.take z (List.drop (a + 4) s)) = z := by simp; omega
      unfold Bytes
      rw [hl]
      exact h
    have hcv : Hid (∀ nq, (convert 22 9 (.slice (some ⟨g, off + (a + 4), none⟩) z (cap - (a + 4)))).run Tryz.prog ((w.setCell ⟨r, 2, none⟩ (.int .i64 ((a : Int) + 4 + (z : Int)))).drewN nq) = .ok (.string ⟨((s.drop (a + 4)).take z).toArray⟩) ((w.setCell ⟨r, 2, none⟩ (.int .i64 ((a : Int) + 4 + (z : Int)))).drewN nq)) :=
      fun nq => run_str _ _ _ 5 Tryz.underlying22 Tryz.underlying5 Tryz.underlying9 _ _ ((hP.upd (Upd.drewN Non _ nq) (fun _ _ h => h)))
    clear hW hP
    by_cases hp : 0 < most
    all_goals
      first | rw [max0_pos hp] at h2 | rw [max0_neg hp] at h2
      go_enter Tryz.func43, Tryz.ntmps43
      go_wp2_with (first | (go_at_call 73; refine (fNumber_ok r g off _ s a 4 0 w hr.out hcap hmx hc.out hlen hs (by decide) (by decide)).mono ?_; rw [hq.out]; rintro e w' ⟨rfl, rfl⟩) | go_in)
      have hcv := hcv.out
      go_quiet (fail)
      go_wp2_with fail
      go_ret
      exact ⟨rfl, hmv.out.non (Upd.drewN _ _ _), hup.out.then_drewN _⟩
end
end Go.Proofs.YtogekobpjjmnjaaGreat

namespace Go.Proofs.YtogekobpjjmnjaaGreat
set_option maxRecDepth 100000
open Go.RowKit Go.Amb
variable {L : Nat}
attribute [local go_sem ↓] Go.wp_at_zero Go.wp_at_succ

theorem fText (r : Nat) (s : List UInt8) (a : Nat) (e most : Int) (w : World) (h : RdAt w r L s a e) :
    Calls Tryz.prog 43 #[.pointer (some ⟨r, 0, none⟩), .int .i64 most] w (Rdd r L s (rdText s a e most).1 (rdText s a e most).2.1 (.string ⟨(rdText s a e most).2.2.toArray⟩) w) := by
  by_cases he : e = 0
  · subst he
    by_cases hs : a + 4 ≤ s.length
    · obtain ⟨z, hz, hz1, hn⟩ := num4 s a hs
      by_cases h2 : max 0 most < (z : Int)
      · rw [rdText_big hs (by rw [hz]; exact h2)]
        exact fText_big r s a most w h hs z hz hz1 h2
      · by_cases h3 : (s.length : Int) - (a + 4) < z
        · rw [rdText_short hs (by rw [hz]; omega) (by rw [hz]; exact h3)]
          exact fText_short r s a most w h hs z hz hz1 (by omega) h3
        · rw [rdText_ok hs (by rw [hz]; omega) (by rw [hz]; omega), hz]
          exact fText_ok r s a most w h hs z hz hz1 (by omega) (by omega)
    · rw [rdText_head hs]
      exact fText_head r s a most w h hs
  · rw [rdText_err he]
    exact fText_err r s a e most w h he

/-- What a copying call leaves. -/
def Copied (s : List UInt8) (w : World) (e : Ending) (w' : World) : Prop := ∃ v', e = .returned v' ∧ Bytes w' v' s ∧ Upd Non w w' ∧ ∀ k, At v' k → w.heap.size ≤ k ∧ k < w'.heap.size

theorem bytes_cases {w : World} {v : Value} {s : List UInt8} (h : Bytes w v s) : (∃ c, v = .slice none 0 c ∧ s = []) ∨ ∃ ad c, v = .slice (some ad) s.length c := by
  obtain ⟨hl, a, c, rfl, h1, h2, h3⟩ := h
  cases a with
  | some ad => exact .inr ⟨ad, c, rfl⟩
  | none =>
    refine .inl ⟨c, ?_⟩
    rcases h3 with h3 | ⟨g, off, h, _⟩
    · have := List.eq_nil_of_length_eq_zero h3
      subst this
      exact ⟨rfl, rfl⟩
    · cases h

set_option maxHeartbeats 800000 in
theorem sClone (v : Value) (s : List UInt8) (w : World) (hB : Bytes w v s) (hs : s.length ≤ 140737488355328) :
    Calls Tryz.prog 39 #[v] w (Copied s w) := by
  have hi := Lib.hid (@info_u8)
  have hB' := Lib.hid hB
  have hsl : ∀ (w : World) a n c, (binOp .eql 22 (.slice a n c) (.slice none 0 0)).run Tryz.prog w = .ok (.bool a.isNone) w := fun w a n c => Lib.run_eql_slice_nil w _ 5 a n c 0 0 Tryz.underlying22
  rcases bytes_cases hB with ⟨c, rfl, rfl⟩ | ⟨ad, c, rfl⟩
  · clear hB
    go_enter Tryz.func39, Tryz.ntmps39
    go_wp2_with fail
    go_ret
    exact ⟨_, rfl, Has.nil w 1, Upd.refl _ _, fun k h => by cases h⟩
  · clear hB
    go_enter Tryz.func39, Tryz.ntmps39
    go_wp2_with (at_builtin; go_must (refine wpList_app rfl _ _ 22 22 rfl w.heap.size 5 (.int .u8 0) 1 1 Tryz.underlying22 hi.out rfl _ _ _ rfl (own_lit0 w w.heap.size 5 (Nat.le_refl _)) _ s.length (bc s) rfl (Src.ofHas Tryz.underlying22 (hB'.out.upd (Upd.alloc Non w _) fun _ _ h => h) (bc_one s)) ?h63 ?hby (by simp) ?_))
    case h63 => simp; unfold maxLen; omega
    case hby => simp; omega
    intro v' w' ho hu hf
    go_wp2_with fail
    go_ret
    have ho' : Own w' w.heap.size 5 v' s := by have := own_app (l := []) ho; simpa using this
    exact ⟨_, rfl, ho'.bytes, (Upd.alloc Non w _).trans hu fun j hj h => by simp [At, Value.ownBlock] at h; omega, fun k hk => ⟨own_ge ho hk, own_lt ho hk⟩⟩

theorem bytes_form {w : World} {v : Value} {s : List UInt8} (h : Bytes w v s) : ∃ a c, v = .slice a s.length c := by
  obtain ⟨hl, a, c, rfl, h1, h2, h3⟩ := h
  exact ⟨a, c, rfl⟩

set_option maxHeartbeats 800000 in
theorem fNewReader (v : Value) (s : List UInt8) (w : World) (hB : Bytes w v s) (hs : s.length ≤ 140737488355328) :
    Calls Tryz.prog 8 #[v] w fun e w' => ∃ r, e = .returned (.pointer (some ⟨r, 0, none⟩)) ∧ RdAt w' r w.heap.size s 0 0 ∧ Upd Non w w' ∧ w.heap.size ≤ r := by
  go_enter Tryz.func8, Tryz.ntmps8
  go_wp2_with fail
  refine (sClone v s w hB hs).mono ?_
  rintro e w1 ⟨v1, rfl, hB1, hu, hn⟩
  obtain ⟨a, c, hv⟩ := bytes_form hB1
  subst hv
  replace hB1 := Lib.hid hB1
  go_wp2_with fail
  go_ret
  have hB1 := hB1.out
  have hsz := hu.size
  refine ⟨w1.heap.size, rfl, ⟨hs, Nat.zero_le _, _, heap_alloc_new _ _, hB1.upd (Upd.alloc Non _ _) fun _ _ h => h, fun k hk => ?_, hsz⟩, hu.then_alloc _, by omega⟩
  have := hn k hk
  omega

end Go.Proofs.YtogekobpjjmnjaaGreat

namespace Go.Proofs.YtogekobpjjmnjaaGreat
set_option maxRecDepth 100000
open Go.RowKit Go.Amb
variable {L : Nat}
attribute [local go_sem ↓] Go.wp_at_zero Go.wp_at_succ

/-- A call that answers v and leaves the world as it is (but for draws). -/
def Told (v : Value) (w : World) (e : Ending) (w' : World) : Prop := e = .returned v ∧ ∃ n, w' = w.drewN n
theorem drewN_zero (w : World) : w = w.drewN 0 := rfl

theorem fErr (r : Nat) (s : List UInt8) (a : Nat) (e : Int) (w : World) (h : RdAt w r L s a e) :
    Calls Tryz.prog 47 #[.pointer (some ⟨r, 0, none⟩)] w fun x w' => x = .returned (.int .i64 e) ∧ w = w' := by
  obtain ⟨bv, hr, hB, hn, hL⟩ := h.ex
  obtain ⟨c, f⟩ := cells_of hr
  clear hr
  go_enter Tryz.func47, Tryz.ntmps47
  go_wp2_with fail
  go_ret
  exact ⟨rfl, rfl⟩

set_option maxHeartbeats 400000 in
theorem fEnd (r : Nat) (s : List UInt8) (a : Nat) (e : Int) (w : World) (h : RdAt w r L s a e) :
    Calls Tryz.prog 22 #[.pointer (some ⟨r, 0, none⟩)] w (Told (.int .i64 (rdEnd s a e)) w) := by
  have he := Lib.hid (fErr r s a e w h)
  obtain ⟨bv, hr, hB, hn, hL⟩ := h.ex
  obtain ⟨cc, f⟩ := cells_of hr
  clear hr f
  obtain ⟨av, cv, rfl⟩ := bytes_form hB
  clear hB hn
  unfold rdEnd
  by_cases h0 : e = 0
  · subst h0
    rw [if_pos rfl]
    by_cases hl : a < s.length
    · rw [if_pos hl]
      have hl' : (a : Int) < s.length := by omega
      go_enter Tryz.func22, Tryz.ntmps22
      go_wp2_with (go_at_call 47; refine he.out.mono ?_; rintro e w' ⟨rfl, rfl⟩)
      go_quiet (fail)
      go_wp2_with fail
      go_ret
      exact ⟨rfl, _, rfl⟩
    · rw [if_neg hl]
      have hl' : ¬ (a : Int) < s.length := by omega
      go_enter Tryz.func22, Tryz.ntmps22
      go_wp2_with (go_at_call 47; refine he.out.mono ?_; rintro e w' ⟨rfl, rfl⟩)
      go_quiet (fail)
      go_wp2_with fail
      go_ret
      exact ⟨rfl, _, rfl⟩
  · rw [if_neg h0]
    have hne : (e != 0) = true := by simp [h0]
    go_enter Tryz.func22, Tryz.ntmps22
    go_wp2_with (go_at_call 47; refine he.out.mono ?_; rintro e w' ⟨rfl, rfl⟩)
    go_ret
    exact ⟨rfl, 0, rfl⟩

end Go.Proofs.YtogekobpjjmnjaaGreat
