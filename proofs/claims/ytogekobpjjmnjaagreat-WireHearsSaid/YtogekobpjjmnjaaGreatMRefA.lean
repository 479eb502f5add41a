/- The walks over package ambryref01: fields and texts as strings. -/
import Derived.Test.YtogekobpjjmnjaaGreatMField
import Derived.Deep.QuietTactic
import Derived.BigQuiet
import Derived.Deep.RegionHeld3
import Derived.StillTailTactics
import Derived.Deep.DrawnRows
namespace Go.Proofs.YtogekobpjjmnjaaGreat
set_option maxRecDepth 100000
open Go.RowKit Go.Amb
set_option linter.unusedVariables false

set_option maxHeartbeats 400000 in
theorem refField (n : Int) (m : Nat) (w : World) (hlo : -9223372036854775808 ≤ n) (hhi : n ≤ 9223372036854775807) (hm : m ≤ 8) :
    Calls Tryz.prog 62 #[.int .i64 n, .int .i64 m] w (Ret (.string ⟨(fld n m).toArray⟩) w) := by
  have hi := Lib.hid (@info_u8)
  have hf : Hid (∀ i, i < 8 → byteAt (IntKind.u64.wrap n) i = byteAt n i) := by
    intro i hi
    rw [← byteAt_mod n i 8 hi]
    congr 1
  have hb : 0 ≤ IntKind.u64.wrap n ∧ IntKind.u64.wrap n < 18446744073709551616 := by simp only [IntKind.wrap_u64]; omega
  obtain ⟨hb0, hb1⟩ := hb
  go_enter Tryz.func62, Tryz.ntmps62
  go_wp2_with fail
  generalize IntKind.u64.wrap n = u at *
  go_loopw [6, 7] (fun o i wr => ∃ k : Nat, k ≤ m ∧ i = .int .i64 ((k : Int) - 1) ∧ Own wr w.heap.size 5 o (fldTo u m (m - k)) ∧ Upd Non w wr) (fun _ i _ => (intOf i + 1).toNat)
  case atStart => exact ⟨m, by omega, rfl, by rw [Nat.sub_self]; exact World.ownsRow_nil _ _ _ _, Upd.refl _ _⟩
  case round =>
    obtain ⟨k, hk, rfl, ho, hu⟩ := hrel
    by_cases hz : k = 0
    · subst hz
      go_wp2_with (refine wpList_str rfl _ 22 9 5 rfl Tryz.underlying22 Tryz.underlying5 Tryz.underlying9 _ _ rfl ho.bytes ?_)
      go_ret
      refine ⟨?_, hu⟩
      have e : fldTo u m m = fld n m := List.map_congr_left fun t ht => hf.out _ (by have := List.mem_range.1 ht; omega)
      rw [e]; rfl
    · have hsz := hu.size
      go_wp2_with (at_builtin; go_must (refine wpList_app1 rfl _ _ 22 rfl w.heap.size 5 (.int .u8 0) 1 1 Tryz.underlying22 hi.out rfl _ _ _ rfl ho [.int .u8 _] rfl rfl ?h1c ?h63 ?hby (by omega) ?_))
      case h1c => intro u hu; rw [List.mem_singleton] at hu; subst hu; rfl
      case h63 => simp [fldTo_length]; unfold maxLen; omega
      case hby => simp [fldTo_length]; omega
      intro v' w' ho' hu' hf'
      go_wp2_with fail
      go_roundw
      case rel =>
        refine ⟨k - 1, by omega, by go_num, ?_, hu.trans hu' fun j hj h => absurd (own_ge ho h) (by omega)⟩
        rw [show m - (k - 1) = (m - k) + 1 by omega, fldTo_succ]
        refine own_snoc ho' ?_
        rw [show m - 1 - (m - k) = k - 1 by omega, byteAt_int]
      case measure => simp [intOf]; omega

/-- A text's bytes. -/
def txt (s : List UInt8) : List UInt8 := fld s.length 4 ++ s

end Go.Proofs.YtogekobpjjmnjaaGreat

namespace Go.Proofs.YtogekobpjjmnjaaGreat
set_option maxRecDepth 100000
open Go.RowKit Go.Amb
attribute [local go_sem ↓] Go.wp_at_zero Go.wp_at_succ

/-- The number of bytes, the highest first. -/
def numL (l : List UInt8) : Int := l.foldl (fun n b => n * 256 + b.toNat) 0

theorem numL_snoc (l : List UInt8) (b : UInt8) : numL (l ++ [b]) = numL l * 256 + b.toNat := by simp [numL]
theorem foldl_num (l : List UInt8) : ∀ z : Int, 0 ≤ z → 0 ≤ l.foldl (fun n b => n * 256 + (b.toNat : Int)) z ∧ l.foldl (fun n b => n * 256 + (b.toNat : Int)) z < (z + 1) * 256 ^ l.length := by
  induction l with
  | nil => intro z hz; simp; omega
  | cons b l ih =>
    intro z hz
    have hb := b.toNat_lt
    have := ih (z * 256 + b.toNat) (by omega)
    refine ⟨this.1, Int.lt_of_lt_of_le this.2 ?_⟩
    rw [List.length_cons, Int.pow_succ, Int.mul_comm (256 ^ l.length), ← Int.mul_assoc]
    exact Int.mul_le_mul_of_nonneg_right (by omega) (Int.pow_nonneg (by decide))
theorem numL_nonneg (l : List UInt8) : 0 ≤ numL l := (foldl_num l 0 (by decide)).1
theorem numL_lt (l : List UInt8) : numL l < 256 ^ l.length := by have := (foldl_num l 0 (by decide)).2; simpa [numL] using this
theorem numL_lt_of {l : List UInt8} {m : Nat} (h : l.length ≤ m) : numL l < 256 ^ m := by
  refine Int.lt_of_lt_of_le (numL_lt l) ?_
  obtain ⟨d, rfl⟩ : ∃ d, m = l.length + d := ⟨m - l.length, by omega⟩
  rw [Int.pow_add]
  have h1 : (0 : Int) ≤ 256 ^ l.length := Int.pow_nonneg (by decide)
  have h2 : (1 : Int) ≤ 256 ^ d := by have := Int.pow_pos (n := (256 : Int)) (m := d) (by decide); omega
  have := Int.mul_le_mul_of_nonneg_left h2 h1
  omega
theorem num_step (z : Int) (b : UInt8) (h0 : 0 ≤ z) (h1 : z < 256 ^ 7) : bits .or .u64 (IntKind.u64.wrap (z * 256)) (IntKind.u64.wrap (b.toNat : Int)) = z * 256 + b.toNat := by
  have hb := b.toNat_lt
  have h1' : z < 72057594037927936 := by simpa using h1
  rw [IntWalk.u64_in (z * 256) ⟨by omega, by omega⟩, IntWalk.u64_in _ ⟨by omega, by omega⟩]
  rw [u64_or _ _ (by omega) (by omega) (by omega) (by omega)]
  rw [nat_join 8 _ _ (by omega) (by omega)]
  omega
theorem take_drop_succ (s : List UInt8) (a k : Nat) (h : a + k < s.length) : (s.drop a).take (k + 1) = (s.drop a).take k ++ [s[a + k]] := by
  rw [List.take_add_one, List.getElem?_drop, List.getElem?_eq_getElem h]; rfl

set_option maxHeartbeats 400000 in
theorem refNumber (s : List UInt8) (a m : Nat) (w : World) (h : a + m ≤ s.length) (hs : s.length ≤ 140737488355328) (hm : m ≤ 8) :
    Calls Tryz.prog 89 #[.string ⟨s.toArray⟩, .int .i64 a, .int .i64 m] w fun e w' => e = .returned (.int .i64 (wrap64 (numL ((s.drop a).take m)))) ∧ w = w' := by
  go_enter Tryz.func89, Tryz.ntmps89
  go_wp2_with fail
  go_loop [7, 8] (fun u i => ∃ k : Nat, k ≤ m ∧ i = .int .i64 k ∧ u = .int .u64 (numL ((s.drop a).take k))) (fun _ i => m - (intOf i).toNat)
  case atStart => exact ⟨0, by omega, rfl, rfl⟩
  case round =>
    obtain ⟨k, hk, rfl, rfl⟩ := hrel
    by_cases hlt : k < m
    · go_wp2_with fail
      go_round
      case rel =>
        refine ⟨k + 1, by omega, by go_num, ?_⟩
        rw [num_step _ _ (numL_nonneg _) (numL_lt_of (by simp; omega)), take_drop_succ s a k (by omega), numL_snoc]
        rfl
      case measure => simp [intOf]; omega
    · obtain rfl : k = m := by omega
      go_wp2_with fail
      go_ret
      exact ⟨rfl, rfl⟩
end Go.Proofs.YtogekobpjjmnjaaGreat
