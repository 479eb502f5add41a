/- The walk over math/bits.OnesCount64. -/
import Derived.Test.YtfjcjppfihafgaaRows
import Derived.Test.YtfjcjppfihafgaaMLibB
import Derived.Test.YtfjcjppfihafgaaMLibC
import Derived.Test.YtfjcjppfihafgaaMLib
import Derived.Deep.DeepMust
import Derived.Handy
import Derived.WalkSmall
import Derived.Laws.Bits64
import Derived.Test.YtfjcjppfihafgaaMFPlain
import Derived.Test.YtfjcjppfihafgaaMPopP
import Derived.Deep.QuietTactic
namespace Go.Proofs.Ytfjcjppfihafgaa
set_option maxRecDepth 100000
open Go.RowKit Go.Amb
set_option linter.unusedVariables false

theorem u64_and (x y : Nat) (hx : x < 18446744073709551616) (hy : y < 18446744073709551616) : bits .and .u64 (x : Int) (y : Int) = ((x &&& y : Nat) : Int) := by
  show IntKind.u64.wrap (((BitVec.ofInt 64 (x : Int)) &&& (BitVec.ofInt 64 (y : Int))).toNat : Int) = _
  rw [BitVec.toNat_and, BitVec.toNat_ofInt, BitVec.toNat_ofInt]
  have ex : ((x : Int) % ((2 ^ 64 : Nat) : Int)).toNat = x := by omega
  have ey : ((y : Int) % ((2 ^ 64 : Nat) : Int)).toNat = y := by omega
  rw [ex, ey]
  have := Nat.and_le_left (n := x) (m := y)
  exact IntWalk.u64_in _ ⟨by omega, by omega⟩
def os1 (x : Int) : Int := IntKind.u64.wrap (bits .and .u64 (x / 2) 6148914691236517205 + bits .and .u64 x 6148914691236517205)
def os2 (x : Int) : Int := IntKind.u64.wrap (bits .and .u64 (x / 4) 3689348814741910323 + bits .and .u64 x 3689348814741910323)
def os3 (x : Int) : Int := bits .and .u64 (IntKind.u64.wrap (x / 16 + x)) 1085102592571150095
def os4 (x : Int) : Int := IntKind.u64.wrap (x + x / 256)
def os5 (x : Int) : Int := IntKind.u64.wrap (x + x / 65536)
def os6 (x : Int) : Int := IntKind.u64.wrap (x + x / 4294967296)
theorem os1_eq {x s : Nat} (hx : x < 18446744073709551616) (e : (x / 2 &&& 6148914691236517205) + (x &&& 6148914691236517205) = s) (h : s < 18446744073709551616) : os1 (x : Int) = (s : Int) := by
  have a : bits .and .u64 ((x : Int) / 2) 6148914691236517205 = ((x / 2 &&& 6148914691236517205 : Nat) : Int) := u64_and (x / 2) 6148914691236517205 (by omega) (by decide)
  have b : bits .and .u64 (x : Int) 6148914691236517205 = ((x &&& 6148914691236517205 : Nat) : Int) := u64_and x 6148914691236517205 hx (by decide)
  unfold os1
  rw [a, b, ← Int.natCast_add, e]
  exact IntWalk.u64_in _ ⟨by omega, by omega⟩
theorem os2_eq {x s : Nat} (hx : x < 18446744073709551616) (e : (x / 4 &&& 3689348814741910323) + (x &&& 3689348814741910323) = s) (h : s < 18446744073709551616) : os2 (x : Int) = (s : Int) := by
  have a : bits .and .u64 ((x : Int) / 4) 3689348814741910323 = ((x / 4 &&& 3689348814741910323 : Nat) : Int) := u64_and (x / 4) 3689348814741910323 (by omega) (by decide)
  have b : bits .and .u64 (x : Int) 3689348814741910323 = ((x &&& 3689348814741910323 : Nat) : Int) := u64_and x 3689348814741910323 hx (by decide)
  unfold os2
  rw [a, b, ← Int.natCast_add, e]
  exact IntWalk.u64_in _ ⟨by omega, by omega⟩
theorem os3_eq {x s : Nat} (hx : x / 16 + x < 18446744073709551616) (e : (x / 16 + x &&& 1085102592571150095) = s) : os3 (x : Int) = (s : Int) := by
  have a : bits .and .u64 (((x / 16 + x : Nat) : Int)) 1085102592571150095 = ((x / 16 + x &&& 1085102592571150095 : Nat) : Int) := u64_and (x / 16 + x) 1085102592571150095 hx (by decide)
  unfold os3
  rw [show (x : Int) / 16 + (x : Int) = ((x / 16 + x : Nat) : Int) by omega, IntWalk.u64_in _ ⟨by omega, by omega⟩, a, e]
theorem os4_eq {x s : Nat} (e : x + x / 256 = s) (h : s < 18446744073709551616) : os4 (x : Int) = (s : Int) := by
  unfold os4; rw [IntWalk.u64_in _ ⟨by omega, by omega⟩]; omega
theorem os5_eq {x s : Nat} (e : x + x / 65536 = s) (h : s < 18446744073709551616) : os5 (x : Int) = (s : Int) := by
  unfold os5; rw [IntWalk.u64_in _ ⟨by omega, by omega⟩]; omega
theorem os6_eq {x s : Nat} (e : x + x / 4294967296 = s) (h : s < 18446744073709551616) : os6 (x : Int) = (s : Int) := by
  unfold os6; rw [IntWalk.u64_in _ ⟨by omega, by omega⟩]; omega
theorem and127 (x : Nat) : bits .and .i64 (wrap64 (x : Int)) 127 = (x : Int) % 128 := by
  have hm : bits .and .i64 (wrap64 (x : Int)) 127 = wrap64 (x : Int) % 2 ^ 7 := and_mask (wrap64 (x : Int)) 7 (by decide)
  rw [hm]
  unfold wrap64
  omega
theorem os_all (x : Nat) (hx : x < 18446744073709551616) : bits .and .i64 (wrap64 (os6 (os5 (os4 (os3 (os2 (os1 (x : Int)))))))) 127 = (popc 64 x : Nat) := by
  obtain ⟨s1, s2, e1, h1, e2, h2, h3, e3⟩ := pop3 x hx
  obtain ⟨s4, s5, s6, e4, h4, e5, h5, e6, h6, e7⟩ := pop_last x
  rw [← e3] at e4
  obtain ⟨s3, e3'⟩ : ∃ s3, (s2 / 16 + s2 &&& 1085102592571150095) = s3 := ⟨_, rfl⟩
  rw [e3'] at e4
  rw [os1_eq hx e1 h1, os2_eq h1 e2 h2, os3_eq h3 e3', os4_eq e4 h4, os5_eq e5 h5, os6_eq e6 h6, and127, ← e7]
  omega
set_option maxHeartbeats 1000000 in
theorem onesCount (x : Nat) (w : World) (hx : x < 18446744073709551616) : Calls Try.prog 50 #[.int .u64 (x : Int)] w (fun e w' => e = .returned (.int .i64 (popc 64 x : Nat)) ∧ w' = w) := by
  go_enter Try.func50, Try.ntmps50
  go_wp2_with fail
  go_ret
  exact ⟨congrArg (fun z => Ending.returned (Value.int .i64 z)) (os_all x hx), rfl⟩
end Go.Proofs.Ytfjcjppfihafgaa

namespace Go.Proofs.Ytfjcjppfihafgaa
set_option maxRecDepth 100000
open Go.RowKit Go.Amb
set_option linter.unusedVariables false

set_option maxHeartbeats 1000000 in
theorem aBit (i : Nat) (w : World) (hi : i < 9223372036854775808) : Calls Try.prog 53 #[.int .i64 (i : Int)] w (Ret (.tuple #[.int .i64 ((i / 64 : Nat) : Int), .int .u64 ((2 ^ (i % 64) : Nat) : Int)]) w) := by
  have hq : (i : Int).tdiv 64 = ((i / 64 : Nat) : Int) := rfl
  have hr : (i : Int).tmod 64 = ((i % 64 : Nat) : Int) := rfl
  have hq2 : IntKind.i64.wrap ((i / 64 : Nat) : Int) = ((i / 64 : Nat) : Int) := IntWalk.i64_in _ ⟨by omega, by omega⟩
  have hr2 : IntKind.i64.wrap ((i % 64 : Nat) : Int) = ((i % 64 : Nat) : Int) := IntWalk.i64_in _ ⟨by omega, by omega⟩
  have hr3 : (0 : Int) ≤ ((i % 64 : Nat) : Int) := by omega
  have hk : i % 64 < 64 := Nat.mod_lt _ (by decide)
  generalize i / 64 = q at *
  generalize i % 64 = k at *
  go_enter Try.func53, Try.ntmps53
  go_wp2_with fail
  go_quiet (fail)
  go_wp2_with fail
  go_ret2
  have hw : IntKind.u64.wrap ((2 : Int) ^ k) = ((2 ^ k : Nat) : Int) := by
    have hlt : 2 ^ k < 2 ^ 64 := Nat.pow_lt_pow_right (by decide) hk
    simp only [Nat.reducePow] at hlt
    rw [show (2 : Int) ^ k = ((2 ^ k : Nat) : Int) by simp]
    generalize 2 ^ k = m at *
    exact IntWalk.u64_in _ ⟨by omega, by omega⟩
  exact ⟨by rw [← hw]; rfl, Upd.drewN _ _ _⟩

/-- An alloc's word: which of its pages are taken, by one number's bits. -/
def wordN (B j : Nat) : Nat := B / 2 ^ (64 * j) % 18446744073709551616
theorem wordN_lt (B j : Nat) : wordN B j < 18446744073709551616 := Nat.mod_lt _ (by decide)
theorem wordN_bit (B j k : Nat) (hk : k < 64) : (wordN B j).testBit k = B.testBit (64 * j + k) := by
  unfold wordN
  rw [show 18446744073709551616 = 2 ^ 64 from rfl, Nat.testBit_mod_two_pow, Nat.testBit_div_two_pow]
  simp [hk, Nat.add_comm]
theorem and_pow (x k : Nat) : (x &&& 2 ^ k ≠ 0) ↔ x.testBit k = true := by
  constructor
  · intro h
    cases hb : x.testBit k with
    | true => rfl
    | false =>
      refine absurd (Nat.eq_of_testBit_eq fun i => ?_) h
      rw [Nat.testBit_and, Nat.testBit_two_pow, Nat.zero_testBit]
      by_cases e : k = i
      · subst e; simp [hb]
      · simp [e]
  · intro h e
    have := congrArg (Nat.testBit · k) e
    simp [Nat.testBit_and, h] at this
theorem word_test (B i : Nat) : (wordN B (i / 64) &&& 2 ^ (i % 64) ≠ 0) ↔ B.testBit i = true := by
  rw [and_pow, wordN_bit _ _ _ (Nat.mod_lt _ (by decide)), Nat.div_add_mod]
/-- An alloc lies in a block, its words in another one. -/
structure AllocAt (w : World) (r g n B : Nat) : Prop where
  pos : 1 ≤ n
  most : n ≤ 16384
  bits : B < 2 ^ n
  apart : r ≠ g
  size : w.cell? ⟨r, 0, none⟩ = some (.int .i64 (n : Int))
  cap : ∃ c, (n + 63) / 64 ≤ c ∧ c ≤ maxLen ∧ w.cell? ⟨r, 1, none⟩ = some (.slice (some ⟨g, 0, none⟩) ((n + 63) / 64) c)
  word : ∀ j, j < (n + 63) / 64 → w.cell? ⟨g, j, none⟩ = some (.int .u64 (wordN B j : Int)) ∧ w.frozen? ⟨g, j, none⟩ = false
  live : r < w.heap.size ∧ g < w.heap.size
end Go.Proofs.Ytfjcjppfihafgaa

namespace Go.Proofs.Ytfjcjppfihafgaa
set_option maxRecDepth 100000
open Go.RowKit Go.Amb
set_option linter.unusedVariables false

theorem AllocAt.non {w w' : World} {r g n B : Nat} (h : AllocAt w r g n B) (hu : Upd Non w w') : AllocAt w' r g n B :=
  ⟨h.pos, h.most, h.bits, h.apart, hu.cell h.size fun h => h, by
    obtain ⟨c, h1, h2, h3⟩ := h.cap
    exact ⟨c, h1, h2, hu.cell h3 fun h => h⟩, fun j hj => ⟨hu.cell (h.word j hj).1 fun h => h, (World.frozen?_of_block (a := ⟨g, j, none⟩) (hu.block g h.live.2 fun h => h)).trans (h.word j hj).2⟩, by have := hu.size; have := h.live; omega⟩

set_option maxHeartbeats 1000000 in
theorem aIs (r g n B i : Nat) (w : World) (h : AllocAt w r g n B) (hi : i < n) : Calls Try.prog 45 #[.pointer (some ⟨r, 0, none⟩), .int .i64 (i : Int)] w (Ret (.bool (B.testBit i)) w) := by
  obtain ⟨c, hc, hcm, h1⟩ := h.cap
  have hm := h.most
  have hj : i / 64 < (n + 63) / 64 := by omega
  obtain ⟨hw, -⟩ := h.word _ hj
  have hb := Lib.hid (fun w => aBit i w (by omega))
  have ht := word_test B i
  have hlt := wordN_lt B (i / 64)
  have hpow : 2 ^ (i % 64) < 2 ^ 64 := Nat.pow_lt_pow_right (by decide) (Nat.mod_lt i (by decide))
  rw [show 2 ^ 64 = 18446744073709551616 from rfl] at hpow
  have hand := u64_and (wordN B (i / 64)) (2 ^ (i % 64)) hlt hpow
  have hj0 : (0 : Int) ≤ ((i / 64 : Nat) : Int) := by omega
  have hj1 : ((i / 64 : Nat) : Int) < (((n + 63) / 64 : Nat) : Int) := by omega
  generalize wordN B (i / 64) = x at *
  generalize 2 ^ (i % 64) = y at *
  generalize i / 64 = j at *
  generalize (n + 63) / 64 = m at *
  have hfin : ((((x &&& y : Nat) : Int) != 0) : Bool) = B.testBit i := by
    cases hB : B.testBit i with
    | true => rw [hB] at ht; simpa using ht
    | false => rw [hB] at ht; simpa using ht
  replace ht := Lib.hid ht
  replace hfin := Lib.hid hfin
  replace hand := Lib.hid hand
  go_enter Try.func45, Try.ntmps45
  go_wp2_with fail
  refine (hb.out _).mono ?_
  rintro e w1 ⟨rfl, hu⟩
  have c1 := hu.cell h1 fun h => h
  have c2 := hu.cell hw fun h => h
  go_wp2_with fail
  go_ret
  exact ⟨by rw [← hfin.out, ← hand.out]; rfl, hu⟩
end Go.Proofs.Ytfjcjppfihafgaa
