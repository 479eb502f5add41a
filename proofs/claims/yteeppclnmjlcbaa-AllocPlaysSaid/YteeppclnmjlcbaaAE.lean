/- Plain: a page's bit set, or not; an alloc's words then. -/
import Derived.Test.YteeppclnmjlcbaaAD
namespace Go.Proofs.Yteeppclnmjlcbaa
open Go.RowKit Go.Amb
set_option linter.unusedVariables false

/-- One page's bit, set or not. -/
def putN (B i : Nat) (b : Bool) : Nat := if b then B ||| 2 ^ i else B ^^^ (B &&& 2 ^ i)
theorem putN_bit (B i j : Nat) (b : Bool) : (putN B i b).testBit j = if i = j then b else B.testBit j := by
  unfold putN
  cases b with
  | true =>
    rw [if_pos rfl, Nat.testBit_or, Nat.testBit_two_pow]
    by_cases h : i = j <;> simp [h]
  | false =>
    rw [if_neg (by decide), Nat.testBit_xor, Nat.testBit_and, Nat.testBit_two_pow]
    by_cases h : i = j <;> simp [h]
theorem putN_lt {B i n : Nat} (h : B < 2 ^ n) (hi : i < n) (b : Bool) : putN B i b < 2 ^ n := by
  apply Nat.lt_pow_two_of_testBit
  intro j hj
  rw [putN_bit, if_neg (by omega)]
  exact Nat.testBit_lt_two_pow (Nat.lt_of_lt_of_le h (Nat.pow_le_pow_right (by decide) hj))
theorem word_ext {x y : Nat} (hx : x < 18446744073709551616) (hy : y < 18446744073709551616) (h : ∀ k, k < 64 → x.testBit k = y.testBit k) : x = y := by
  apply Nat.eq_of_testBit_eq
  intro k
  by_cases hk : k < 64
  · exact h k hk
  · have hp : 2 ^ 64 ≤ 2 ^ k := Nat.pow_le_pow_right (by decide) (by omega)
    rw [Nat.testBit_lt_two_pow (Nat.lt_of_lt_of_le hx hp), Nat.testBit_lt_two_pow (Nat.lt_of_lt_of_le hy hp)]
theorem putN_word (B i : Nat) (b : Bool) : wordN (putN B i b) (i / 64) = putN (wordN B (i / 64)) (i % 64) b := by
  refine word_ext (wordN_lt _ _) (putN_lt (n := 64) (wordN_lt B _) (Nat.mod_lt _ (by decide)) b) fun k hk => ?_
  rw [wordN_bit _ _ _ hk, putN_bit, putN_bit, wordN_bit _ _ _ hk]
  by_cases h : i = 64 * (i / 64) + k
  · rw [if_pos h, if_pos (by omega)]
  · rw [if_neg h, if_neg (by omega)]
theorem putN_else (B i j : Nat) (b : Bool) (h : j ≠ i / 64) : wordN (putN B i b) j = wordN B j := by
  refine word_ext (wordN_lt _ _) (wordN_lt _ _) fun k hk => ?_
  rw [wordN_bit _ _ _ hk, putN_bit, wordN_bit _ _ _ hk, if_neg (by omega)]
theorem u64_or' (x y : Nat) (hx : x < 18446744073709551616) (hy : y < 18446744073709551616) : bits .or .u64 (x : Int) (y : Int) = ((x ||| y : Nat) : Int) := by
  show IntKind.u64.wrap (((BitVec.ofInt 64 (x : Int)) ||| (BitVec.ofInt 64 (y : Int))).toNat : Int) = _
  rw [BitVec.toNat_or, BitVec.toNat_ofInt, BitVec.toNat_ofInt]
  have ex : ((x : Int) % ((2 ^ 64 : Nat) : Int)).toNat = x := by omega
  have ey : ((y : Int) % ((2 ^ 64 : Nat) : Int)).toNat = y := by omega
  rw [ex, ey]
  have := Nat.or_lt_two_pow (n := 64) hx hy
  simp only [Nat.reducePow] at this
  exact IntWalk.u64_in _ ⟨by omega, by omega⟩
theorem u64_not (x y : Nat) (hx : x < 18446744073709551616) (hy : y < 18446744073709551616) : bits .andNot .u64 (x : Int) (y : Int) = ((x ^^^ (x &&& y) : Nat) : Int) := by
  show IntKind.u64.wrap (((BitVec.ofInt 64 (x : Int)) &&& ~~~ (BitVec.ofInt 64 (y : Int))).toNat : Int) = _
  have ex : (BitVec.ofInt 64 (x : Int)).toNat = x := by rw [BitVec.toNat_ofInt]; omega
  have ey : (BitVec.ofInt 64 (y : Int)).toNat = y := by rw [BitVec.toNat_ofInt]; omega
  have e : ((BitVec.ofInt 64 (x : Int)) &&& ~~~ (BitVec.ofInt 64 (y : Int))).toNat = x ^^^ (x &&& y) := by
    refine word_ext (BitVec.isLt _) (Nat.xor_lt_two_pow (n := 64) hx (Nat.lt_of_le_of_lt Nat.and_le_left hx)) fun k hk => ?_
    rw [BitVec.testBit_toNat, BitVec.getLsbD_and, BitVec.getLsbD_not, ← BitVec.testBit_toNat, ← BitVec.testBit_toNat, ex, ey, Nat.testBit_xor, Nat.testBit_and]
    cases x.testBit k <;> cases y.testBit k <;> simp [hk]
  rw [e]
  have := Nat.xor_lt_two_pow (n := 64) hx (Nat.lt_of_le_of_lt (Nat.and_le_left (n := x) (m := y)) hx)
  simp only [Nat.reducePow] at this
  exact IntWalk.u64_in _ ⟨by omega, by omega⟩
end Go.Proofs.Yteeppclnmjlcbaa
