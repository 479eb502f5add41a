/- The walks over package alloc: a page's bit. -/
import Derived.Test.YteeppclnmjlcbaaAA
import Derived.Deep.QuietTactic
namespace Go.Proofs.Yteeppclnmjlcbaa
open Go.RowKit Go.Amb
set_option linter.unusedVariables false

set_option maxHeartbeats 1000000 in
theorem aBit (i : Nat) (w : World) (hi : i < 9223372036854775808) : Calls Try.prog 33 #[.int .i64 (i : Int)] w (Ret (.tuple #[.int .i64 ((i / 64 : Nat) : Int), .int .u64 ((2 ^ (i % 64) : Nat) : Int)]) w) := by
  have hq : (i : Int).tdiv 64 = ((i / 64 : Nat) : Int) := rfl
  have hr : (i : Int).tmod 64 = ((i % 64 : Nat) : Int) := rfl
  have hq2 : IntKind.i64.wrap ((i / 64 : Nat) : Int) = ((i / 64 : Nat) : Int) := IntWalk.i64_in _ ⟨by omega, by omega⟩
  have hr2 : IntKind.i64.wrap ((i % 64 : Nat) : Int) = ((i % 64 : Nat) : Int) := IntWalk.i64_in _ ⟨by omega, by omega⟩
  have hr3 : (0 : Int) ≤ ((i % 64 : Nat) : Int) := by omega
  have hk : i % 64 < 64 := Nat.mod_lt _ (by decide)
  generalize i / 64 = q at *
  generalize i % 64 = k at *
  go_enter Try.func33, Try.ntmps33
  go_wp2_with fail
  go_quiet (fail)
  go_wp2_with fail
  go_ret2
  have hw : IntKind.u64.wrap ((2 : Int) ^ k) = ((2 ^ k : Nat) : Int) := by
    have hlt : 2 ^ k < 2 ^ 64 := Nat.pow_lt_pow_right (by decide) hk
    simp only [Nat.reducePow] at hlt
    rw [show (2 : Int) ^ k = ((2 ^ k : Nat) : Int) by simp]
    generalize 2 ^ k = m at *
    exact IntWalk.u64_in _ ⟨by omega, by omega⟩
  exact ⟨by rw [← hw]; rfl, Upd.drewN _ _ _⟩

/-- An alloc's word: which of its pages are taken, by one number's bits. -/
def wordN (B j : Nat) : Nat := B / 2 ^ (64 * j) % 18446744073709551616
theorem wordN_lt (B j : Nat) : wordN B j < 18446744073709551616 := Nat.mod_lt _ (by decide)
theorem wordN_bit (B j k : Nat) (hk : k < 64) : (wordN B j).testBit k = B.testBit (64 * j + k) := by
  unfold wordN
  rw [show 18446744073709551616 = 2 ^ 64 from rfl, Nat.testBit_mod_two_pow, Nat.testBit_div_two_pow]
  simp [hk, Nat.add_comm]
theorem and_pow (x k : Nat) : (x &&& 2 ^ k ≠ 0) ↔ x.testBit k = true := by
  constructor
  · intro h
    cases hb : x.testBit k with
    | true => rfl
    | false =>
      refine absurd (Nat.eq_of_testBit_eq fun i => ?_) h
      rw [Nat.testBit_and, Nat.testBit_two_pow, Nat.zero_testBit]
      by_cases e : k = i
      · subst e; simp [hb]
      · simp [e]
  · intro h e
    have := congrArg (Nat.testBit · k) e
    simp [Nat.testBit_and, h] at this
theorem word_test (B i : Nat) : (wordN B (i / 64) &&& 2 ^ (i % 64) ≠ 0) ↔ B.testBit i = true := by
  rw [and_pow, wordN_bit _ _ _ (Nat.mod_lt _ (by decide)), Nat.div_add_mod]
/-- An alloc lies in a block, its words in another one. -/
structure AllocAt (w : World) (r g n B : Nat) : Prop where
  pos : 1 ≤ n
  most : n ≤ 16384
  bits : B < 2 ^ n
  apart : r ≠ g
  size : w.cell? ⟨r, 0, none⟩ = some (.int .i64 (n : Int))
  cap : ∃ c, (n + 63) / 64 ≤ c ∧ c ≤ maxLen ∧ w.cell? ⟨r, 1, none⟩ = some (.slice (some ⟨g, 0, none⟩) ((n + 63) / 64) c)
  word : ∀ j, j < (n + 63) / 64 → w.cell? ⟨g, j, none⟩ = some (.int .u64 (wordN B j : Int)) ∧ w.frozen? ⟨g, j, none⟩ = false
  live : r < w.heap.size ∧ g < w.heap.size
end Go.Proofs.Yteeppclnmjlcbaa
