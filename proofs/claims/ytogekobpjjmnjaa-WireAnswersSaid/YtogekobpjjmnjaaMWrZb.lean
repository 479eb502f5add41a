/- What was put is read so. Plain Lean. -/
import Derived.Test.YtogekobpjjmnjaaMWrT
import Derived.Test.YtogekobpjjmnjaaMRd
import Derived.Test.YtogekobpjjmnjaaMFPlain
import Derived.Test.YtogekobpjjmnjaaMWrJ
namespace Go.Proofs.Ytogekobpjjmnjaa
set_option maxRecDepth 100000
open Go.RowKit Go.Amb
set_option linter.unusedVariables false
theorem drop_mid (a b c : List UInt8) : ((a ++ (b ++ c)).drop a.length).take b.length = b := by simp
theorem num_back (a more : List UInt8) (n : Int) (m : Nat) (k : Nat) (hk : k = a.length) : rdNum (a ++ (fld n m ++ more)) k 0 m = (k + m, 0, wrap64 (n % 256 ^ m)) := by
  subst hk
  have h := drop_mid a (fld n m) more
  rw [fld_length] at h
  rw [rdNum_ok (by simp only [List.length_append, fld_length]; omega), h, numL_fld]
theorem num_small (a more : List UInt8) (n : Int) (m k : Nat) (hk : k = a.length) (hm : m ≤ 4) (h0 : 0 ≤ n) (h1 : n < 256 ^ m) : rdNum (a ++ (fld n m ++ more)) k 0 m = (k + m, 0, n) := by
  rw [num_back a more n m k hk, Int.emod_eq_of_lt h0 h1]
  have hp : (256 : Int) ^ m ≤ 4294967296 := by
    have : m = 0 ∨ m = 1 ∨ m = 2 ∨ m = 3 ∨ m = 4 := by omega
    rcases this with rfl | rfl | rfl | rfl | rfl <;> decide
  rw [IntWalk.wrap64_in _ ⟨by omega, by omega⟩]
theorem id_back {n : Int} (h : -9223372036854775808 ≤ n ∧ n ≤ 9223372036854775807) : wrap64 (n % 256 ^ 8) = n := by
  unfold wrap64
  have : (256 : Int) ^ 8 = 18446744073709551616 := by decide
  rw [this]
  omega
end Go.Proofs.Ytogekobpjjmnjaa

namespace Go.Proofs.Ytogekobpjjmnjaa
set_option maxRecDepth 100000
open Go.RowKit Go.Amb
set_option linter.unusedVariables false
theorem id0 : -9223372036854775808 ≤ (0 : Int) ∧ (0 : Int) ≤ 9223372036854775807 := by decide
end Go.Proofs.Ytogekobpjjmnjaa
