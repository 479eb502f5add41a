/- Plain laws on fields: their bytes stand as the numbers do. -/
import Derived.Test.YtogekobpjjmnjaaMLib
import Derived.Test.YtogekobpjjmnjaaMRefA
namespace Go.Amb
open Go.RowKit

theorem fld_succ (n : Int) (m : Nat) : fld n (m + 1) = byteAt n m :: fld n m := by
  unfold fld fldTo
  rw [List.range_succ_eq_map, List.map_cons, List.map_map]
  congr 1
  refine List.map_congr_left fun t ht => ?_
  show byteAt n (m + 1 - 1 - (t + 1)) = _
  congr 1
  omega
theorem pow8 (m : Nat) : (2 : Int) ^ (8 * m) = 256 ^ m := by rw [Int.pow_mul]; rfl
end Go.Amb

namespace Go.Proofs.Ytogekobpjjmnjaa
set_option maxRecDepth 100000
open Go.RowKit Go.Amb
theorem foldl_numL (l : List UInt8) : ∀ z : Int, l.foldl (fun n b => n * 256 + (b.toNat : Int)) z = z * 256 ^ l.length + numL l := by
  unfold numL
  induction l with
  | nil => intro z; simp
  | cons b l ih =>
    intro z
    rw [List.foldl_cons, List.foldl_cons, ih (z * 256 + b.toNat), ih (0 * 256 + b.toNat), List.length_cons, Int.pow_succ]
    rw [Int.zero_mul, Int.zero_add, Int.add_mul, Int.mul_assoc, Int.mul_comm 256, Int.add_assoc]
theorem numL_cons (b : UInt8) (l : List UInt8) : numL (b :: l) = b.toNat * 256 ^ l.length + numL l := by
  have := foldl_numL l (b.toNat : Int)
  unfold numL at *
  rw [List.foldl_cons, Int.zero_mul, Int.zero_add]
  exact this
theorem numL_fld (n : Int) (m : Nat) : numL (fld n m) = n % 256 ^ m := by
  induction m with
  | zero => simp [fld, fldTo, numL, Int.emod_one]
  | succ m ih =>
    rw [fld_succ, numL_cons, fld_length, ih, byteAt_int, pow8]
    have hp : (0 : Int) < 256 ^ m := Int.pow_pos (by decide)
    have h1 := Int.emod_add_mul_ediv n (256 ^ m)
    have h2 := Int.emod_add_mul_ediv (n / 256 ^ m) 256
    have h3 := Int.emod_add_mul_ediv n (256 ^ (m + 1))
    have h4 : n / 256 ^ (m + 1) = n / 256 ^ m / 256 := by rw [Int.pow_succ, Int.ediv_ediv_of_nonneg (by omega)]
    rw [h4, Int.pow_succ, Int.mul_assoc] at h3
    rw [Int.pow_succ]
    generalize n / 256 ^ m / 256 = q at *
    generalize n / 256 ^ m % 256 = r at *
    generalize n / 256 ^ m = d at *
    rw [← h2, Int.mul_add] at h1
    have h5 : (256 : Int) ^ m * r = r * 256 ^ m := Int.mul_comm _ _
    omega

end Go.Proofs.Ytogekobpjjmnjaa
