/- Plain laws on fields: their bytes stand as the numbers do. -/
import Derived.Test.YtogekobpjjmnjaaGreatMLib
import Derived.Test.YtogekobpjjmnjaaGreatMRefA
namespace Go.Amb
open Go.RowKit

theorem fld_succ (n : Int) (m : Nat) : fld n (m + 1) = byteAt n m :: fld n m := by
  unfold fld fldTo
  rw [List.range_succ_eq_map, List.map_cons, List.map_map]
  congr 1
  refine List.map_congr_left fun t ht => ?_
  show byteAt n (m + 1 - 1 - (t + 1)) = _
  congr 1
  omega
theorem byteAt_lt (x y : Int) (i : Nat) : (byteAt x i < byteAt y i) ↔ x / 2 ^ (8 * i) % 256 < y / 2 ^ (8 * i) % 256 := by
  rw [← byteAt_int x i, ← byteAt_int y i, UInt8.lt_iff_toNat_lt]; omega
theorem byteAt_eq (x y : Int) (i : Nat) : (byteAt x i = byteAt y i) ↔ x / 2 ^ (8 * i) % 256 = y / 2 ^ (8 * i) % 256 := by
  rw [← byteAt_int x i, ← byteAt_int y i, ← UInt8.toNat_inj]; omega
theorem pow8 (m : Nat) : (2 : Int) ^ (8 * m) = 256 ^ m := by rw [Int.pow_mul]; rfl
theorem fld_less (m : Nat) : ∀ x y : Int, 0 ≤ x → x < 256 ^ m → 0 ≤ y → y < 256 ^ m → Op.bytesLess (fld x m) (fld y m) = decide (x < y) := by
  induction m with
  | zero =>
    intro x y h0 h1 h2 h3
    have : x = y := by simp at h1 h3; omega
    subst this
    simp [fld, fldTo, Op.bytesLess]
  | succ m ih =>
    intro x y h0 h1 h2 h3
    have hp : (0 : Int) < 256 ^ m := Int.pow_pos (by decide)
    have ex := Int.emod_add_mul_ediv x (256 ^ m)
    have ey := Int.emod_add_mul_ediv y (256 ^ m)
    have rx := Int.emod_nonneg x (show (256 : Int) ^ m ≠ 0 by omega)
    have ry := Int.emod_nonneg y (show (256 : Int) ^ m ≠ 0 by omega)
    have sx := Int.emod_lt_of_pos x hp
    have sy := Int.emod_lt_of_pos y hp
    have qx : 0 ≤ x / 256 ^ m := Int.ediv_nonneg h0 (by omega)
    have qy : 0 ≤ y / 256 ^ m := Int.ediv_nonneg h2 (by omega)
    have tx : x / 256 ^ m < 256 := Int.ediv_lt_of_lt_mul hp (by rw [Int.pow_succ] at h1; rw [Int.mul_comm]; exact h1)
    have ty : y / 256 ^ m < 256 := Int.ediv_lt_of_lt_mul hp (by rw [Int.pow_succ] at h3; rw [Int.mul_comm]; exact h3)
    have fx : fld x m = fld (x % 256 ^ m) m := by rw [← pow8]; exact (fld_mod x m m (Nat.le_refl _)).symm
    have fy : fld y m = fld (y % 256 ^ m) m := by rw [← pow8]; exact (fld_mod y m m (Nat.le_refl _)).symm
    rw [fld_succ, fld_succ, Op.bytesLess, fx, fy, ih _ _ rx sx ry sy]
    have hl : (byteAt x m < byteAt y m) ↔ x / 256 ^ m < y / 256 ^ m := by
      rw [byteAt_lt, pow8, Int.emod_eq_of_lt qx tx, Int.emod_eq_of_lt qy ty]
    have he : (byteAt x m = byteAt y m) ↔ x / 256 ^ m = y / 256 ^ m := by
      rw [byteAt_eq, pow8, Int.emod_eq_of_lt qx tx, Int.emod_eq_of_lt qy ty]
    generalize x / 256 ^ m = X at *
    generalize y / 256 ^ m = Y at *
    generalize x % 256 ^ m = u at *
    generalize y % 256 ^ m = v at *
    generalize (256 : Int) ^ m = B at *
    rw [Bool.eq_iff_iff]
    simp only [Bool.or_eq_true, Bool.and_eq_true, decide_eq_true_eq, beq_iff_eq, hl, he]
    rcases Int.lt_trichotomy X Y with h | h | h
    · have : B * X + B ≤ B * Y := by have h5 := Int.mul_le_mul_of_nonneg_left (show X + 1 ≤ Y by omega) (show 0 ≤ B by omega); rwa [Int.mul_add, Int.mul_one] at h5
      constructor
      · intro _; omega
      · intro _; exact .inl h
    · subst h
      constructor
      · rintro (h | ⟨_, h⟩) <;> omega
      · intro h'; exact .inr ⟨rfl, by omega⟩
    · have : B * Y + B ≤ B * X := by have h5 := Int.mul_le_mul_of_nonneg_left (show Y + 1 ≤ X by omega) (show 0 ≤ B by omega); rwa [Int.mul_add, Int.mul_one] at h5
      constructor
      · rintro (h' | ⟨h', _⟩) <;> omega
      · intro h'; omega
theorem bytesLess_irrefl (l : List UInt8) : Op.bytesLess l l = false := by
  induction l with
  | nil => rfl
  | cons b l ih => simp [Op.bytesLess, ih, UInt8.lt_irrefl]
theorem fld_inj (m : Nat) (x y : Int) (h0 : 0 ≤ x) (h1 : x < 256 ^ m) (h2 : 0 ≤ y) (h3 : y < 256 ^ m) : (fld x m == fld y m) = decide (x = y) := by
  rw [Bool.eq_iff_iff]
  simp only [beq_iff_eq, decide_eq_true_eq]
  constructor
  · intro h
    have a := fld_less m x y h0 h1 h2 h3
    have b := fld_less m y x h2 h3 h0 h1
    rw [h, bytesLess_irrefl] at a b
    simp at a b
    omega
  · rintro rfl; rfl
theorem and_mask (a : Int) (k : Nat) (hk : k ≤ 63) : bits .and .i64 a (2 ^ k - 1) = a % 2 ^ k := by
  have hp : (0 : Int) < 2 ^ k := Int.pow_pos (by decide)
  have hN : (2 : Nat) ^ k ≤ 2 ^ 63 := Nat.pow_le_pow_right (by decide) hk
  have e1 : (2 : Int) ^ k = ((2 ^ k : Nat) : Int) := by simp
  have e2 : (BitVec.ofInt 64 a).toNat = (a % 18446744073709551616).toNat := by simp [BitVec.toNat_ofInt]
  have e3 : (BitVec.ofInt 64 (2 ^ k - 1)).toNat = 2 ^ k - 1 := by
    have hN' : (2 : Nat) ^ 63 = 9223372036854775808 := by decide
    have hp1 : 1 ≤ (2 : Nat) ^ k := Nat.one_le_two_pow
    rw [BitVec.toNat_ofInt, e1]
    simp only [Nat.reducePow]
    omega
  show IntKind.i64.wrap ((BitVec.ofInt 64 a &&& BitVec.ofInt 64 (2 ^ k - 1)).toNat : Int) = _
  rw [BitVec.toNat_and, e2, e3, Nat.and_two_pow_sub_one_eq_mod]
  have hdvd : (2 : Int) ^ k ∣ 18446744073709551616 := ⟨2 ^ (64 - k), by rw [← Int.pow_add, show k + (64 - k) = 64 by omega]; rfl⟩
  have e4 : (((a % 18446744073709551616).toNat % 2 ^ k : Nat) : Int) = a % 2 ^ k := by
    rw [Int.natCast_emod, Int.toNat_of_nonneg (Int.emod_nonneg _ (by decide)), ← e1, Int.emod_emod_of_dvd _ hdvd]
  rw [e4]
  have h1 := Int.emod_nonneg a (show (2 : Int) ^ k ≠ 0 by omega)
  have h2 := Int.emod_lt_of_pos a hp
  have hN' : (2 : Nat) ^ 63 = 9223372036854775808 := by decide
  have hN2 : (2 : Int) ^ k ≤ 9223372036854775808 := by
    rw [e1]
    omega
  exact IntWalk.i64_in _ ⟨by omega, by omega⟩
end Go.Amb

namespace Go.Proofs.YtogekobpjjmnjaaGreat
set_option maxRecDepth 100000
open Go.RowKit Go.Amb
theorem foldl_numL (l : List UInt8) : ∀ z : Int, l.foldl (fun n b => n * 256 + (b.toNat : Int)) z = z * 256 ^ l.length + numL l := by
  unfold numL
  induction l with
  | nil => intro z; simp
  | cons b l ih =>
    intro z
    rw [List.foldl_cons, List.foldl_cons, ih (z * 256 + b.toNat), ih (0 * 256 + b.toNat), List.length_cons, Int.pow_succ]
    rw [Int.zero_mul, Int.zero_add, Int.add_mul, Int.mul_assoc, Int.mul_comm 256, Int.add_assoc]
theorem numL_cons (b : UInt8) (l : List UInt8) : numL (b :: l) = b.toNat * 256 ^ l.length + numL l := by
  have := foldl_numL l (b.toNat : Int)
  unfold numL at *
  rw [List.foldl_cons, Int.zero_mul, Int.zero_add]
  exact this
theorem numL_fld (n : Int) (m : Nat) : numL (fld n m) = n % 256 ^ m := by
  induction m with
  | zero => simp [fld, fldTo, numL, Int.emod_one]
  | succ m ih =>
    rw [fld_succ, numL_cons, fld_length, ih, byteAt_int, pow8]
    have hp : (0 : Int) < 256 ^ m := Int.pow_pos (by decide)
    have h1 := Int.emod_add_mul_ediv n (256 ^ m)
    have h2 := Int.emod_add_mul_ediv (n / 256 ^ m) 256
    have h3 := Int.emod_add_mul_ediv n (256 ^ (m + 1))
    have h4 : n / 256 ^ (m + 1) = n / 256 ^ m / 256 := by rw [Int.pow_succ, Int.ediv_ediv_of_nonneg (by omega)]
    rw [h4, Int.pow_succ, Int.mul_assoc] at h3
    rw [Int.pow_succ]
    generalize n / 256 ^ m / 256 = q at *
    generalize n / 256 ^ m % 256 = r at *
    generalize n / 256 ^ m = d at *
    rw [← h2, Int.mul_add] at h1
    have h5 : (256 : Int) ^ m * r = r * 256 ^ m := Int.mul_comm _ _
    omega

theorem fld_numL (l : List UInt8) : fld (numL l) l.length = l := by
  induction l with
  | nil => rfl
  | cons b l ih =>
    have h0 := numL_nonneg l
    have h1 := numL_lt l
    have hb := b.toNat_lt
    have hp : (0 : Int) < 256 ^ l.length := Int.pow_pos (by decide)
    rw [List.length_cons, fld_succ, numL_cons]
    congr 1
    · rw [← UInt8.toNat_inj]
      have := byteAt_int (b.toNat * 256 ^ l.length + numL l) l.length
      rw [pow8, Int.add_comm, Int.add_mul_ediv_right _ _ (by omega), Int.ediv_eq_zero_of_lt h0 h1] at this
      rw [Int.add_comm]
      omega
    · have e : fld (b.toNat * 256 ^ l.length + numL l) l.length = fld (numL l) l.length := by
        rw [← fld_mod _ l.length l.length (Nat.le_refl _), pow8, Int.add_comm, Int.add_mul_emod_self_right, ← pow8, fld_mod _ _ _ (Nat.le_refl _)]
      rw [e, ih]
theorem numL_ext {a b : List UInt8} (hl : a.length = b.length) (h : numL a = numL b) : a = b := by
  rw [← fld_numL a, ← fld_numL b, h, hl]
end Go.Proofs.YtogekobpjjmnjaaGreat
