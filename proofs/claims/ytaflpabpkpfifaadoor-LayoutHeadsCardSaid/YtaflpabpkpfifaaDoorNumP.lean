/- Plain laws: the number of a field's bytes, a number's field. -/
import Derived.Test.YtaflpabpkpfifaaDoorRefN
import Derived.Test.YtaflpabpkpfifaaDoorFPlain
namespace Go.Proofs.YtaflpabpkpfifaaDoor
set_option maxRecDepth 100000
open Go.RowKit Go.Amb
theorem foldl_numL (l : List UInt8) : ∀ z : Int, l.foldl (fun n b => n * 256 + (b.toNat : Int)) z = z * 256 ^ l.length + numL l := by
  unfold numL
  induction l with
  | nil => intro z; simp
  | cons b l ih =>
    intro z
    rw [List.foldl_cons, List.foldl_cons, ih (z * 256 + b.toNat), ih (0 * 256 + b.toNat), List.length_cons, Int.pow_succ]
    rw [Int.zero_mul, Int.zero_add, Int.add_mul, Int.mul_assoc, Int.mul_comm 256, Int.add_assoc]
theorem numL_cons (b : UInt8) (l : List UInt8) : numL (b :: l) = b.toNat * 256 ^ l.length + numL l := by
  have := foldl_numL l (b.toNat : Int)
  unfold numL at *
  rw [List.foldl_cons, Int.zero_mul, Int.zero_add]
  exact this
theorem numL_fld (n : Int) (m : Nat) : numL (fld n m) = n % 256 ^ m := by
  induction m with
  | zero => simp [fld, fldTo, numL, Int.emod_one]
  | succ m ih =>
    rw [fld_succ, numL_cons, fld_length, ih, byteAt_int, pow8]
    have hp : (0 : Int) < 256 ^ m := Int.pow_pos (by decide)
    have h1 := Int.emod_add_mul_ediv n (256 ^ m)
    have h2 := Int.emod_add_mul_ediv (n / 256 ^ m) 256
    have h3 := Int.emod_add_mul_ediv n (256 ^ (m + 1))
    have h4 : n / 256 ^ (m + 1) = n / 256 ^ m / 256 := by rw [Int.pow_succ, Int.ediv_ediv_of_nonneg (by omega)]
    rw [h4, Int.pow_succ, Int.mul_assoc] at h3
    rw [Int.pow_succ]
    generalize n / 256 ^ m / 256 = q at *
    generalize n / 256 ^ m % 256 = r at *
    generalize n / 256 ^ m = d at *
    rw [← h2, Int.mul_add] at h1
    have h5 : (256 : Int) ^ m * r = r * 256 ^ m := Int.mul_comm _ _
    omega

theorem fld_numL (l : List UInt8) : fld (numL l) l.length = l := by
  induction l with
  | nil => rfl
  | cons b l ih =>
    have h0 := numL_nonneg l
    have h1 := numL_lt l
    have hb := b.toNat_lt
    have hp : (0 : Int) < 256 ^ l.length := Int.pow_pos (by decide)
    rw [List.length_cons, fld_succ, numL_cons]
    congr 1
    · rw [← UInt8.toNat_inj]
      have := byteAt_int (b.toNat * 256 ^ l.length + numL l) l.length
      rw [pow8, Int.add_comm, Int.add_mul_ediv_right _ _ (by omega), Int.ediv_eq_zero_of_lt h0 h1] at this
      rw [Int.add_comm]
      omega
    · have e : fld (b.toNat * 256 ^ l.length + numL l) l.length = fld (numL l) l.length := by
        rw [← fld_mod _ l.length l.length (Nat.le_refl _), pow8, Int.add_comm, Int.add_mul_emod_self_right, ← pow8, fld_mod _ _ _ (Nat.le_refl _)]
      rw [e, ih]
theorem numL_ext {a b : List UInt8} (hl : a.length = b.length) (h : numL a = numL b) : a = b := by
  rw [← fld_numL a, ← fld_numL b, h, hl]
end Go.Proofs.YtaflpabpkpfifaaDoor
