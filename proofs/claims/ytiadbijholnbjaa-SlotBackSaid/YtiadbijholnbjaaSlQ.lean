/- Plain laws: a slot's bytes, and the slot that bytes tell. -/
import Derived.Test.YtiadbijholnbjaaSlM
import Derived.Test.YtiadbijholnbjaaNumP
namespace Go.Proofs.Ytiadbijholnbjaa
open Go.RowKit Go.Amb
set_option linter.unusedVariables false
/-- A piece of bytes; the number of a slot's data; the slot that 128 bytes tell. -/
def pf (b : List UInt8) (i m : Nat) : List UInt8 := (b.drop i).take m
def datN (b : List UInt8) : Nat := (numL (pf b 14 2)).toNat
def flgN (b : List UInt8) : Nat := (numL (pf b 1 1)).toNat
def slotOf (b : List UInt8) : S5 := ⟨wrap64 (numL (pf b 2 4)), wrap64 (numL (pf b 6 8)), decide (flgN b % 2 = 1), decide (flgN b / 2 % 2 = 1), pf b 16 (datN b)⟩
theorem pf_length {b : List UInt8} {i m : Nat} (h : i + m ≤ b.length) : (pf b i m).length = m := by
  unfold pf; rw [List.length_take, List.length_drop]; omega
theorem pf_join (b : List UInt8) (i m k : Nat) : pf b i m ++ pf b (i + m) k = pf b i (m + k) := by
  unfold pf
  rw [List.take_add, List.drop_drop]
theorem inj8 {a a' b b' m z z' s s' : List UInt8} (ha : a.length = a'.length) (hb : b.length = b'.length) (hz : z.length = z'.length) :
    (a ++ b ++ m ++ z ++ s = a' ++ b' ++ m ++ z' ++ s') ↔ a = a' ∧ b = b' ∧ z = z' ∧ s = s' := by
  constructor
  · intro h
    have h1 := List.append_inj h (by simp only [List.length_append, ha, hb, hz])
    have h2 := List.append_inj h1.1 (by simp only [List.length_append, ha, hb])
    have h3 := List.append_inj h2.1 (by simp only [List.length_append, ha, hb])
    have h4 := List.append_inj h3.1 ha
    exact ⟨h4.1, h4.2, h2.2, h1.2⟩
  · rintro ⟨rfl, rfl, rfl, rfl⟩; rfl
theorem numL_wrap {l : List UInt8} {m : Nat} (hl : l.length = m) (hm : m ≤ 7) : wrap64 (numL l) = numL l := by
  have h0 := numL_nonneg l
  have h1 := numL_lt_of (l := l) (m := 7) (by omega)
  exact IntWalk.wrap64_in _ ⟨by omega, by omega⟩
theorem datN_eq {b : List UInt8} (hb : b.length = 128) : ((datN b : Nat) : Int) = numL (pf b 14 2) := Int.toNat_of_nonneg (numL_nonneg _)
theorem flgN_lt {b : List UInt8} (hb : b.length = 128) : flgN b < 256 := by
  have h1 := numL_lt_of (l := pf b 1 1) (m := 1) (by rw [pf_length (by omega)]; omega)
  have h0 := numL_nonneg (pf b 1 1)
  unfold flgN; omega
theorem flag_of (n : Nat) (h : n ≤ 3) : flagS (decide (n % 2 = 1)) (decide (n / 2 % 2 = 1)) = n := by
  have : n = 0 ∨ n = 1 ∨ n = 2 ∨ n = 3 := by omega
  rcases this with rfl | rfl | rfl | rfl <;> rfl
/-- A right slot that bytes tell has those bytes just where they begin with S, have no flags but two, noughts behind the data, and the sum. -/
theorem slotB_iff {b : List UInt8} (hb : b.length = 128) (hn : datN b ≤ 108) (hR : rightS (slotOf b) = true) :
    slotB (slotOf b) = b ↔ pf b 0 1 = [83] ∧ flgN b ≤ 3 ∧ pf b (16 + datN b) (108 - datN b) = List.replicate (108 - datN b) 0 ∧ numL (pf b 124 4) = (sumC (b.take 124) : Nat) := by
  have hRR := of_decide_eq_true hR
  simp only [slotOf] at hRR
  have hd : (pf b 16 (datN b)).length = datN b := pf_length (by omega)
  have e4 : fld (wrap64 (numL (pf b 2 4))) 4 = pf b 2 4 := by
    have hl : (pf b 2 4).length = 4 := pf_length (by omega)
    rw [numL_wrap hl (by omega)]
    have := fld_numL (pf b 2 4)
    rwa [hl] at this
  have e8 : fld (wrap64 (numL (pf b 6 8))) 8 = pf b 6 8 := by
    have hl : (pf b 6 8).length = 8 := pf_length (by omega)
    have h0 := numL_nonneg (pf b 6 8)
    have h1 := numL_lt_of (l := pf b 6 8) (m := 8) (by omega)
    have hw : wrap64 (numL (pf b 6 8)) = numL (pf b 6 8) := by
      have h2 := hRR.2.1.1
      by_cases h : numL (pf b 6 8) < 9223372036854775808
      · exact IntWalk.wrap64_in _ ⟨by omega, by omega⟩
      · exfalso
        have h3 : wrap64 (numL (pf b 6 8)) = numL (pf b 6 8) - 18446744073709551616 := by unfold wrap64; omega
        omega
    rw [hw]
    have := fld_numL (pf b 6 8)
    rwa [hl] at this
  have e2 : fld ((datN b : Nat) : Int) 2 = pf b 14 2 := by
    have hl : (pf b 14 2).length = 2 := pf_length (by omega)
    rw [datN_eq hb]
    have := fld_numL (pf b 14 2)
    rwa [hl] at this
  have e1 : pf b 1 1 = fld ((flgN b : Nat) : Int) 1 := by
    have hl : (pf b 1 1).length = 1 := pf_length (by omega)
    have := fld_numL (pf b 1 1)
    rw [hl] at this
    rw [← this]
    congr 1
    exact (Int.toNat_of_nonneg (numL_nonneg _)).symm
  have hmid : pf b 0 1 ++ pf b 1 1 ++ (pf b 2 4 ++ pf b 6 8 ++ pf b 14 2 ++ pf b 16 (datN b)) ++ pf b (16 + datN b) (108 - datN b) = b.take 124 := by
    simp only [← List.append_assoc]
    rw [pf_join b 0 1 1, pf_join b 0 2 4, pf_join b 0 6 8, pf_join b 0 14 2, pf_join b 0 16 (datN b)]
    have hj := pf_join b 0 (16 + datN b) (108 - datN b)
    rw [Nat.zero_add] at hj
    rw [hj]
    unfold pf
    rw [List.drop_zero]
    congr 1
    omega
  have hall : b.take 124 ++ pf b 124 4 = b := by
    have h2 : (b.drop 124).take 4 = b.drop 124 := List.take_of_length_le (by rw [List.length_drop]; omega)
    unfold pf
    rw [h2, List.take_append_drop]
  have hbody : slotBody (slotOf b) = [83] ++ fld (flagS (slotOf b).f (slotOf b).l : Nat) 1 ++ (pf b 2 4 ++ pf b 6 8 ++ pf b 14 2 ++ pf b 16 (datN b)) ++ List.replicate (108 - datN b) 0 := by
    unfold slotBody
    simp only [slotOf, hd, e4, e8, e2, List.append_assoc]
  have hfl : flgN b ≤ 3 → flagS (slotOf b).f (slotOf b).l = flgN b := by
    intro h
    exact flag_of _ h
  have hf1 : fld (flagS (slotOf b).f (slotOf b).l : Nat) 1 = pf b 1 1 ↔ flgN b ≤ 3 := by
    rw [e1]
    constructor
    · intro h
      have h1 := congrArg numL h
      rw [numL_fld, numL_fld] at h1
      have h2 := flagS_le (slotOf b).f (slotOf b).l
      have h3 := flgN_lt hb
      omega
    · intro h; rw [hfl h]
  have hsum : fld (sumC (slotBody (slotOf b)) : Nat) 4 = pf b 124 4 ↔ numL (pf b 124 4) = (sumC (slotBody (slotOf b)) : Nat) := by
    have hl : (pf b 124 4).length = 4 := pf_length (by omega)
    have hs := sumC_lt (slotBody (slotOf b))
    constructor
    · intro h
      rw [← h, numL_fld]
      omega
    · intro h
      rw [← h]
      have := fld_numL (pf b 124 4)
      rwa [hl] at this
  have hz : (pf b (16 + datN b) (108 - datN b)).length = 108 - datN b := pf_length (by omega)
  have key := inj8 (a := [83]) (a' := pf b 0 1) (b := fld (flagS (slotOf b).f (slotOf b).l : Nat) 1) (b' := pf b 1 1) (m := pf b 2 4 ++ pf b 6 8 ++ pf b 14 2 ++ pf b 16 (datN b)) (z := List.replicate (108 - datN b) 0) (z' := pf b (16 + datN b) (108 - datN b))
    (s := fld (sumC (slotBody (slotOf b)) : Nat) 4) (s' := pf b 124 4) (by rw [pf_length (by omega)]; rfl) (by rw [fld_length, pf_length (by omega)]) (by rw [hz, List.length_replicate])
  rw [← hbody, hmid, hall] at key
  unfold slotB
  rw [key, hf1, hsum]
  constructor
  · rintro ⟨h1, h2, h3, h4⟩
    refine ⟨h1.symm, h2, h3.symm, ?_⟩
    rw [h4]
    have : slotBody (slotOf b) = b.take 124 := by rw [hbody, ← hmid, ← h1, hf1.2 h2, h3]
    rw [this]
  · rintro ⟨h1, h2, h3, h4⟩
    refine ⟨h1.symm, h2, h3.symm, ?_⟩
    have : slotBody (slotOf b) = b.take 124 := by rw [hbody, ← hmid, h1, hf1.2 h2, h3]
    rw [this, h4]
end Go.Proofs.Ytiadbijholnbjaa
