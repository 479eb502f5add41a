/- Plain laws: a slot's bytes, and the slot that bytes tell. -/
import Derived.Test.YtmnoldikimcafaaMSlM
import Derived.Test.YtmnoldikimcafaaMRefA
namespace Go.Proofs.Ytmnoldikimcafaa
set_option maxRecDepth 100000
open Go.RowKit Go.Amb
set_option linter.unusedVariables false
/-- A piece of bytes; the number of a slot's data; the slot that 128 bytes tell. -/
def pf (b : List UInt8) (i m : Nat) : List UInt8 := (b.drop i).take m
def datN (b : List UInt8) : Nat := (numL (pf b 14 2)).toNat
def flgN (b : List UInt8) : Nat := (numL (pf b 1 1)).toNat
def slotOf (b : List UInt8) : S5 := ⟨wrap64 (numL (pf b 2 4)), wrap64 (numL (pf b 6 8)), decide (flgN b % 2 = 1), decide (flgN b / 2 % 2 = 1), pf b 16 (datN b)⟩
theorem pf_length {b : List UInt8} {i m : Nat} (h : i + m ≤ b.length) : (pf b i m).length = m := by
  unfold pf; rw [List.length_take, List.length_drop]; omega
theorem pf_join (b : List UInt8) (i m k : Nat) : pf b i m ++ pf b (i + m) k = pf b i (m + k) := by
  unfold pf
  rw [List.take_add, List.drop_drop]
theorem inj8 {a a' b b' m z z' s s' : List UInt8} (ha : a.length = a'.length) (hb : b.length = b'.length) (hz : z.length = z'.length) :
    (a ++ b ++ m ++ z ++ s = a' ++ b' ++ m ++ z' ++ s') ↔ a = a' ∧ b = b' ∧ z = z' ∧ s = s' := by
  constructor
  · intro h
    have h1 := List.append_inj h (by simp only [List.length_append, ha, hb, hz])
    have h2 := List.append_inj h1.1 (by simp only [List.length_append, ha, hb])
    have h3 := List.append_inj h2.1 (by simp only [List.length_append, ha, hb])
    have h4 := List.append_inj h3.1 ha
    exact ⟨h4.1, h4.2, h2.2, h1.2⟩
  · rintro ⟨rfl, rfl, rfl, rfl⟩; rfl
theorem numL_wrap {l : List UInt8} {m : Nat} (hl : l.length = m) (hm : m ≤ 7) : wrap64 (numL l) = numL l := by
  have h0 := numL_nonneg l
  have h1 := numL_lt_of (l := l) (m := 7) (by omega)
  exact IntWalk.wrap64_in _ ⟨by omega, by omega⟩
theorem datN_eq {b : List UInt8} (hb : b.length = 128) : ((datN b : Nat) : Int) = numL (pf b 14 2) := Int.toNat_of_nonneg (numL_nonneg _)
theorem flgN_lt {b : List UInt8} (hb : b.length = 128) : flgN b < 256 := by
  have h1 := numL_lt_of (l := pf b 1 1) (m := 1) (by rw [pf_length (by omega)]; omega)
  have h0 := numL_nonneg (pf b 1 1)
  unfold flgN; omega
theorem flag_of (n : Nat) (h : n ≤ 3) : flagS (decide (n % 2 = 1)) (decide (n / 2 % 2 = 1)) = n := by
  have : n = 0 ∨ n = 1 ∨ n = 2 ∨ n = 3 := by omega
  rcases this with rfl | rfl | rfl | rfl <;> rfl
/-- A right slot that bytes tell has those bytes just where they begin with S, have no flags but two, noughts behind the data, and the sum. -/
theorem slotB_iff {b : List UInt8} (hb : b.length = 128) (hn : datN b ≤ 108) (hR : rightS (slotOf b) = true) :
    slotB (slotOf b) = b ↔ pf b 0 1 = [83] ∧ flgN b ≤ 3 ∧ pf b (16 + datN b) (108 - datN b) = List.replicate (108 - datN b) 0 ∧ numL (pf b 124 4) = (sumC (b.take 124) : Nat) := by
  have hRR := of_decide_eq_true hR
  simp only [slotOf] at hRR
  have hd : (pf b 16 (datN b)).length = datN b := pf_length (by omega)
  have e4 : fld (wrap64 (numL (pf b 2 4))) 4 = pf b 2 4 := by
    have hl : (pf b 2 4).length = 4 := pf_length (by omega)
    rw [numL_wrap hl (by omega)]
    have := fld_numL (pf b 2 4)
    rwa [hl] at this
  have e8 : fld (wrap64 (numL (pf b 6 8))) 8 = pf b 6 8 := by
    have hl : (pf b 6 8).length = 8 := pf_length (by omega)
    have h0 := numL_nonneg (pf b 6 8)
    have h1 := numL_lt_of (l := pf b 6 8) (m := 8) (by omega)
    have hw : wrap64 (numL (pf b 6 8)) = numL (pf b 6 8) := by
      have h2 := hRR.2.1.1
      by_cases h : numL (pf b 6 8) < 9223372036854775808
      · exact IntWalk.wrap64_in _ ⟨by omega, by omega⟩
      · exfalso
        have h3 : wrap64 (numL (pf b 6 8)) = numL (pf b 6 8) - 18446744073709551616 := by unfold wrap64; omega
        omega
    rw [hw]
    have := fld_numL (pf b 6 8)
    rwa [hl] at this
  have e2 : fld ((datN b : Nat) : Int) 2 = pf b 14 2 := by
    have hl : (pf b 14 2).length = 2 := pf_length (by omega)
    rw [datN_eq hb]
    have := fld_numL (pf b 14 2)
    rwa [hl] at this
  have e1 : pf b 1 1 = fld ((flgN b : Nat) : Int) 1 := by
    have hl : (pf b 1 1).length = 1 := pf_length (by omega)
    have := fld_numL (pf b 1 1)
    rw [hl] at this
    rw [← this]
    congr 1
    exact (Int.toNat_of_nonneg (numL_nonneg _)).symm
  have hmid : pf b 0 1 ++ pf b 1 1 ++ (pf b 2 4 ++ pf b 6 8 ++ pf b 14 2 ++ pf b 16 (datN b)) ++ pf b (16 + datN b) (108 - datN b) = b.take 124 := by
    simp only [← List.append_assoc]
    rw [pf_join b 0 1 1, pf_join b 0 2 4, pf_join b 0 6 8, pf_join b 0 14 2, pf_join b 0 16 (datN b)]
    have hj := pf_join b 0 (16 + datN b) (108 - datN b)
    rw [Nat.zero_add] at hj
    rw [hj]
    unfold pf
    rw [List.drop_zero]
    congr 1
    omega
  have hall : b.take 124 ++ pf b 124 4 = b := by
    have h2 : (b.drop 124).take 4 = b.drop 124 := List.take_of_length_le (by rw [List.length_drop]; omega)
    unfold pf
    rw [h2, List.take_append_drop]
  have hbody : slotBody (slotOf b) = [83] ++ fld (flagS (slotOf b).f (slotOf b).l : Nat) 1 ++ (pf b 2 4 ++ pf b 6 8 ++ pf b 14 2 ++ pf b 16 (datN b)) ++ List.replicate (108 - datN b) 0 := by
    unfold slotBody
    simp only [slotOf, hd, e4, e8, e2, List.append_assoc]
  have hfl : flgN b ≤ 3 → flagS (slotOf b).f (slotOf b).l = flgN b := by
    intro h
    exact flag_of _ h
  have hf1 : fld (flagS (slotOf b).f (slotOf b).l : Nat) 1 = pf b 1 1 ↔ flgN b ≤ 3 := by
    rw [e1]
    constructor
    · intro h
      have h1 := congrArg numL h
      rw [numL_fld, numL_fld] at h1
      have h2 := flagS_le (slotOf b).f (slotOf b).l
      have h3 := flgN_lt hb
      omega
    · intro h; rw [hfl h]
  have hsum : fld (sumC (slotBody (slotOf b)) : Nat) 4 = pf b 124 4 ↔ numL (pf b 124 4) = (sumC (slotBody (slotOf b)) : Nat) := by
    have hl : (pf b 124 4).length = 4 := pf_length (by omega)
    have hs := sumC_lt (slotBody (slotOf b))
    constructor
    · intro h
      rw [← h, numL_fld]
      omega
    · intro h
      rw [← h]
      have := fld_numL (pf b 124 4)
      rwa [hl] at this
  have hz : (pf b (16 + datN b) (108 - datN b)).length = 108 - datN b := pf_length (by omega)
  have key := inj8 (a := [83]) (a' := pf b 0 1) (b := fld (flagS (slotOf b).f (slotOf b).l : Nat) 1) (b' := pf b 1 1) (m := pf b 2 4 ++ pf b 6 8 ++ pf b 14 2 ++ pf b 16 (datN b)) (z := List.replicate (108 - datN b) 0) (z' := pf b (16 + datN b) (108 - datN b))
    (s := fld (sumC (slotBody (slotOf b)) : Nat) 4) (s' := pf b 124 4) (by rw [pf_length (by omega)]; rfl) (by rw [fld_length, pf_length (by omega)]) (by rw [hz, List.length_replicate])
  rw [← hbody, hmid, hall] at key
  unfold slotB
  rw [key, hf1, hsum]
  constructor
  · rintro ⟨h1, h2, h3, h4⟩
    refine ⟨h1.symm, h2, h3.symm, ?_⟩
    rw [h4]
    have : slotBody (slotOf b) = b.take 124 := by rw [hbody, ← hmid, ← h1, hf1.2 h2, h3]
    rw [this]
  · rintro ⟨h1, h2, h3, h4⟩
    refine ⟨h1.symm, h2, h3.symm, ?_⟩
    have : slotBody (slotOf b) = b.take 124 := by rw [hbody, ← hmid, h1, hf1.2 h2, h3]
    rw [this, h4]
end Go.Proofs.Ytmnoldikimcafaa

namespace Go.Proofs.Ytmnoldikimcafaa
open Go.RowKit Go.Amb Go.Shelf
set_option linter.unusedVariables false
set_option linter.unusedSimpArgs false
def slot0 : S5 := ⟨0, 0, false, false, []⟩
/-- What bytes are read as. -/
def readS (b : List UInt8) : S5 × Int := if b.length = 128 ∧ datN b ≤ 108 ∧ rightS (slotOf b) = true ∧ slotB (slotOf b) = b then (slotOf b, 0) else (slot0, 4)
theorem set5 {w w0 : World} {M : Nat} {c0 c1 c2 c3 c4 : Value} {t : TypeId} (h : w.heap[M]? = some (.cells #[c0, c1, c2, c3, c4] t (0, 0))) (hu : Upd Non w0 w) (hM : w0.heap.size ≤ M) (a b c d e : Value) :
    (∀ j, (((((w.setCell ⟨M, 0, none⟩ a).setCell ⟨M, 1, none⟩ b).setCell ⟨M, 2, none⟩ c).setCell ⟨M, 3, none⟩ d).setCell ⟨M, 4, none⟩ e).cell? ⟨M, j, none⟩ = #[a, b, c, d, e][j]?) ∧
    Upd Non w0 (((((w.setCell ⟨M, 0, none⟩ a).setCell ⟨M, 1, none⟩ b).setCell ⟨M, 2, none⟩ c).setCell ⟨M, 3, none⟩ d).setCell ⟨M, 4, none⟩ e) := by
  refine ⟨(cells_of (e := t) ?_).1, ?_⟩
  · rw [heap_setCell_same _ M 4 _ _ _ (heap_setCell_same _ M 3 _ _ _ (heap_setCell_same _ M 2 _ _ _ (heap_setCell_same _ M 1 _ _ _ (heap_setCell_same _ M 0 _ _ _ h))))]
    rfl
  · have hn : M < w0.heap.size → Non M := fun h => absurd h (by omega)
    exact Upd.then_setCell (p := ⟨M, 4, none⟩) (Upd.then_setCell (p := ⟨M, 3, none⟩) (Upd.then_setCell (p := ⟨M, 2, none⟩) (Upd.then_setCell (p := ⟨M, 1, none⟩) (Upd.then_setCell (p := ⟨M, 0, none⟩) hu hn a) hn b) hn c) hn d) hn e
theorem flgN_is {b : List UInt8} (h : 1 < b.length) (hz : 1 < ByteArray.size ⟨b.toArray⟩) : (((⟨b.toArray⟩ : ByteArray)[1]'hz).toNat) = flgN b := by
  have hp : pf b 1 1 = [b[1]] := by
    unfold pf
    rw [List.drop_eq_getElem_cons h]; rfl
  unfold flgN
  rw [hp]
  show b[1].toNat = _
  simp [numL]
theorem flg_f (n : Nat) : ((n : Int).tmod 2 == 1) = decide (n % 2 = 1) := by
  rw [Bool.eq_iff_iff]
  have : (n : Int).tmod 2 = ((n % 2 : Nat) : Int) := by rw [Int.tmod_eq_emod_of_nonneg (by omega)]; omega
  rw [this]; simp; omega
theorem flg_l (n : Nat) (h : n < 256) : ((IntKind.u8.wrap ((n : Int) / 2)).tmod 2 == 1) = decide (n / 2 % 2 = 1) := by
  rw [IntWalk.u8_in _ ⟨by omega, by omega⟩, show (n : Int) / 2 = ((n / 2 : Nat) : Int) by omega]
  exact flg_f (n / 2)
end Go.Proofs.Ytmnoldikimcafaa

namespace Go.Proofs.Ytmnoldikimcafaa
set_option maxRecDepth 100000
open Go.RowKit Go.Amb Go.Shelf
set_option linter.unusedVariables false
set_option linter.unusedSimpArgs false
theorem pf_at (a m r : List UInt8) (i k : Nat) (hi : a.length = i) (hk : m.length = k) : pf (a ++ m ++ r) i k = m := by
  subst hi; subst hk; unfold pf; simp
theorem readS_slotB (x : S5) (hR : rightS x = true) : readS (slotB x) = (x, 0) ∧ (slotB x).length = 128 := by
  obtain ⟨e, q, f, l, d⟩ := x
  have hh := of_decide_eq_true hR
  simp only at hh
  obtain ⟨⟨he0, he1⟩, ⟨hq0, hq1⟩, hd⟩ := hh
  have hlen : (slotB ⟨e, q, f, l, d⟩).length = 128 := by
    simp only [slotB, slotBody, List.length_append, fld_length, List.length_replicate, List.length_cons, List.length_nil]
    omega
  have h1 : pf (slotB ⟨e, q, f, l, d⟩) 1 1 = fld (flagS f l : Nat) 1 := by
    have := pf_at [83] (fld (flagS f l : Nat) 1) (fld e 4 ++ fld q 8 ++ fld d.length 2 ++ d ++ List.replicate (108 - d.length) 0 ++ fld (sumC (slotBody ⟨e, q, f, l, d⟩) : Nat) 4) 1 1 rfl (fld_length _ _)
    simpa only [slotB, slotBody, List.append_assoc] using this
  have h2 : pf (slotB ⟨e, q, f, l, d⟩) 2 4 = fld e 4 := by
    have := pf_at ([83] ++ fld (flagS f l : Nat) 1) (fld e 4) (fld q 8 ++ fld d.length 2 ++ d ++ List.replicate (108 - d.length) 0 ++ fld (sumC (slotBody ⟨e, q, f, l, d⟩) : Nat) 4) 2 4 (by simp [fld_length]) (fld_length _ _)
    simpa only [slotB, slotBody, List.append_assoc] using this
  have h3 : pf (slotB ⟨e, q, f, l, d⟩) 6 8 = fld q 8 := by
    have := pf_at ([83] ++ fld (flagS f l : Nat) 1 ++ fld e 4) (fld q 8) (fld d.length 2 ++ d ++ List.replicate (108 - d.length) 0 ++ fld (sumC (slotBody ⟨e, q, f, l, d⟩) : Nat) 4) 6 8 (by simp [fld_length]) (fld_length _ _)
    simpa only [slotB, slotBody, List.append_assoc] using this
  have h4 : pf (slotB ⟨e, q, f, l, d⟩) 14 2 = fld d.length 2 := by
    have := pf_at ([83] ++ fld (flagS f l : Nat) 1 ++ fld e 4 ++ fld q 8) (fld d.length 2) (d ++ List.replicate (108 - d.length) 0 ++ fld (sumC (slotBody ⟨e, q, f, l, d⟩) : Nat) 4) 14 2 (by simp [fld_length]) (fld_length _ _)
    simpa only [slotB, slotBody, List.append_assoc] using this
  have h5 : pf (slotB ⟨e, q, f, l, d⟩) 16 d.length = d := by
    have := pf_at ([83] ++ fld (flagS f l : Nat) 1 ++ fld e 4 ++ fld q 8 ++ fld d.length 2) d (List.replicate (108 - d.length) 0 ++ fld (sumC (slotBody ⟨e, q, f, l, d⟩) : Nat) 4) 16 d.length (by simp [fld_length]) rfl
    simpa only [slotB, slotBody, List.append_assoc] using this
  have hdn : datN (slotB ⟨e, q, f, l, d⟩) = d.length := by
    unfold datN; rw [h4, numL_fld]; omega
  have hfn : flgN (slotB ⟨e, q, f, l, d⟩) = flagS f l := by
    have := flagS_le f l
    unfold flgN; rw [h1, numL_fld]; omega
  have hw1 : wrap64 (e % 256 ^ 4) = e := by rw [show e % 256 ^ 4 = e by omega]; exact IntWalk.wrap64_in _ ⟨by omega, by omega⟩
  have hw2 : wrap64 (q % 256 ^ 8) = q := by rw [show q % 256 ^ 8 = q by omega]; exact IntWalk.wrap64_in _ ⟨by omega, by omega⟩
  have hS : slotOf (slotB ⟨e, q, f, l, d⟩) = ⟨e, q, f, l, d⟩ := by
    unfold slotOf
    rw [hdn, hfn, h2, h3, h5, numL_fld, numL_fld, hw1, hw2]
    congr 1
    · cases f <;> cases l <;> decide
    · cases f <;> cases l <;> decide
  refine ⟨?_, hlen⟩
  unfold readS
  rw [hS, if_pos ⟨hlen, by rw [hdn]; exact hd, hR, rfl⟩]
/-- What is read is right, and has the bytes; or nothing is read. -/
theorem readS_cases (b : List UInt8) : (∃ t, readS b = (t, 0) ∧ rightS t = true ∧ slotB t = b) ∨ readS b = (slot0, 4) := by
  unfold readS
  by_cases h : b.length = 128 ∧ datN b ≤ 108 ∧ rightS (slotOf b) = true ∧ slotB (slotOf b) = b
  · rw [if_pos h]; exact .inl ⟨_, rfl, h.2.2.1, h.2.2.2⟩
  · rw [if_neg h]; exact .inr rfl
end Go.Proofs.Ytmnoldikimcafaa
