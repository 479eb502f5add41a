/- Plain: a right slot's bytes tell it. -/
import Derived.Test.YtiadbijholnbjaaSlS
namespace Go.Proofs.Ytiadbijholnbjaa
open Go.RowKit Go.Amb Go.Shelf
set_option linter.unusedVariables false
set_option linter.unusedSimpArgs false
theorem pf_at (a m r : List UInt8) (i k : Nat) (hi : a.length = i) (hk : m.length = k) : pf (a ++ m ++ r) i k = m := by
  subst hi; subst hk; unfold pf; simp
theorem readS_slotB (x : S5) (hR : rightS x = true) : readS (slotB x) = (x, 0) ∧ (slotB x).length = 128 := by
  obtain ⟨e, q, f, l, d⟩ := x
  have hh := of_decide_eq_true hR
  simp only at hh
  obtain ⟨⟨he0, he1⟩, ⟨hq0, hq1⟩, hd⟩ := hh
  have hlen : (slotB ⟨e, q, f, l, d⟩).length = 128 := by
    simp only [slotB, slotBody, List.length_append, fld_length, List.length_replicate, List.length_cons, List.length_nil]
    omega
  have h1 : pf (slotB ⟨e, q, f, l, d⟩) 1 1 = fld (flagS f l : Nat) 1 := by
    have := pf_at [83] (fld (flagS f l : Nat) 1) (fld e 4 ++ fld q 8 ++ fld d.length 2 ++ d ++ List.replicate (108 - d.length) 0 ++ fld (sumC (slotBody ⟨e, q, f, l, d⟩) : Nat) 4) 1 1 rfl (fld_length _ _)
    simpa only [slotB, slotBody, List.append_assoc] using this
  have h2 : pf (slotB ⟨e, q, f, l, d⟩) 2 4 = fld e 4 := by
    have := pf_at ([83] ++ fld (flagS f l : Nat) 1) (fld e 4) (fld q 8 ++ fld d.length 2 ++ d ++ List.replicate (108 - d.length) 0 ++ fld (sumC (slotBody ⟨e, q, f, l, d⟩) : Nat) 4) 2 4 (by simp [fld_length]) (fld_length _ _)
    simpa only [slotB, slotBody, List.append_assoc] using this
  have h3 : pf (slotB ⟨e, q, f, l, d⟩) 6 8 = fld q 8 := by
    have := pf_at ([83] ++ fld (flagS f l : Nat) 1 ++ fld e 4) (fld q 8) (fld d.length 2 ++ d ++ List.replicate (108 - d.length) 0 ++ fld (sumC (slotBody ⟨e, q, f, l, d⟩) : Nat) 4) 6 8 (by simp [fld_length]) (fld_length _ _)
    simpa only [slotB, slotBody, List.append_assoc] using this
  have h4 : pf (slotB ⟨e, q, f, l, d⟩) 14 2 = fld d.length 2 := by
    have := pf_at ([83] ++ fld (flagS f l : Nat) 1 ++ fld e 4 ++ fld q 8) (fld d.length 2) (d ++ List.replicate (108 - d.length) 0 ++ fld (sumC (slotBody ⟨e, q, f, l, d⟩) : Nat) 4) 14 2 (by simp [fld_length]) (fld_length _ _)
    simpa only [slotB, slotBody, List.append_assoc] using this
  have h5 : pf (slotB ⟨e, q, f, l, d⟩) 16 d.length = d := by
    have := pf_at ([83] ++ fld (flagS f l : Nat) 1 ++ fld e 4 ++ fld q 8 ++ fld d.length 2) d (List.replicate (108 - d.length) 0 ++ fld (sumC (slotBody ⟨e, q, f, l, d⟩) : Nat) 4) 16 d.length (by simp [fld_length]) rfl
    simpa only [slotB, slotBody, List.append_assoc] using this
  have hdn : datN (slotB ⟨e, q, f, l, d⟩) = d.length := by
    unfold datN; rw [h4, numL_fld]; omega
  have hfn : flgN (slotB ⟨e, q, f, l, d⟩) = flagS f l := by
    have := flagS_le f l
    unfold flgN; rw [h1, numL_fld]; omega
  have hw1 : wrap64 (e % 256 ^ 4) = e := by rw [show e % 256 ^ 4 = e by omega]; exact IntWalk.wrap64_in _ ⟨by omega, by omega⟩
  have hw2 : wrap64 (q % 256 ^ 8) = q := by rw [show q % 256 ^ 8 = q by omega]; exact IntWalk.wrap64_in _ ⟨by omega, by omega⟩
  have hS : slotOf (slotB ⟨e, q, f, l, d⟩) = ⟨e, q, f, l, d⟩ := by
    unfold slotOf
    rw [hdn, hfn, h2, h3, h5, numL_fld, numL_fld, hw1, hw2]
    congr 1
    · cases f <;> cases l <;> decide
    · cases f <;> cases l <;> decide
  refine ⟨?_, hlen⟩
  unfold readS
  rw [hS, if_pos ⟨hlen, by rw [hdn]; exact hd, hR, rfl⟩]
/-- What is read is right, and has the bytes; or nothing is read. -/
theorem readS_cases (b : List UInt8) : (∃ t, readS b = (t, 0) ∧ rightS t = true ∧ slotB t = b) ∨ readS b = (slot0, 4) := by
  unfold readS
  by_cases h : b.length = 128 ∧ datN b ≤ 108 ∧ rightS (slotOf b) = true ∧ slotB (slotOf b) = b
  · rw [if_pos h]; exact .inl ⟨_, rfl, h.2.2.1, h.2.2.2⟩
  · rw [if_neg h]; exact .inr rfl
end Go.Proofs.Ytiadbijholnbjaa
