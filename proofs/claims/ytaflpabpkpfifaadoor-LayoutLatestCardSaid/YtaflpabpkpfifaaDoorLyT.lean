/- Keys in plain Lean: of two versions the one with the greater number stands ahead. -/
import Derived.Test.YtaflpabpkpfifaaDoorLyP
namespace Go.Proofs.YtaflpabpkpfifaaDoor
set_option maxRecDepth 100000
open Go.RowKit Go.Amb
set_option linter.unusedVariables false

theorem partsK_last (k : Int) (b o : Str) (i : List Int) (a : Int) : partsK ⟨k, b, o, i ++ [a]⟩ = partsK ⟨k, b, o, i⟩ ++ [numPt k a] := by
  unfold partsK
  simp
theorem encB_last (k : Int) (b o : Str) (i : List Int) (a : Int) : encB (partsK ⟨k, b, o, i ++ [a]⟩) = encB (partsK ⟨k, b, o, i⟩) ++ partB (numPt k a) := by rw [partsK_last, encB_snoc]
theorem numbersB_last (k : Int) (b o : Str) (i : List Int) (a c : Int) (ha : 0 ≤ a) (hc : 0 ≤ c) : numbersB ⟨k, b, o, i ++ [a]⟩ = numbersB ⟨k, b, o, i ++ [c]⟩ := by
  rw [Bool.eq_iff_iff, numbersB_iff, numbersB_iff]
  simp only [List.mem_append, List.mem_singleton, List.length_append, List.length_singleton]
  constructor
  · rintro ⟨h1, h2, h3⟩
    exact ⟨fun n hn => hn.elim (fun h => h1 n (.inl h)) (fun h => h ▸ hc), h2, h3⟩
  · rintro ⟨h1, h2, h3⟩
    exact ⟨fun n hn => hn.elim (fun h => h1 n (.inl h)) (fun h => h ▸ ha), h2, h3⟩
/-- Whether a key is right does not hang on what its last number is. -/
theorem keyR_last (k : Int) (b o : Str) (i : List Int) (a c : Int) (ha : 0 ≤ a) (hc : 0 ≤ c) : (keyR ⟨k, b, o, i ++ [a]⟩).2 = (keyR ⟨k, b, o, i ++ [c]⟩).2 := by
  unfold keyR
  rw [numbersB_last k b o i a c ha hc]
  simp only [List.length_append, List.length_singleton]
  by_cases h1 : numbersB ⟨k, b, o, i ++ [c]⟩ = true ∧ ((i.length + 1 : Nat) : Int) = numsK k
  · rw [if_pos h1, if_pos h1]
    by_cases h2 : KeyOk ⟨k, b, o, i ++ [a]⟩
    · rw [if_pos h2, if_pos (show KeyOk ⟨k, b, o, i ++ [c]⟩ from h2)]
    · rw [if_neg h2, if_neg (show ¬ KeyOk ⟨k, b, o, i ++ [c]⟩ from h2)]
  · rw [if_neg h1, if_neg h1]
theorem num_less (k a c : Int) (ha : i64Ok a) (hc : i64Ok c) : Op.bytesLess (partB (numPt k a)) (partB (numPt k c)) = if k = 2 then decide (c < a) else decide (a < c) := by
  have h := partB_less (numPt k a) (numPt k c) [] [] (right_num k a) (right_num k c) ha hc
  rw [List.append_nil, List.append_nil] at h
  rw [h]
  by_cases hk : k = 2
  · rw [if_pos hk]
    have hp : cmpP (numPt k a) (numPt k c) = sgn (decide (c < a)) (decide (a < c)) := by
      unfold cmpP numPt
      simp [hk]
    rw [hp]
    by_cases h1 : c < a
    · simp [sgn, h1]
    · by_cases h2 : a < c <;> simp [sgn, h1, h2, bl_nil]
  · rw [if_neg hk]
    have hp : cmpP (numPt k a) (numPt k c) = sgn (decide (a < c)) (decide (c < a)) := by
      unfold cmpP numPt
      simp [hk]
    rw [hp]
    by_cases h1 : a < c
    · simp [sgn, h1]
    · by_cases h2 : c < a <;> simp [sgn, h1, h2, bl_nil]
theorem latest_less {k : Int} {b o : Str} {i : List Int} {a c : Int} (ha : i64Ok a) (hc : i64Ok c) (hx : (keyR ⟨k, b, o, i ++ [a]⟩).2 = 0) (hy : (keyR ⟨k, b, o, i ++ [c]⟩).2 = 0) :
    Op.bytesLess (keyR ⟨k, b, o, i ++ [a]⟩).1 (keyR ⟨k, b, o, i ++ [c]⟩).1 = if k = 2 then decide (c < a) else decide (a < c) := by
  obtain ⟨_, _, _, _, ex⟩ := keyR_fine hx
  obtain ⟨_, _, _, _, ey⟩ := keyR_fine hy
  rw [ex, ey]
  show Op.bytesLess (encB (partsK ⟨k, b, o, i ++ [a]⟩)) (encB (partsK ⟨k, b, o, i ++ [c]⟩)) = _
  rw [encB_last, encB_last, bl_common, num_less k a c ha hc]
theorem latest_same {k : Int} {b o : Str} {i : List Int} {a c : Int} (ha : i64Ok a) (hc : i64Ok c) (hx : (keyR ⟨k, b, o, i ++ [a]⟩).2 = 0) (hy : (keyR ⟨k, b, o, i ++ [c]⟩).2 = 0) :
    ((keyR ⟨k, b, o, i ++ [a]⟩).1 == (keyR ⟨k, b, o, i ++ [c]⟩).1) = decide (a = c) := by
  obtain ⟨_, _, _, _, ex⟩ := keyR_fine hx
  obtain ⟨_, _, _, _, ey⟩ := keyR_fine hy
  rw [ex, ey]
  show (encB (partsK ⟨k, b, o, i ++ [a]⟩) == encB (partsK ⟨k, b, o, i ++ [c]⟩)) = _
  rw [encB_last, encB_last, Bool.eq_iff_iff, beq_iff_eq, decide_eq_true_eq]
  constructor
  · intro h
    have h := List.append_cancel_left h
    have h2 := partB_cancel (numPt k a) (numPt k c) [] [] ⟨right_num k a, ha⟩ ⟨right_num k c, hc⟩ (by rw [List.append_nil, List.append_nil]; exact h)
    have h3 := h2.1
    injection h3
  · rintro rfl; rfl
end Go.Proofs.YtaflpabpkpfifaaDoor
