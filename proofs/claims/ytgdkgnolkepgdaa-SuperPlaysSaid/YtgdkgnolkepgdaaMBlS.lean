/- Plain: behind a crash each sector has what was kept of it, or what one write wrote. -/
import Derived.Test.YtgdkgnolkepgdaaMBlR
namespace Go.Amb
open Go.RowKit
set_option linter.unusedVariables false
/-- Each sector has one of its texts, and so has each pending write. -/
structure WholeD (d : Dk) (M : Nat → List (List UInt8)) : Prop where
  k : ∀ i s, d.K[i]? = some s → s ∈ M i
  p : ∀ p ∈ d.P, p.1 ∈ M p.2
  dd : d.dd = false
  f : d.f = -1
  len : d.K.length = 8
theorem lastAt_some_of {P : List (List UInt8 × Nat)} {i : Nat} (s : List UInt8) : lastAt (P ++ [(s, i)]) i = some s := by
  unfold lastAt
  rw [List.reverse_append]
  simp
theorem WholeD.within {d : Dk} {M : Nat → List (List UInt8)} (h : WholeD d M) {i : Nat} (hi : i < 8) : d.within (i : Int) = 0 := by
  unfold Dk.within
  rw [if_neg (by simp [h.dd]), if_neg (by rw [h.len]; omega)]
theorem whole_init (d : Dk) (hK : d.K.length = 8) (M : Nat → List (List UInt8)) (hM : ∀ i, i < 8 → (d.crash []).reads (i : Int) ∈ M i) : WholeD (d.crash []) M := by
  have hl : (d.crash []).K.length = 8 := by rw [crash_K]; exact hK
  refine ⟨fun i s hs => ?_, fun p hp => (by cases hp), rfl, rfl, hl⟩
  have hi : i < 8 := by have := (List.getElem?_eq_some_iff.1 hs).1; omega
  have := hM i hi
  unfold Dk.reads at this
  rw [if_pos (crash_within d [] i (by omega)), Int.toNat_natCast] at this
  unfold Dk.has at this
  have hl2 : lastAt (d.crash []).P i = none := rfl
  rw [hl2, Option.getD_none, List.getD_eq_getElem?_getD, hs] at this
  exact this
theorem WholeD.mono {d : Dk} {M M' : Nat → List (List UInt8)} (h : WholeD d M) (hM : ∀ i s, s ∈ M i → s ∈ M' i) : WholeD d M' :=
  ⟨fun i s hs => hM _ _ (h.k i s hs), fun p hp => hM _ _ (h.p p hp), h.dd, h.f, h.len⟩
/-- A write goes well just where its text is not too long; then the sector reads as what was written. -/
theorem WholeD.write {d : Dk} {M : Nat → List (List UInt8)} (h : WholeD d M) {i : Nat} (hi : i < 8) (s : List UInt8) (hs : s.length ≤ 128) :
    (d.write i s).2 = 0 ∧ (d.write i s).1.reads (i : Int) = full s ∧ ∀ M', (∀ j t, t ∈ M j → t ∈ M' j) → full s ∈ M' i → WholeD (d.write i s).1 M' := by
  have hb : d.burn = (d, 0) := by unfold Dk.burn; rw [if_neg (by rw [h.f]; omega), if_neg (by rw [h.f]; omega)]
  have e : d.write i s = ({ d with P := d.P ++ [(full s, i)] }, 0) := by
    unfold Dk.write
    rw [if_neg (by simp [h.within hi]), if_neg (by omega), hb, if_neg (by simp)]
    simp
  rw [e]
  refine ⟨rfl, ?_, fun M' hM hm => ⟨fun j t ht => hM _ _ (h.k j t ht), fun p hp => ?_, h.dd, h.f, h.len⟩⟩
  · unfold Dk.reads
    have hw : ({ d with P := d.P ++ [(full s, i)] } : Dk).within (i : Int) = 0 := h.within hi
    rw [if_pos hw, Int.toNat_natCast]
    unfold Dk.has
    rw [show ({ d with P := d.P ++ [(full s, i)] } : Dk).P = d.P ++ [(full s, i)] from rfl, lastAt_some_of]; rfl
  · rcases List.mem_append.1 hp with hp | hp
    · exact hM _ _ (h.p p hp)
    · rw [List.mem_singleton] at hp; subst hp; exact hm
theorem WholeD.long {d : Dk} {M : Nat → List (List UInt8)} (h : WholeD d M) {i : Nat} (hi : i < 8) (s : List UInt8) (hs : 128 < s.length) : d.write i s = (d, 5) := by
  unfold Dk.write
  rw [if_neg (by simp [h.within hi]), if_pos hs]
theorem keepK_in {M : Nat → List (List UInt8)} {K : List (List UInt8)} {P : List (List UInt8 × Nat)} (f : Nat → Bool) (hK : ∀ i s, K[i]? = some s → s ∈ M i) (hP : ∀ p ∈ P, p.1 ∈ M p.2) : ∀ k i s, (keepK K P f k)[i]? = some s → s ∈ M i
  | 0, i, s, h => hK i s h
  | k + 1, i, s, h => by
    rw [keepK] at h
    split at h
    · rename_i p hp
      split at h
      · by_cases he : p.2 = i
        · subst he
          have hl := (List.getElem?_eq_some_iff.1 h).1
          rw [List.length_set] at hl
          rw [List.getElem?_set_self hl] at h
          injection h with h
          subst h
          exact hP p (List.mem_of_getElem? hp)
        · rw [List.getElem?_set_ne he] at h
          exact keepK_in f hK hP k i s h
      · exact keepK_in f hK hP k i s h
    · exact keepK_in f hK hP k i s h
theorem WholeD.reads {d : Dk} {M : Nat → List (List UInt8)} (h : WholeD d M) (l : List Int) {i : Nat} (hi : i < 8) : (d.crash l).reads (i : Int) ∈ M i ∧ (d.crash l).within (i : Int) = 0 := by
  have hw := crash_within d l i (by have := h.len; omega)
  have hl : (d.crash l).K.length = 8 := by rw [crash_K]; exact h.len
  refine ⟨?_, hw⟩
  unfold Dk.reads
  rw [if_pos hw, Int.toNat_natCast]
  unfold Dk.has
  have hl2 : lastAt (d.crash l).P i = none := rfl
  rw [hl2, Option.getD_none, List.getD_eq_getElem?_getD, List.getElem?_eq_getElem (by omega)]
  exact keepK_in _ h.k h.p _ i _ (List.getElem?_eq_getElem (l := (d.crash l).K) (by omega))
end Go.Amb
