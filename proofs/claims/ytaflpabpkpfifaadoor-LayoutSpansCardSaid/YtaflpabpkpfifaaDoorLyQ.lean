/- Keys in plain Lean: which keys stand within a span. -/
import Derived.Test.YtaflpabpkpfifaaDoorLyP
namespace Go.Proofs.YtaflpabpkpfifaaDoor
set_option maxRecDepth 100000
open Go.RowKit Go.Amb
set_option linter.unusedVariables false

/-- Does a key that is begun begin a key? -/
def BegK (a k : Ky) : Prop := a.k = k.k ∧ (a.b = [] ∨ a.b = k.b) ∧ (a.o = [] ∨ a.o = k.o) ∧ a.ns.length ≤ k.ns.length ∧ a.ns = k.ns.take a.ns.length
instance (a k : Ky) : Decidable (BegK a k) := by unfold BegK; infer_instance

theorem letter_inj {a b : Int} (ha : 1 ≤ a ∧ a ≤ 6) (hb : 1 ≤ b ∧ b ≤ 6) (h : letterK a = letterK b) : a = b := by
  obtain rfl | rfl | rfl | rfl | rfl | rfl : a = 1 ∨ a = 2 ∨ a = 3 ∨ a = 4 ∨ a = 5 ∨ a = 6 := by omega
  all_goals
    obtain rfl | rfl | rfl | rfl | rfl | rfl : b = 1 ∨ b = 2 ∨ b = 3 ∨ b = 4 ∨ b = 5 ∨ b = 6 := by omega
    all_goals first | rfl | (revert h; decide)
theorem txtP_inj {s t : Str} : txtP s = txtP t ↔ s = t := by
  constructor
  · intro h; injection h
  · rintro rfl; rfl
theorem numPt_inj {k a b : Int} : numPt k a = numPt k b ↔ a = b := by
  constructor
  · intro h; injection h
  · rintro rfl; rfl
theorem map_prefix (k : Int) : ∀ (a b : List Int), a.map (numPt k) <+: b.map (numPt k) ↔ a <+: b
  | [], b => by simp
  | x :: a, [] => by simp
  | x :: a, y :: b => by
    rw [List.map_cons, List.map_cons, List.cons_prefix_cons, List.cons_prefix_cons, numPt_inj, map_prefix k a b]
theorem take_prefix {α : Type} (a b : List α) : (a.length ≤ b.length ∧ a = b.take a.length) ↔ a <+: b := by
  rw [List.prefix_iff_eq_take]
  constructor
  · exact fun h => h.2
  · intro h
    refine ⟨?_, h⟩
    have := congrArg List.length h
    rw [List.length_take] at this
    omega
theorem optP_nil : optP [] = [] := rfl
theorem optP_some {s : Str} (h : s ≠ []) : optP s = [txtP s] := by unfold optP; rw [if_neg h]
theorem key_names {y : Ky} (h : (keyR y).2 = 0) : y.b ≠ [] ∧ (y.k = 1 → y.o = [] ∧ y.ns = []) ∧ (y.k ≠ 1 → y.o ≠ []) := by
  obtain ⟨h1, h2, h3, _⟩ := keyR_fine h
  refine ⟨fun e => by have := (bk_fine h3.1).1; rw [e] at this; simp at this, fun e => ⟨((numbersB_iff y).1 h1).2.2 e, ?_⟩, fun e f => ?_⟩
  · rw [e] at h2
    exact List.length_eq_zero_iff.1 (by have : numsK 1 = 0 := rfl; omega)
  · have := (ob_fine (h3.2.resolve_left e)).1
    rw [f] at this; simp at this
theorem span_prefix {x y : Ky} (hx : (spanR x).2 = 0) (hy : (keyR y).2 = 0) : partsK x <+: partsK y ↔ BegK x y := by
  obtain ⟨x1, x2, x3, _⟩ := spanR_fine hx
  obtain ⟨y1, _⟩ := keyR_fine hy
  obtain ⟨n1, n2, n3⟩ := key_names hy
  have kx := numbersB_kind x1
  have ky := numbersB_kind y1
  have xo := ((numbersB_iff x).1 x1).2.2
  unfold BegK
  rw [take_prefix]
  unfold partsK
  rw [List.cons_prefix_cons, txtP_inj]
  have hl : [letterK x.k] = [letterK y.k] ↔ x.k = y.k := by
    constructor
    · intro h; exact letter_inj ⟨kx.1, kx.2.1⟩ ⟨ky.1, ky.2.1⟩ (by injection h)
    · intro h; rw [h]
  rw [hl]
  by_cases hk : x.k = y.k
  · by_cases hb : x.b = []
    · have ho := x2 hb
      have hn := x3 ho
      simp [hk, hb, ho, hn, optP_nil]
    · rw [optP_some hb, optP_some n1, List.singleton_append, List.singleton_append, List.cons_prefix_cons, txtP_inj]
      by_cases hbb : x.b = y.b
      · by_cases ho : x.o = []
        · have hn := x3 ho
          simp [hk, hb, hbb, ho, hn, optP_nil]
        · have hk1 : x.k ≠ 1 := fun e => ho (xo e)
          have yo := n3 (by rw [← hk]; exact hk1)
          rw [optP_some ho, optP_some yo, List.singleton_append, List.singleton_append, List.cons_prefix_cons, txtP_inj, hk, map_prefix]
          simp [hb, hbb, ho]
      · simp [hb, hbb]
  · simp [hk]
/-- A key's bytes stand within the span of each that it begins with. -/
theorem span_within {x y : Ky} (hx : (spanR x).2 = 0) (hy : (keyR y).2 = 0) (nx : ∀ n ∈ x.ns, i64Ok n) (ny : ∀ n ∈ y.ns, i64Ok n) :
    (!Op.bytesLess (keyR y).1 (spanR x).1.1 && Op.bytesLess (keyR y).1 (spanR x).1.2) = decide (BegK x y) := by
  obtain ⟨_, _, _, _, ex⟩ := spanR_fine hx
  obtain ⟨_, _, _, _, ey⟩ := keyR_fine hy
  rw [ex, ey]
  have h := within_keys (partsK x) (partsK y) (fun p hp => ⟨right_partsK x p hp, ok_partsK x nx p hp⟩) (fun p hp => ⟨right_partsK y p hp, ok_partsK y ny p hp⟩)
  show (!Op.bytesLess (encB (partsK y)) (encB (partsK x)) && Op.bytesLess (encB (partsK y)) (encB (partsK x) ++ [255])) = _
  rw [h, Bool.eq_iff_iff, Bool.and_eq_true, decide_eq_true_eq, decide_eq_true_eq, decide_eq_true_eq, ← span_prefix hx hy, ← take_prefix]
  constructor
  · rintro ⟨h1, h2⟩; exact ⟨by omega, h2⟩
  · rintro ⟨h1, h2⟩; exact ⟨by omega, h2⟩
end Go.Proofs.YtaflpabpkpfifaaDoor
