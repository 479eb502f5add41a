/- Plain laws on keys: which bytes begin others; what stands within a range. -/
import Derived.Test.YtaflpabpkpfifaaDoorTPlain
namespace Go.Amb
open Go.RowKit

theorem partB_cancel (p q : Part) (x y : List UInt8) (hp : rightP p = true ∧ numOk p) (hq : rightP q = true ∧ numOk q) (h : partB p ++ x = partB q ++ y) : p = q ∧ x = y := by
  have h1 := partB_less p q x y hp.1 hq.1 hp.2 hq.2
  have h2 := partB_less q p y x hq.1 hp.1 hq.2 hp.2
  rw [h, bytesLess_irrefl] at h1 h2
  rw [cmpP_flip p q] at h2
  have h0 : cmpP p q = 0 := by
    by_cases h0 : cmpP p q = 0
    · exact h0
    · rw [if_neg h0] at h1
      rw [if_neg (by omega)] at h2
      have h1 := of_decide_eq_false h1.symm
      have h2 := of_decide_eq_false h2.symm
      omega
  have e := (cmpP_zero hp.1 hq.1).1 h0
  subst e
  exact ⟨rfl, List.append_cancel_left h⟩
theorem encB_prefix (a b : List Part) (r : List UInt8) (ha : ∀ p ∈ a, rightP p = true ∧ numOk p) (hb : ∀ p ∈ b, rightP p = true ∧ numOk p) (h : encB b = encB a ++ r) : ∃ c, b = a ++ c ∧ r = encB c := by
  induction a generalizing b with
  | nil => exact ⟨b, rfl, by simpa [encB_nil] using h.symm⟩
  | cons p a ih =>
    cases b with
    | nil =>
      rw [encB_nil, encB_cons] at h
      have := congrArg List.length h
      have hne := partB_ne p
      cases hp : partB p with
      | nil => exact absurd hp hne
      | cons u v => rw [hp] at this; simp at this
    | cons q b =>
      rw [encB_cons, encB_cons, List.append_assoc] at h
      obtain ⟨e1, e2⟩ := partB_cancel q p _ _ (hb q (List.mem_cons_self ..)) (ha p (List.mem_cons_self ..)) h
      subst e1
      obtain ⟨c, e3, e4⟩ := ih b (fun x hx => ha x (List.mem_cons_of_mem _ hx)) (fun x hx => hb x (List.mem_cons_of_mem _ hx)) e2
      exact ⟨c, by rw [e3]; rfl, e4⟩
theorem within_iff (s t : List UInt8) : (!Op.bytesLess t s && Op.bytesLess t (s ++ [255])) = true ↔ ∃ r, t = s ++ r ∧ (r = [] ∨ ∃ b r', r = b :: r' ∧ b < 255) := by
  induction s generalizing t with
  | nil =>
    rw [bl_nil]
    constructor
    · intro h
      refine ⟨t, rfl, ?_⟩
      cases t with
      | nil => exact .inl rfl
      | cons b t =>
        right
        refine ⟨b, t, rfl, ?_⟩
        simp [bl_cons, bl_nil] at h
        exact h
    · rintro ⟨r, rfl, rfl | ⟨b, r', rfl, hb⟩⟩
      · rfl
      · simp [bl_cons, hb]
  | cons c s ih =>
    cases t with
    | nil =>
      constructor
      · intro h; simp [bl_nil_cons] at h
      · rintro ⟨r, h, _⟩; cases h
    | cons d t =>
      by_cases hcd : d = c
      · subst hcd
        rw [List.cons_append, bl_same, bl_same, ih]
        constructor
        · rintro ⟨r, rfl, h⟩; exact ⟨r, rfl, h⟩
        · rintro ⟨r, h, h'⟩; injection h with _ h; exact ⟨r, h, h'⟩
      · rw [List.cons_append, bl_ne hcd, bl_ne hcd]
        constructor
        · intro h; cases hd : decide (d < c) <;> rw [hd] at h <;> simp at h
        · rintro ⟨r, h, _⟩; injection h with h _; exact absurd h hcd
theorem partB_head (p : Part) : ∃ b r, partB p = b :: r ∧ b < 255 := by
  unfold partB
  split
  · exact ⟨3, _, rfl, by decide⟩
  · split
    · exact ⟨4, _, rfl, by decide⟩
    · exact ⟨2, _, rfl, by decide⟩
theorem within_keys (a b : List Part) (ha : ∀ p ∈ a, rightP p = true ∧ numOk p) (hb : ∀ p ∈ b, rightP p = true ∧ numOk p) :
    (!Op.bytesLess (encB b) (encB a) && Op.bytesLess (encB b) (encB a ++ [255])) = (decide ((a.length : Int) ≤ b.length) && decide (a = b.take a.length)) := by
  rw [Bool.eq_iff_iff, within_iff]
  constructor
  · rintro ⟨r, h, _⟩
    obtain ⟨c, rfl, _⟩ := encB_prefix a b r ha hb h
    simp; omega
  · intro h
    simp only [Bool.and_eq_true, decide_eq_true_eq] at h
    have e : b = a ++ b.drop a.length := by
      conv => lhs; rw [← List.take_append_drop a.length b, ← h.2]
    refine ⟨encB (b.drop a.length), by conv => lhs; rw [e, encB_append], ?_⟩
    cases hd : b.drop a.length with
    | nil => exact .inl rfl
    | cons q c =>
      obtain ⟨u, r, hu, hlt⟩ := partB_head q
      exact .inr ⟨u, r ++ encB c, by rw [encB_cons, hu]; rfl, hlt⟩
end Go.Amb
