/- Pages that follow one another, in plain Lean. -/
import Derived.Test.YtphdclafeijpnaaLsS
import Derived.Test.YtphdclafeijpnaaLsJ
namespace Go.Proofs.Ytphdclafeijpnaa
open Go.RowKit Go.Amb Go.Shelf
set_option linter.unusedVariables false
theorem rising_asc {l : List Str} (h : Asc l) : rising l := fun i hi => List.pairwise_iff_getElem.1 h i (i + 1) (by omega) hi (by omega)
theorem namesOf_app (a b : List Ent) : namesOf (a ++ b) = namesOf a ++ namesOf b := by simp [namesOf]
theorem prefsOf_app (a b : List Ent) : prefsOf (a ++ b) = prefsOf a ++ prefsOf b := by simp [prefsOf]
theorem both_len : ∀ l : List Ent, (namesOf l).length + (prefsOf l).length = l.length
  | [] => rfl
  | x :: l => by
    have ih := both_len l
    have h1 := namesOf_app [x] l
    have h2 := prefsOf_app [x] l
    rw [List.singleton_append] at h1 h2
    rw [h1, h2, List.length_append, List.length_append, List.length_cons]
    cases hx : x.2 <;> simp [namesOf, prefsOf, hx] at ih ⊢ <;> omega
theorem ents_from_last {p d : Str} (hd : d.length ≤ 1) {l : List Str} (ha : Asc l) {E : List Ent} (hE : ents p d [] l = E) (k : Nat) (hk : k ≤ E.length) : ents p d (lastS E k) l = E.drop k := by
  unfold lastS
  by_cases h0 : k = 0
  · subst h0; rw [if_pos rfl, List.drop_zero]; exact hE
  · rw [if_neg h0, List.getD_eq_getElem?_getD, List.getElem?_eq_getElem (by omega)]
    show ents p d (E[k - 1]).1 l = _
    rw [ents_after hd ha, hE]
    have := filter_drop E (k - 1) (by omega) (hE ▸ ents_sorted hd ha)
    rw [this, show k - 1 + 1 = k by omega]
theorem ents_text_le {p d : Str} {l : List Str} {E : List Ent} (hE : ents p d [] l = E) (h32 : ∀ s ∈ l, s.length ≤ 32) : ∀ x ∈ E, x.1.length ≤ 32 := by
  intro x hx
  rw [← hE] at hx
  obtain ⟨s, hs, -, he, -⟩ := ents_iff.1 hx
  have h1 : (entOf s p d).1.length ≤ s.length := by
    unfold entOf
    cases d with
    | nil => exact Nat.le_refl _
    | cons c d =>
      simp only
      split
      · simp [List.length_take]; omega
      · exact Nat.le_refl _
  rw [he] at h1
  exact Nat.le_trans h1 (h32 s hs)
theorem lastS_le {E : List Ent} (h : ∀ x ∈ E, x.1.length ≤ 32) (k : Nat) (hk : k ≤ E.length) : (lastS E k).length ≤ 32 := by
  unfold lastS
  by_cases h0 : k = 0
  · rw [if_pos h0]; simp
  · rw [if_neg h0, List.getD_eq_getElem?_getD, List.getElem?_eq_getElem (by omega)]
    exact h _ (List.getElem_mem _)
theorem lastS_lt {p d : Str} (hd : d.length ≤ 1) {l : List Str} (ha : Asc l) {E : List Ent} (hE : ents p d [] l = E) (k M : Nat) (hM : 1 ≤ M) (hk : k + M ≤ E.length) : Op.bytesLess (lastS E k) (lastS E (k + M)) = true := by
  have hs : E.Pairwise (fun x y => Op.bytesLess x.1 y.1 = true) := hE ▸ ents_sorted hd ha
  have e2 : lastS E (k + M) = (E[k + M - 1]'(by omega)).1 := by unfold lastS; rw [if_neg (by omega), List.getD_eq_getElem?_getD, List.getElem?_eq_getElem (by omega)]; rfl
  by_cases h0 : k = 0
  · have e1 : lastS E k = [] := by unfold lastS; rw [if_pos h0]
    rw [e1, e2]
    have hm : E[k + M - 1]'(by omega) ∈ E := List.getElem_mem _
    have hm2 : E[k + M - 1]'(by omega) ∈ ents p d [] l := hE.symm ▸ hm
    obtain ⟨s, -, -, -, hne⟩ := ents_iff.1 hm2
    cases hb : Op.bytesLess [] (E[k + M - 1]'(by omega)).1 with
    | true => rfl
    | false => exact absurd ((bl_nil_iff _).1 hb) hne
  · have e1 : lastS E k = (E[k - 1]'(by omega)).1 := by unfold lastS; rw [if_neg h0, List.getD_eq_getElem?_getD, List.getElem?_eq_getElem (by omega)]; rfl
    rw [e1, e2]
    exact List.pairwise_iff_getElem.1 hs _ _ _ _ (by omega)
/-- A page from the k-th entry on. -/
theorem page_from {p d : Str} {l : List Str} (ha : Asc l) {E : List Ent} (hE : ents p d [] l = E) (h32 : ∀ s ∈ l, s.length ≤ 32) (hp : p.length ≤ 32) (hd : d.length ≤ 1) (M k : Nat) (hM : 1 ≤ M) (hM50 : M ≤ 50) (hk : k ≤ E.length) :
    pageE p d (lastS E k) (M : Int) l = 0 ∧ page p d (lastS E k) (M : Int) l = ⟨namesOf ((E.drop k).take M), prefsOf ((E.drop k).take M), if k + M < E.length then lastS E (k + M) else [], decide (k + M < E.length)⟩ := by
  have hc : ckOk p d (lastS E k) (M : Int) := ⟨hp, hd, lastS_le (ents_text_le hE h32) k hk, by omega, by omega⟩
  refine ⟨by unfold pageE; rw [if_pos hc, if_pos (rising_asc ha)], ?_⟩
  unfold page
  rw [if_pos ⟨hc, rising_asc ha⟩, ents_from_last hd ha hE k hk, Int.toNat_natCast]
  unfold pageOf
  by_cases h : k + M < E.length
  · have h' : M < (E.drop k).length := by rw [List.length_drop]; omega
    rw [if_pos h, if_pos h', decide_eq_true h, decide_eq_true h']
    unfold lastS
    rw [if_neg (by omega), List.getD_eq_getElem?_getD, List.getD_eq_getElem?_getD, List.getElem?_drop, show k + (M - 1) = k + M - 1 by omega]
  · have h' : ¬ M < (E.drop k).length := by rw [List.length_drop]; omega
    rw [if_neg h, if_neg h', decide_eq_false h, decide_eq_false h']
theorem take_from (E : List Ent) (k M : Nat) : E.take k ++ (E.drop k).take M = E.take (k + M) := by rw [List.take_add]
theorem page_whole {p d : Str} {l : List Str} (ha : Asc l) {E : List Ent} (hE : ents p d [] l = E) (hl : E.length ≤ 50) (hp : p.length ≤ 32) (hd : d.length ≤ 1) : pageE p d [] 50 l = 0 ∧ page p d [] 50 l = ⟨namesOf E, prefsOf E, [], false⟩ := by
  have hc : ckOk p d [] 50 := ⟨hp, hd, by simp, by omega, by omega⟩
  refine ⟨by unfold pageE; rw [if_pos hc, if_pos (rising_asc ha)], ?_⟩
  unfold page
  rw [if_pos ⟨hc, rising_asc ha⟩, hE]
  have := page_all (E := E) (M := 50) hl
  rw [List.take_length] at this
  exact this
end Go.Proofs.Ytphdclafeijpnaa
