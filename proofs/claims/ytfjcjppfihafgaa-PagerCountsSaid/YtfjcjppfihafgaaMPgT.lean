/- Plain: the pages that are something, in order; the first that is free. -/
import Derived.Test.YtfjcjppfihafgaaMPgO
namespace Go.Proofs.Ytfjcjppfihafgaa
set_option maxRecDepth 100000
open Go.RowKit Go.Amb
set_option linter.unusedVariables false
set_option linter.unusedSimpArgs false
theorem those_mem (s : Nat) : ∀ (l : List Nat) (k x : Nat), x ∈ those s k l ↔ k ≤ x ∧ x < k + l.length ∧ l.getD (x - k) 0 = s
  | [], k, x => by simp [those]; omega
  | y :: l, k, x => by
    have ih := those_mem s l (k + 1) x
    rw [those, List.length_cons]
    by_cases hx : x = k
    · subst hx
      have h1 : ¬ x ∈ those s (x + 1) l := fun h => by have := ih.1 h; omega
      by_cases h : y = s
      · simp [h]
      · simp only [h, if_false, h1, false_iff, Nat.sub_self, List.getD_cons_zero]
        exact fun e => e.2.2
    · have h2 : k ≤ x → x - k = (x - (k + 1)) + 1 ∨ x < k := fun h => by omega
      have h3 : (x ∈ those s (k + 1) l) ↔ (k ≤ x ∧ x < k + (l.length + 1) ∧ (y :: l).getD (x - k) 0 = s) := by
        rw [ih]
        constructor
        · rintro ⟨a, b, c⟩
          refine ⟨by omega, by omega, ?_⟩
          rw [show x - k = (x - (k + 1)) + 1 by omega, List.getD_cons_succ]
          exact c
        · rintro ⟨a, b, c⟩
          rw [show x - k = (x - (k + 1)) + 1 by omega, List.getD_cons_succ] at c
          exact ⟨by omega, by omega, c⟩
      split
      · rw [List.mem_cons, h3]
        exact ⟨fun h => h.elim (fun e => absurd e hx) id, .inr⟩
      · exact h3
theorem those_sorted (s : Nat) : ∀ (l : List Nat) (k : Nat), (those s k l).Pairwise (· < ·)
  | [], _ => List.Pairwise.nil
  | x :: l, k => by
    rw [those]
    split
    · exact List.Pairwise.cons (fun y hy => by have := (those_mem s l (k + 1) y).1 hy; omega) (those_sorted s l (k + 1))
    · exact those_sorted s l (k + 1)
theorem those_free : ∀ (l : List Nat) (k : Nat), (those 0 k l).length = freeN l
  | [], _ => rfl
  | x :: l, k => by
    have ih := those_free l (k + 1)
    unfold freeN at *
    rw [those]
    by_cases h : x = 0
    · simp [h, ih]
    · simp [h, ih]
/-- The least free page from k on, and -1 if there is none. -/
def lst (k : Nat) (l : List Nat) : Int := match those 0 k l with
  | [] => -1
  | p :: _ => (p : Int)
theorem lst_none {st : List Nat} (h : frst st = none) : lst 0 st = -1 := by
  unfold lst
  cases ht : those 0 0 st with
  | nil => rfl
  | cons p r =>
    have := (those_mem 0 st 0 p).1 (by rw [ht]; exact List.mem_cons_self ..)
    exact absurd this.2.2 (by rw [Nat.sub_zero]; exact frst_none h p (by omega))
theorem lst_some {st : List Nat} {i : Nat} (h : frst st = some i) : lst 0 st = (i : Int) := by
  obtain ⟨h1, h2, h3⟩ := frst_some h
  have hi := (those_mem 0 st 0 i).2 ⟨by omega, by omega, by rw [Nat.sub_zero]; exact h2⟩
  unfold lst
  cases ht : those 0 0 st with
  | nil => rw [ht] at hi; cases hi
  | cons p r =>
    have hp := (those_mem 0 st 0 p).1 (by rw [ht]; exact List.mem_cons_self ..)
    have hs := those_sorted 0 st 0
    rw [ht] at hs hi
    have h4 : ¬ p < i := fun e => h3 p e (by have := hp.2.2; rwa [Nat.sub_zero] at this)
    have h5 : i = p ∨ p < i := by
      rcases List.mem_cons.1 hi with e | e
      · exact .inl e
      · exact .inr ((List.pairwise_cons.1 hs).1 i e)
    show (p : Int) = (i : Int)
    omega
theorem lst_step (k : Nat) (st : List Nat) (h : k < st.length) : lst k (st.drop k) = if st.getD k 0 = 0 then (k : Int) else lst (k + 1) (st.drop (k + 1)) := by
  rw [List.drop_eq_getElem_cons h, List.getD_eq_getElem?_getD, List.getElem?_eq_getElem h]
  show lst k (st[k] :: st.drop (k + 1)) = if st[k] = 0 then _ else _
  unfold lst
  rw [those]
  by_cases h0 : st[k] = 0
  · rw [if_pos h0, if_pos h0]
  · rw [if_neg h0, if_neg h0]
theorem free_step (k : Nat) (st : List Nat) (h : k < st.length) : freeN (st.drop k) = (if st.getD k 0 = 0 then 1 else 0) + freeN (st.drop (k + 1)) := by
  rw [List.drop_eq_getElem_cons h, List.getD_eq_getElem?_getD, List.getElem?_eq_getElem h]
  show freeN (st[k] :: st.drop (k + 1)) = (if st[k] = 0 then 1 else 0) + _
  unfold freeN
  rw [List.filter_cons]
  by_cases h0 : st[k] = 0
  · simp [h0]; omega
  · simp [h0]
theorem free_set {st : List Nat} {i : Nat} (h : i < st.length) (h0 : st.getD i 0 = 0) : freeN (st.set i 2) + 1 = freeN st := by
  have h1 := popc_stB st
  have e : ∀ (l : List Nat) (i : Nat), i < l.length → l.getD i 0 = 0 → freeN (l.set i 2) + 1 = freeN l := by
    intro l
    induction l with
    | nil => intro i hi; exact absurd hi (Nat.not_lt_zero _)
    | cons x l ih =>
      intro i hi hx
      cases i with
      | zero =>
        have hx' : x = 0 := hx
        subst hx'
        simp [freeN]
      | succ i =>
        have := ih i (Nat.lt_of_succ_lt_succ hi) hx
        unfold freeN at *
        rw [List.set_cons_succ, List.filter_cons, List.filter_cons]
        cases hb : (x == 0) with
        | true => simp only [if_true, List.length_cons]; omega
        | false => simp only [Bool.false_eq_true, if_false]; omega
  exact e st i h h0
/-- How often a page stands among the first j of the three rows. -/
def cnt (j s : Nat) : Nat := if 1 ≤ s ∧ s ≤ j then 1 else 0
theorem cnt_step (j s : Nat) (n : Nat) (h : n = cnt j s + if s = j + 1 then 1 else 0) : n = cnt (j + 1) s := by
  subst h
  unfold cnt
  by_cases h1 : s = j + 1
  · subst h1; rw [if_neg (by omega), if_pos rfl, if_pos (by omega)]
  · rw [if_neg h1]
    by_cases h2 : 1 ≤ s ∧ s ≤ j
    · rw [if_pos h2, if_pos (by omega)]
    · rw [if_neg h2, if_neg (by omega)]
end Go.Proofs.Ytfjcjppfihafgaa
