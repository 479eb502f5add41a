/- What a pager's pages are, in plain Lean; the bits that its alloc has. -/
import Derived.Test.YtfjcjppfihafgaaMAJ
import Derived.Test.YtfjcjppfihafgaaMAM
import Derived.Test.YtfjcjppfihafgaaMAN
namespace Go.Proofs.Ytfjcjppfihafgaa
set_option maxRecDepth 100000
open Go.RowKit Go.Amb
set_option linter.unusedVariables false
set_option linter.unusedSimpArgs false
/-- The bits of the pages that are something. -/
def stB : List Nat → Nat
  | [] => 0
  | s :: l => (if s = 0 then 0 else 1) + 2 * stB l
theorem stB_half (s : Nat) (l : List Nat) : stB (s :: l) / 2 = stB l ∧ stB (s :: l) % 2 = if s = 0 then 0 else 1 := by
  by_cases h : s = 0
  · simp only [stB, h, if_true]; omega
  · simp only [stB, h, if_false]; omega
theorem stB_bit : ∀ (l : List Nat) (i : Nat), (stB l).testBit i = decide (l.getD i 0 ≠ 0)
  | [], i => by simp [stB]
  | s :: l, 0 => by
    rw [Nat.testBit_zero, (stB_half s l).2]
    by_cases h : s = 0 <;> simp [h]
  | s :: l, i + 1 => by
    rw [Nat.testBit_succ, (stB_half s l).1, stB_bit l i]
    simp
theorem stB_lt : ∀ l : List Nat, stB l < 2 ^ l.length
  | [] => by simp [stB]
  | s :: l => by
    have := stB_lt l
    rw [List.length_cons, Nat.pow_succ]
    unfold stB
    split <;> omega
theorem stB_set (l : List Nat) (i : Nat) (h : i < l.length) (v : Nat) : stB (l.set i v) = putN (stB l) i (decide (v ≠ 0)) := by
  apply Nat.eq_of_testBit_eq
  intro j
  rw [putN_bit, stB_bit, stB_bit, List.getD_eq_getElem?_getD, List.getD_eq_getElem?_getD, List.getElem?_set]
  by_cases hij : i = j
  · subst hij; simp [h]
  · simp [hij]
/-- The first page that is free. -/
def frst (l : List Nat) : Option Nat := (List.range l.length).find? fun i => l.getD i 0 == 0
theorem frst_some {l : List Nat} {i : Nat} (h : frst l = some i) : i < l.length ∧ l.getD i 0 = 0 ∧ ∀ j, j < i → l.getD j 0 ≠ 0 := by
  unfold frst at h
  rw [List.find?_range_eq_some] at h
  obtain ⟨h1, h2, h3⟩ := h
  exact ⟨by simpa using h2, by simpa using h1, fun j hj => by simpa using h3 j hj⟩
theorem frst_none {l : List Nat} (h : frst l = none) : ∀ j, j < l.length → l.getD j 0 ≠ 0 := by
  unfold frst at h
  rw [List.find?_eq_none] at h
  intro j hj
  simpa using h j (List.mem_range.2 hj)
theorem run_one (B n i : Nat) : runN B n i 1 = if i < n ∧ B.testBit i = false then 1 else 0 := by
  unfold runN; rfl
theorem find_frst (l : List Nat) : findN (stB l) l.length 1 = frst l := by
  cases h : frst l with
  | none =>
    refine findN_none fun j hj => ?_
    have := frst_none h j hj
    rw [run_one, stB_bit, decide_eq_true this, if_neg (by simp)]
    decide
  | some i =>
    obtain ⟨h1, h2, h3⟩ := frst_some h
    refine findN_some h1 ?_ fun j hj => ?_
    · rw [run_one, stB_bit, decide_eq_false (fun e => e h2), if_pos ⟨h1, rfl⟩]
    · have := h3 j hj
      rw [run_one, stB_bit, decide_eq_true this, if_neg (by simp)]
      decide
theorem take_none {l : List Nat} (h : frst l = none) : takeV (stB l) l.length 1 = (0, 10, stB l) := by
  have e : takeV (stB l) l.length 1 = match findN (stB l) l.length 1 with | none => (0, 10, stB l) | some i => ((i : Int), 0, setN (stB l) i 1 true) := if_neg (by decide)
  rw [e, find_frst, h]
theorem take_some {l : List Nat} {i : Nat} (h : frst l = some i) {v : Nat} (hv : v ≠ 0) : takeV (stB l) l.length 1 = ((i : Int), 0, stB (l.set i v)) := by
  have e : takeV (stB l) l.length 1 = match findN (stB l) l.length 1 with | none => (0, 10, stB l) | some i => ((i : Int), 0, setN (stB l) i 1 true) := if_neg (by decide)
  rw [e, find_frst, h, stB_set l i (frst_some h).1 v]
  simp [setN, hv]
theorem give_st {l : List Nat} {i : Nat} (h : i < l.length) (h0 : l.getD i 0 ≠ 0) : giveV (stB l) l.length (i : Int) 1 = (0, stB (l.set i 0)) := by
  unfold giveV
  rw [if_neg (by decide), if_neg (by omega), stB_set l i h 0]
  have : allN (stB l) ((i : Int)).toNat (1 : Int).toNat = true := by
    show ((stB l).testBit i && true) = true
    rw [stB_bit, decide_eq_true h0]; rfl
  rw [if_pos this]
  rfl
theorem claim_st {l : List Nat} {i : Nat} (h : i < l.length) (h0 : l.getD i 0 = 0) {v : Nat} (hv : v ≠ 0) : claimE (stB l) l.length (i : Int) = 0 ∧ claimB (stB l) l.length (i : Int) = stB (l.set i v) := by
  have h1 : ¬ ((i : Int) < 0 ∨ (l.length : Int) ≤ (i : Int)) := by omega
  have h2 : ¬ (stB l).testBit ((i : Int)).toNat = true := by
    show ¬ (stB l).testBit i = true
    rw [stB_bit, decide_eq_false (fun e => e h0)]; decide
  unfold claimE claimB
  rw [if_neg h1, if_neg h2, if_neg h1, if_neg h2, stB_set l i h v]
  exact ⟨rfl, by simp [hv]⟩
/-- How many pages are free. -/
def freeN (l : List Nat) : Nat := (l.filter fun s => s == 0).length
theorem popc_stB : ∀ l : List Nat, popc l.length (stB l) + freeN l = l.length
  | [] => rfl
  | s :: l => by
    have := popc_stB l
    rw [List.length_cons, popc, (stB_half s l).1, (stB_half s l).2]
    unfold freeN at *
    by_cases h : s = 0
    · simp only [h, if_true, List.filter_cons, beq_self_eq_true, List.length_cons]; omega
    · have hb : (s == 0) = false := by simp [h]
      simp only [h, if_false, List.filter_cons, hb, Bool.false_eq_true]; omega
/-- The pages that are something, from k on. -/
def those (s : Nat) : Nat → List Nat → List Nat
  | _, [] => []
  | k, x :: l => if x = s then k :: those s (k + 1) l else those s (k + 1) l
theorem those_snoc (s : Nat) : ∀ (l : List Nat) (k x : Nat), those s k (l ++ [x]) = those s k l ++ if x = s then [k + l.length] else []
  | [], k, x => by simp [those]
  | y :: l, k, x => by
    rw [List.cons_append, those, those, those_snoc s l (k + 1) x, List.length_cons]
    by_cases h : y = s
    · simp only [h, if_true, List.cons_append]; rw [show k + 1 + l.length = k + (l.length + 1) by omega]
    · simp only [h, if_false]; rw [show k + 1 + l.length = k + (l.length + 1) by omega]
/-- Pages turn: one thing goes, another is settled. -/
def turn1 (goes stays s : Nat) : Nat := if s = goes then 0 else if s = stays then 1 else s
def turnL (goes stays : Nat) (l : List Nat) : List Nat := l.map (turn1 goes stays)
end Go.Proofs.Ytfjcjppfihafgaa
