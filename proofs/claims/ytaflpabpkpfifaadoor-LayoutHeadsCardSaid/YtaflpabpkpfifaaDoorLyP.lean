/- Keys in plain Lean: how many numbers a kind has; a key's parts, bytes, span; which key bytes are. -/
import Derived.Test.YtaflpabpkpfifaaDoorTM
import Derived.Test.YtaflpabpkpfifaaDoorTPlainB
import Derived.Test.YtaflpabpkpfifaaDoorLsP
namespace Go.Proofs.YtaflpabpkpfifaaDoor
set_option maxRecDepth 100000
open Go.RowKit Go.Amb
set_option linter.unusedVariables false

/-- A key: its kind, bucket, object, numbers. -/
structure Ky where
  k : Int
  b : Str
  o : Str
  ns : List Int
deriving DecidableEq
def Ky.none : Ky := ⟨0, [], [], []⟩
def i64Ok (n : Int) : Prop := -9223372036854775808 ≤ n ∧ n ≤ 9223372036854775807
/-- How many numbers a kind has. -/
def numsK (k : Int) : Int := if k = 1 then 0 else if k = 2 ∨ k = 4 then 1 else if k = 3 ∨ k = 5 then 2 else if k = 6 then 3 else -1
def lettersL : Str := [98, 111, 99, 117, 112, 113]
def letterK (k : Int) : UInt8 := lettersL.getD (k - 1).toNat 0
def numbersB (x : Ky) : Bool := x.ns.all (fun n => decide (0 ≤ n)) && decide ((x.ns.length : Int) ≤ numsK x.k) && (decide (x.k ≠ 1) || x.o.isEmpty)
def txtP (s : Str) : Part := ⟨1, 0, s⟩
def optP (s : Str) : List Part := if s = [] then [] else [txtP s]
def numPt (k n : Int) : Part := ⟨if k = 2 then 3 else 2, n, []⟩
def partsK (x : Ky) : List Part := txtP [letterK x.k] :: (optP x.b ++ (optP x.o ++ x.ns.map (numPt x.k)))
/-- The bytes of a key that is begun. -/
def encK (x : Ky) : Str := (encR (partsK x)).1
def KeyOk (x : Ky) : Prop := bk x.b = 0 ∧ (x.k = 1 ∨ obj x.o = 0)
instance (x : Ky) : Decidable (KeyOk x) := by unfold KeyOk; infer_instance
def keyR (x : Ky) : Str × Int := if numbersB x = true ∧ (x.ns.length : Int) = numsK x.k then (if KeyOk x then (encK x, 0) else ([], 15)) else ([], 2)
def spanR (x : Ky) : (Str × Str) × Int :=
  if numbersB x = true ∧ (x.b = [] → x.o = []) ∧ (x.o = [] → x.ns = []) then
    (if (x.b = [] ∨ bk x.b = 0) ∧ (x.o = [] ∨ obj x.o = 0) then ((encK x, encK x ++ [255]), 0) else (([], []), 15)) else (([], []), 2)
/-- The kind of a letter; 0: none. -/
def kindOf (s : Str) : Int := match s with | [c] => (lettersL.findIdx? (· == c)).elim 0 (fun i => (i : Int) + 1) | _ => 0
def kyOf (l : List Part) : Ky :=
  match l with
  | p :: q :: r => if kindOf p.s = 1 then ⟨1, q.s, [], r.map (·.n)⟩ else
    match r with
    | [] => ⟨kindOf p.s, q.s, [], []⟩
    | u :: r => ⟨kindOf p.s, q.s, u.s, r.map (·.n)⟩
  | _ => Ky.none
/-- Which key bytes are. -/
def parseR (s : Str) : Ky × Int := if (decR s).2 = 0 ∧ 2 ≤ (decR s).1.length ∧ keyR (kyOf (decR s).1) = (s, 0) then (kyOf (decR s).1, 0) else (Ky.none, 4)

theorem numsK_kind {k : Int} (h : 0 ≤ numsK k) : k = 1 ∨ k = 2 ∨ k = 3 ∨ k = 4 ∨ k = 5 ∨ k = 6 := by
  unfold numsK at h
  split at h
  · omega
  · split at h
    · omega
    · split at h
      · omega
      · split at h <;> omega
theorem numsK_no {k : Int} (h : k < 1 ∨ 6 < k) : numsK k = -1 := by
  unfold numsK
  rw [if_neg (by omega), if_neg (by omega), if_neg (by omega), if_neg (by omega)]
theorem numsK_le (k : Int) : numsK k ≤ 3 := by
  unfold numsK
  split
  · omega
  · split
    · omega
    · split
      · omega
      · split <;> omega
theorem numsK_ge (k : Int) : -1 ≤ numsK k := by
  unfold numsK
  split
  · omega
  · split
    · omega
    · split
      · omega
      · split <;> omega
theorem numbersB_iff (x : Ky) : numbersB x = true ↔ (∀ n ∈ x.ns, 0 ≤ n) ∧ (x.ns.length : Int) ≤ numsK x.k ∧ (x.k = 1 → x.o = []) := by
  unfold numbersB
  simp only [Bool.and_eq_true, List.all_eq_true, decide_eq_true_eq, Bool.or_eq_true, List.isEmpty_iff]
  constructor
  · rintro ⟨⟨h1, h2⟩, h3⟩
    exact ⟨h1, h2, fun h => h3.resolve_left (fun g => g h)⟩
  · rintro ⟨h1, h2, h3⟩
    refine ⟨⟨h1, h2⟩, ?_⟩
    by_cases h : x.k = 1
    · exact .inr (h3 h)
    · exact .inl h
theorem numbersB_kind {x : Ky} (h : numbersB x = true) : 1 ≤ x.k ∧ x.k ≤ 6 ∧ x.ns.length ≤ 3 := by
  have := (numbersB_iff x).1 h
  have h2 := this.2.1
  have h3 := numsK_kind (k := x.k) (by omega)
  have h4 := numsK_le x.k
  omega
/-- A right name has no noughts, few bytes. -/
theorem bk_fine {s : Str} (h : bk s = 0) : 3 ≤ s.length ∧ s.length ≤ 12 ∧ zeros s = 0 := by
  unfold bk at h
  split at h
  · rename_i g
    refine ⟨g.1, g.2.1, ?_⟩
    unfold zeros
    rw [List.length_eq_zero_iff, List.filter_eq_nil_iff]
    intro b hb
    obtain ⟨i, hi, rfl⟩ := List.getElem_of_mem hb
    intro e
    have e : s[i] = 0 := by simpa using e
    have := g.2.2 i hi
    rw [e] at this
    simp [plainB] at this
  · cases h
theorem ob_fine {s : Str} (h : obj s = 0) : 1 ≤ s.length ∧ s.length ≤ 32 ∧ zeros s = 0 := by
  unfold obj at h
  split at h
  · rename_i g
    refine ⟨g.1, g.2.1, ?_⟩
    unfold zeros
    rw [List.length_eq_zero_iff, List.filter_eq_nil_iff]
    intro b hb
    obtain ⟨i, hi, rfl⟩ := List.getElem_of_mem hb
    intro e
    have e : s[i] = 0 := by simpa using e
    have := g.2.2 i hi
    rw [e] at this
    simp at this
  · cases h
theorem right_txt (s : Str) : rightP (txtP s) = true := rfl
theorem right_num (k n : Int) : rightP (numPt k n) = true := by unfold numPt rightP; by_cases h : k = 2 <;> simp [h]
theorem right_partsK (x : Ky) : ∀ p ∈ partsK x, rightP p = true := by
  intro p hp
  unfold partsK optP at hp
  simp only [List.mem_cons, List.mem_append, List.mem_map] at hp
  rcases hp with rfl | hp | hp | ⟨n, _, rfl⟩
  · rfl
  · split at hp
    · cases hp
    · simp at hp; subst hp; rfl
  · split at hp
    · cases hp
    · simp at hp; subst hp; rfl
  · exact right_num _ _
theorem ok_partsK (x : Ky) (h : ∀ n ∈ x.ns, i64Ok n) : ∀ p ∈ partsK x, numOk p := by
  intro p hp
  unfold partsK optP at hp
  simp only [List.mem_cons, List.mem_append, List.mem_map] at hp
  rcases hp with rfl | hp | hp | ⟨n, hn, rfl⟩
  · exact ⟨by show (-9223372036854775808 : Int) ≤ 0; decide, by show (0 : Int) ≤ 9223372036854775807; decide⟩
  · split at hp
    · cases hp
    · simp at hp; subst hp; exact ⟨by show (-9223372036854775808 : Int) ≤ 0; decide, by show (0 : Int) ≤ 9223372036854775807; decide⟩
  · split at hp
    · cases hp
    · simp at hp; subst hp; exact ⟨by show (-9223372036854775808 : Int) ≤ 0; decide, by show (0 : Int) ≤ 9223372036854775807; decide⟩
  · exact h n hn
theorem enc_num_length (k n : Int) : (partB (numPt k n)).length = 9 := by
  rw [partB_length _ (right_num k n)]
  unfold sizeP numPt
  by_cases h : k = 2 <;> simp [h]
theorem enc_nums_length (k : Int) (ns : List Int) : (encB (ns.map (numPt k))).length = 9 * ns.length := by
  induction ns with
  | nil => rfl
  | cons n ns ih => rw [List.map_cons, encB_cons, List.length_append, ih, enc_num_length]; simp; omega
theorem enc_opt_length (s : Str) (hz : zeros s = 0) : (encB (optP s)).length ≤ s.length + 3 := by
  unfold optP
  split
  · simp [encB_nil]
  · rw [encB_cons, encB_nil, List.append_nil, partB_length _ (right_txt s)]
    unfold sizeP sizeP.s0 txtP
    simp [hz]; omega
theorem letter_ne {k : Int} (h : 1 ≤ k ∧ k ≤ 6) : letterK k ≠ 0 := by
  obtain rfl | rfl | rfl | rfl | rfl | rfl : k = 1 ∨ k = 2 ∨ k = 3 ∨ k = 4 ∨ k = 5 ∨ k = 6 := by omega
  all_goals decide
/-- How long a key's bytes are. -/
theorem enc_partsK_length (x : Ky) (hk : 1 ≤ x.k ∧ x.k ≤ 6) (hn : x.ns.length ≤ 3) (hb : x.b.length ≤ 12 ∧ zeros x.b = 0) (ho : x.o.length ≤ 32 ∧ zeros x.o = 0) : (encB (partsK x)).length ≤ 120 := by
  unfold partsK
  rw [encB_cons, encB_append, encB_append, List.length_append, List.length_append, List.length_append, enc_nums_length]
  have h1 := enc_opt_length x.b hb.2
  have h2 := enc_opt_length x.o ho.2
  have h3 : (partB (txtP [letterK x.k])).length = 4 := by
    rw [partB_length _ (right_txt _)]
    unfold sizeP sizeP.s0 txtP
    have := letter_ne hk
    simp [zeros, this]
  omega
theorem encK_of (x : Ky) (h : (encB (partsK x)).length ≤ 128) : encK x = encB (partsK x) := by
  unfold encK
  rw [encR_ok (List.all_eq_true.2 (right_partsK x)) h]
theorem zeros_nil' : zeros ([] : Str) = 0 := rfl
/-- A right key's bytes. -/
theorem keyR_fine {x : Ky} (h : (keyR x).2 = 0) : numbersB x = true ∧ (x.ns.length : Int) = numsK x.k ∧ KeyOk x ∧ (encB (partsK x)).length ≤ 120 ∧ keyR x = (encB (partsK x), 0) := by
  unfold keyR at h ⊢
  split at h
  · rename_i g
    split at h
    · rename_i q
      have hk := numbersB_kind g.1
      have hb := bk_fine q.1
      have ho : x.o.length ≤ 32 ∧ zeros x.o = 0 := by
        rcases q.2 with e | e
        · rw [((numbersB_iff x).1 g.1).2.2 e]; exact ⟨by simp, rfl⟩
        · exact (ob_fine e).2
      have hl := enc_partsK_length x ⟨hk.1, hk.2.1⟩ hk.2.2 hb.2 ho
      exact ⟨g.1, g.2, q, hl, by rw [if_pos g, if_pos q, encK_of x (by omega)]⟩
    · cases h
  · cases h
theorem spanR_fine {x : Ky} (h : (spanR x).2 = 0) : numbersB x = true ∧ (x.b = [] → x.o = []) ∧ (x.o = [] → x.ns = []) ∧ (encB (partsK x)).length ≤ 120 ∧ spanR x = ((encB (partsK x), encB (partsK x) ++ [255]), 0) := by
  unfold spanR at h ⊢
  split at h
  · rename_i g
    split at h
    · rename_i q
      have hk := numbersB_kind g.1
      have hb : x.b.length ≤ 12 ∧ zeros x.b = 0 := by
        rcases q.1 with e | e
        · rw [e]; exact ⟨by simp, rfl⟩
        · exact (bk_fine e).2
      have ho : x.o.length ≤ 32 ∧ zeros x.o = 0 := by
        rcases q.2 with e | e
        · rw [e]; exact ⟨by simp, rfl⟩
        · exact (ob_fine e).2
      have hl := enc_partsK_length x ⟨hk.1, hk.2.1⟩ hk.2.2 hb ho
      exact ⟨g.1, g.2.1, g.2.2, hl, by rw [if_pos g, if_pos q, encK_of x (by omega)]⟩
    · cases h
  · cases h
end Go.Proofs.YtaflpabpkpfifaaDoor
