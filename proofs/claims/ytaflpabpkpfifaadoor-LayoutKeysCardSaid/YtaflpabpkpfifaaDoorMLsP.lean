/- Names and lists of them, in plain Lean. No program stands here. -/
import Derived.Test.YtaflpabpkpfifaaDoorMLib
import Derived.Test.YtaflpabpkpfifaaDoorMFPlain
import Derived.Test.YtaflpabpkpfifaaDoorMTM
import Derived.Test.YtaflpabpkpfifaaDoorMTPlainB
namespace Go.Amb
set_option linter.unusedVariables false
abbrev Str := List UInt8
def txtV (s : Str) : Value := .string ⟨s.toArray⟩
theorem txt_one (l : List Str) : ∀ u ∈ l.map txtV, u.oneCell' = true := by
  intro u hu
  obtain ⟨_, _, rfl⟩ := List.mem_map.1 hu
  rfl
/-- A slice of texts. -/
abbrev Txts (w : World) (v : Value) (l : List Str) : Prop := Has w 1 v l.length (l.map txtV)
def plainB (c : UInt8) : Bool := decide ((97 ≤ c.toNat ∧ c.toNat ≤ 122) ∨ (48 ≤ c.toNat ∧ c.toNat ≤ 57))
def bkOk (s : Str) : Prop := 3 ≤ s.length ∧ s.length ≤ 12 ∧ ∀ i (h : i < s.length), plainB s[i] = true ∨ (s[i].toNat = 45 ∧ 0 < i ∧ i + 1 < s.length)
instance (s : Str) : Decidable (bkOk s) := by unfold bkOk; infer_instance
def bk (s : Str) : Int := if bkOk s then 0 else 15
def obOk (s : Str) : Prop := 1 ≤ s.length ∧ s.length ≤ 32 ∧ ∀ i (h : i < s.length), 33 ≤ s[i].toNat ∧ s[i].toNat ≤ 126
instance (s : Str) : Decidable (obOk s) := by unfold obOk; infer_instance
def obj (s : Str) : Int := if obOk s then 0 else 15
def ckOk (p d a : Str) (m : Int) : Prop := p.length ≤ 32 ∧ d.length ≤ 1 ∧ a.length ≤ 32 ∧ 1 ≤ m ∧ m ≤ 50
instance (p d a : Str) (m : Int) : Decidable (ckOk p d a m) := by unfold ckOk; infer_instance
def ck (p d a : Str) (m : Int) : Int := if ckOk p d a m then 0 else 2
def begins (s p : Str) : Bool := decide (p.length ≤ s.length ∧ s.take p.length = p)
/-- An entry: a text; is it a common prefix? -/
abbrev Ent := Str × Bool
def entOf (s p d : Str) : Ent :=
  match d with
  | [] => (s, false)
  | c :: _ => match (s.drop p.length).findIdx? (· == c) with
    | some i => (s.take (p.length + i + 1), true)
    | none => (s, false)
def entsFrom (p d a : Str) (last : Ent) : List Str → List Ent
  | [] => []
  | s :: r => if begins s p = false ∨ Op.bytesLess a (entOf s p d).1 = false ∨ entOf s p d = last then entsFrom p d a last r else entOf s p d :: entsFrom p d a (entOf s p d) r
/-- The entries of a list. -/
def ents (p d a : Str) (l : List Str) : List Ent := entsFrom p d a (a, false) l
def namesOf (l : List Ent) : List Str := (l.filter (!·.2)).map (·.1)
def prefsOf (l : List Ent) : List Str := (l.filter (·.2)).map (·.1)
/-- A page. -/
structure Pg where
  n : List Str
  p : List Str
  x : Str
  m : Bool
deriving DecidableEq
def pageOf (l : List Ent) (m : Nat) : Pg := ⟨namesOf (l.take m), prefsOf (l.take m), if m < l.length then (l.getD (m - 1) ([], false)).1 else [], decide (m < l.length)⟩
def Pg.none : Pg := ⟨[], [], [], false⟩
def rising (l : List Str) : Prop := ∀ i (h : i + 1 < l.length), Op.bytesLess l[i] l[i + 1] = true
instance (l : List Str) : Decidable (rising l) :=
  decidable_of_iff (∀ i (h : i < l.length - 1), Op.bytesLess (l[i]'(by omega)) (l[i + 1]'(by omega)) = true) ⟨fun h i hi => h i (by omega), fun h i hi => h i (by omega)⟩
def pageE (p d a : Str) (m : Int) (l : List Str) : Int := if ckOk p d a m then (if rising l then 0 else 4) else 2
def page (p d a : Str) (m : Int) (l : List Str) : Pg := if ckOk p d a m ∧ rising l then pageOf (ents p d a l) m.toNat else Pg.none

theorem namesOf_snoc (l : List Ent) (x : Ent) : namesOf (l ++ [x]) = namesOf l ++ (if x.2 then [] else [x.1]) := by
  unfold namesOf; rw [List.filter_append, List.map_append]; cases h : x.2 <;> simp [h]
theorem prefsOf_snoc (l : List Ent) (x : Ent) : prefsOf (l ++ [x]) = prefsOf l ++ (if x.2 then [x.1] else []) := by
  unfold prefsOf; rw [List.filter_append, List.map_append]; cases h : x.2 <;> simp [h]
theorem namesOf_le (l : List Ent) : (namesOf l).length ≤ l.length := by unfold namesOf; rw [List.length_map]; exact List.length_filter_le _ _
theorem prefsOf_le (l : List Ent) : (prefsOf l).length ≤ l.length := by unfold prefsOf; rw [List.length_map]; exact List.length_filter_le _ _
theorem entsFrom_le (p d a : Str) : ∀ (l : List Str) (last : Ent), (entsFrom p d a last l).length ≤ l.length
  | [], _ => Nat.le_refl _
  | s :: r, last => by
    unfold entsFrom
    split
    · exact Nat.le_succ_of_le (entsFrom_le p d a r last)
    · exact Nat.succ_le_succ (entsFrom_le p d a r _)
theorem less_ne {a b : Str} (h : Op.bytesLess a b = true) : a ≠ b := by rintro rfl; rw [bytesLess_irrefl] at h; cases h
/-- Where the first one ahead of all can be no entry. -/
theorem ents_first (p d a : Str) (last : Ent) (hl : Op.bytesLess a last.1 = false) : ∀ l : List Str, entsFrom p d a last l = ents p d a l
  | [] => rfl
  | s :: r => by
    have ih := ents_first p d a last hl r
    unfold ents at ih ⊢
    by_cases h : begins s p = false ∨ Op.bytesLess a (entOf s p d).1 = false
    · rw [entsFrom, entsFrom, if_pos (h.elim .inl fun h => .inr (.inl h)), if_pos (h.elim .inl fun h => .inr (.inl h)), ih]
    · have hb : Op.bytesLess a (entOf s p d).1 = true := by
        cases hh : Op.bytesLess a (entOf s p d).1 with
        | true => rfl
        | false => exact absurd (.inr hh) h
      have h1 : entOf s p d ≠ last := fun e => by rw [e, hl] at hb; cases hb
      have h2 : entOf s p d ≠ (a, false) := fun e => by rw [e, bytesLess_irrefl] at hb; cases hb
      rw [entsFrom, entsFrom, if_neg (by rintro (h' | h' | h'); exact h (.inl h'); exact h (.inr h'); exact h1 h'), if_neg (by rintro (h' | h' | h'); exact h (.inl h'); exact h (.inr h'); exact h2 h')]
end Go.Amb

namespace Go.Proofs.YtaflpabpkpfifaaDoor
set_option maxRecDepth 100000
open Go.RowKit Go.Amb
set_option linter.unusedVariables false

/-- A key: its kind, bucket, object, numbers. -/
structure Ky where
  k : Int
  b : Str
  o : Str
  ns : List Int
deriving DecidableEq
def Ky.none : Ky := ⟨0, [], [], []⟩
def i64Ok (n : Int) : Prop := -9223372036854775808 ≤ n ∧ n ≤ 9223372036854775807
/-- How many numbers a kind has. -/
def numsK (k : Int) : Int := if k = 1 then 0 else if k = 2 ∨ k = 4 then 1 else if k = 3 ∨ k = 5 then 2 else if k = 6 then 3 else -1
def lettersL : Str := [98, 111, 99, 117, 112, 113]
def letterK (k : Int) : UInt8 := lettersL.getD (k - 1).toNat 0
def numbersB (x : Ky) : Bool := x.ns.all (fun n => decide (0 ≤ n)) && decide ((x.ns.length : Int) ≤ numsK x.k) && (decide (x.k ≠ 1) || x.o.isEmpty)
def txtP (s : Str) : Part := ⟨1, 0, s⟩
def optP (s : Str) : List Part := if s = [] then [] else [txtP s]
def numPt (k n : Int) : Part := ⟨if k = 2 then 3 else 2, n, []⟩
def partsK (x : Ky) : List Part := txtP [letterK x.k] :: (optP x.b ++ (optP x.o ++ x.ns.map (numPt x.k)))
/-- The bytes of a key that is begun. -/
def encK (x : Ky) : Str := (encR (partsK x)).1
def KeyOk (x : Ky) : Prop := bk x.b = 0 ∧ (x.k = 1 ∨ obj x.o = 0)
instance (x : Ky) : Decidable (KeyOk x) := by unfold KeyOk; infer_instance
def keyR (x : Ky) : Str × Int := if numbersB x = true ∧ (x.ns.length : Int) = numsK x.k then (if KeyOk x then (encK x, 0) else ([], 15)) else ([], 2)
def spanR (x : Ky) : (Str × Str) × Int :=
  if numbersB x = true ∧ (x.b = [] → x.o = []) ∧ (x.o = [] → x.ns = []) then
    (if (x.b = [] ∨ bk x.b = 0) ∧ (x.o = [] ∨ obj x.o = 0) then ((encK x, encK x ++ [255]), 0) else (([], []), 15)) else (([], []), 2)
/-- The kind of a letter; 0: none. -/
def kindOf (s : Str) : Int := match s with | [c] => (lettersL.findIdx? (· == c)).elim 0 (fun i => (i : Int) + 1) | _ => 0
def kyOf (l : List Part) : Ky :=
  match l with
  | p :: q :: r => if kindOf p.s = 1 then ⟨1, q.s, [], r.map (·.n)⟩ else
    match r with
    | [] => ⟨kindOf p.s, q.s, [], []⟩
    | u :: r => ⟨kindOf p.s, q.s, u.s, r.map (·.n)⟩
  | _ => Ky.none
/-- Which key bytes are. -/
def parseR (s : Str) : Ky × Int := if (decR s).2 = 0 ∧ 2 ≤ (decR s).1.length ∧ keyR (kyOf (decR s).1) = (s, 0) then (kyOf (decR s).1, 0) else (Ky.none, 4)

theorem numsK_kind {k : Int} (h : 0 ≤ numsK k) : k = 1 ∨ k = 2 ∨ k = 3 ∨ k = 4 ∨ k = 5 ∨ k = 6 := by
  unfold numsK at h
  split at h
  · omega
  · split at h
    · omega
    · split at h
      · omega
      · split at h <;> omega
theorem numsK_no {k : Int} (h : k < 1 ∨ 6 < k) : numsK k = -1 := by
  unfold numsK
  rw [if_neg (by omega), if_neg (by omega), if_neg (by omega), if_neg (by omega)]
theorem numsK_le (k : Int) : numsK k ≤ 3 := by
  unfold numsK
  split
  · omega
  · split
    · omega
    · split
      · omega
      · split <;> omega
theorem numsK_ge (k : Int) : -1 ≤ numsK k := by
  unfold numsK
  split
  · omega
  · split
    · omega
    · split
      · omega
      · split <;> omega
theorem numbersB_iff (x : Ky) : numbersB x = true ↔ (∀ n ∈ x.ns, 0 ≤ n) ∧ (x.ns.length : Int) ≤ numsK x.k ∧ (x.k = 1 → x.o = []) := by
  unfold numbersB
  simp only [Bool.and_eq_true, List.all_eq_true, decide_eq_true_eq, Bool.or_eq_true, List.isEmpty_iff]
  constructor
  · rintro ⟨⟨h1, h2⟩, h3⟩
    exact ⟨h1, h2, fun h => h3.resolve_left (fun g => g h)⟩
  · rintro ⟨h1, h2, h3⟩
    refine ⟨⟨h1, h2⟩, ?_⟩
    by_cases h : x.k = 1
    · exact .inr (h3 h)
    · exact .inl h
theorem numbersB_kind {x : Ky} (h : numbersB x = true) : 1 ≤ x.k ∧ x.k ≤ 6 ∧ x.ns.length ≤ 3 := by
  have := (numbersB_iff x).1 h
  have h2 := this.2.1
  have h3 := numsK_kind (k := x.k) (by omega)
  have h4 := numsK_le x.k
  omega
/-- A right name has no noughts, few bytes. -/
theorem bk_fine {s : Str} (h : bk s = 0) : 3 ≤ s.length ∧ s.length ≤ 12 ∧ zeros s = 0 := by
  unfold bk at h
  split at h
  · rename_i g
    refine ⟨g.1, g.2.1, ?_⟩
    unfold zeros
    rw [List.length_eq_zero_iff, List.filter_eq_nil_iff]
    intro b hb
    obtain ⟨i, hi, rfl⟩ := List.getElem_of_mem hb
    intro e
    have e : s[i] = 0 := by simpa using e
    have := g.2.2 i hi
    rw [e] at this
    simp [plainB] at this
  · cases h
theorem ob_fine {s : Str} (h : obj s = 0) : 1 ≤ s.length ∧ s.length ≤ 32 ∧ zeros s = 0 := by
  unfold obj at h
  split at h
  · rename_i g
    refine ⟨g.1, g.2.1, ?_⟩
    unfold zeros
    rw [List.length_eq_zero_iff, List.filter_eq_nil_iff]
    intro b hb
    obtain ⟨i, hi, rfl⟩ := List.getElem_of_mem hb
    intro e
    have e : s[i] = 0 := by simpa using e
    have := g.2.2 i hi
    rw [e] at this
    simp at this
  · cases h
theorem right_txt (s : Str) : rightP (txtP s) = true := rfl
theorem right_num (k n : Int) : rightP (numPt k n) = true := by unfold numPt rightP; by_cases h : k = 2 <;> simp [h]
theorem right_partsK (x : Ky) : ∀ p ∈ partsK x, rightP p = true := by
  intro p hp
  unfold partsK optP at hp
  simp only [List.mem_cons, List.mem_append, List.mem_map] at hp
  rcases hp with rfl | hp | hp | ⟨n, _, rfl⟩
  · rfl
  · split at hp
    · cases hp
    · simp at hp; subst hp; rfl
  · split at hp
    · cases hp
    · simp at hp; subst hp; rfl
  · exact right_num _ _
theorem ok_partsK (x : Ky) (h : ∀ n ∈ x.ns, i64Ok n) : ∀ p ∈ partsK x, numOk p := by
  intro p hp
  unfold partsK optP at hp
  simp only [List.mem_cons, List.mem_append, List.mem_map] at hp
  rcases hp with rfl | hp | hp | ⟨n, hn, rfl⟩
  · exact ⟨by show (-9223372036854775808 : Int) ≤ 0; decide, by show (0 : Int) ≤ 9223372036854775807; decide⟩
  · split at hp
    · cases hp
    · simp at hp; subst hp; exact ⟨by show (-9223372036854775808 : Int) ≤ 0; decide, by show (0 : Int) ≤ 9223372036854775807; decide⟩
  · split at hp
    · cases hp
    · simp at hp; subst hp; exact ⟨by show (-9223372036854775808 : Int) ≤ 0; decide, by show (0 : Int) ≤ 9223372036854775807; decide⟩
  · exact h n hn
theorem enc_num_length (k n : Int) : (partB (numPt k n)).length = 9 := by
  rw [partB_length _ (right_num k n)]
  unfold sizeP numPt
  by_cases h : k = 2 <;> simp [h]
theorem enc_nums_length (k : Int) (ns : List Int) : (encB (ns.map (numPt k))).length = 9 * ns.length := by
  induction ns with
  | nil => rfl
  | cons n ns ih => rw [List.map_cons, encB_cons, List.length_append, ih, enc_num_length]; simp; omega
theorem enc_opt_length (s : Str) (hz : zeros s = 0) : (encB (optP s)).length ≤ s.length + 3 := by
  unfold optP
  split
  · simp [encB_nil]
  · rw [encB_cons, encB_nil, List.append_nil, partB_length _ (right_txt s)]
    unfold sizeP sizeP.s0 txtP
    simp [hz]; omega
theorem letter_ne {k : Int} (h : 1 ≤ k ∧ k ≤ 6) : letterK k ≠ 0 := by
  obtain rfl | rfl | rfl | rfl | rfl | rfl : k = 1 ∨ k = 2 ∨ k = 3 ∨ k = 4 ∨ k = 5 ∨ k = 6 := by omega
  all_goals decide
/-- How long a key's bytes are. -/
theorem enc_partsK_length (x : Ky) (hk : 1 ≤ x.k ∧ x.k ≤ 6) (hn : x.ns.length ≤ 3) (hb : x.b.length ≤ 12 ∧ zeros x.b = 0) (ho : x.o.length ≤ 32 ∧ zeros x.o = 0) : (encB (partsK x)).length ≤ 120 := by
  unfold partsK
  rw [encB_cons, encB_append, encB_append, List.length_append, List.length_append, List.length_append, enc_nums_length]
  have h1 := enc_opt_length x.b hb.2
  have h2 := enc_opt_length x.o ho.2
  have h3 : (partB (txtP [letterK x.k])).length = 4 := by
    rw [partB_length _ (right_txt _)]
    unfold sizeP sizeP.s0 txtP
    have := letter_ne hk
    simp [zeros, this]
  omega
theorem encK_of (x : Ky) (h : (encB (partsK x)).length ≤ 128) : encK x = encB (partsK x) := by
  unfold encK
  rw [encR_ok (List.all_eq_true.2 (right_partsK x)) h]
theorem zeros_nil' : zeros ([] : Str) = 0 := rfl
/-- A right key's bytes. -/
theorem keyR_fine {x : Ky} (h : (keyR x).2 = 0) : numbersB x = true ∧ (x.ns.length : Int) = numsK x.k ∧ KeyOk x ∧ (encB (partsK x)).length ≤ 120 ∧ keyR x = (encB (partsK x), 0) := by
  unfold keyR at h ⊢
  split at h
  · rename_i g
    split at h
    · rename_i q
      have hk := numbersB_kind g.1
      have hb := bk_fine q.1
      have ho : x.o.length ≤ 32 ∧ zeros x.o = 0 := by
        rcases q.2 with e | e
        · rw [((numbersB_iff x).1 g.1).2.2 e]; exact ⟨by simp, rfl⟩
        · exact (ob_fine e).2
      have hl := enc_partsK_length x ⟨hk.1, hk.2.1⟩ hk.2.2 hb.2 ho
      exact ⟨g.1, g.2, q, hl, by rw [if_pos g, if_pos q, encK_of x (by omega)]⟩
    · cases h
  · cases h
theorem spanR_fine {x : Ky} (h : (spanR x).2 = 0) : numbersB x = true ∧ (x.b = [] → x.o = []) ∧ (x.o = [] → x.ns = []) ∧ (encB (partsK x)).length ≤ 120 ∧ spanR x = ((encB (partsK x), encB (partsK x) ++ [255]), 0) := by
  unfold spanR at h ⊢
  split at h
  · rename_i g
    split at h
    · rename_i q
      have hk := numbersB_kind g.1
      have hb : x.b.length ≤ 12 ∧ zeros x.b = 0 := by
        rcases q.1 with e | e
        · rw [e]; exact ⟨by simp, rfl⟩
        · exact (bk_fine e).2
      have ho : x.o.length ≤ 32 ∧ zeros x.o = 0 := by
        rcases q.2 with e | e
        · rw [e]; exact ⟨by simp, rfl⟩
        · exact (ob_fine e).2
      have hl := enc_partsK_length x ⟨hk.1, hk.2.1⟩ hk.2.2 hb ho
      exact ⟨g.1, g.2.1, g.2.2, hl, by rw [if_pos g, if_pos q, encK_of x (by omega)]⟩
    · cases h
  · cases h
end Go.Proofs.YtaflpabpkpfifaaDoor

namespace Go.Proofs.YtaflpabpkpfifaaDoor
set_option maxRecDepth 100000
open Go.RowKit Go.Amb
set_option linter.unusedVariables false

/-- Does a key that is begun begin a key? -/
def BegK (a k : Ky) : Prop := a.k = k.k ∧ (a.b = [] ∨ a.b = k.b) ∧ (a.o = [] ∨ a.o = k.o) ∧ a.ns.length ≤ k.ns.length ∧ a.ns = k.ns.take a.ns.length
instance (a k : Ky) : Decidable (BegK a k) := by unfold BegK; infer_instance

theorem letter_inj {a b : Int} (ha : 1 ≤ a ∧ a ≤ 6) (hb : 1 ≤ b ∧ b ≤ 6) (h : letterK a = letterK b) : a = b := by
  obtain rfl | rfl | rfl | rfl | rfl | rfl : a = 1 ∨ a = 2 ∨ a = 3 ∨ a = 4 ∨ a = 5 ∨ a = 6 := by omega
  all_goals
    obtain rfl | rfl | rfl | rfl | rfl | rfl : b = 1 ∨ b = 2 ∨ b = 3 ∨ b = 4 ∨ b = 5 ∨ b = 6 := by omega
    all_goals first | rfl | (revert h; decide)
theorem txtP_inj {s t : Str} : txtP s = txtP t ↔ s = t := by
  constructor
  · intro h; injection h
  · rintro rfl; rfl
theorem numPt_inj {k a b : Int} : numPt k a = numPt k b ↔ a = b := by
  constructor
  · intro h; injection h
  · rintro rfl; rfl
theorem map_prefix (k : Int) : ∀ (a b : List Int), a.map (numPt k) <+: b.map (numPt k) ↔ a <+: b
  | [], b => by simp
  | x :: a, [] => by simp
  | x :: a, y :: b => by
    rw [List.map_cons, List.map_cons, List.cons_prefix_cons, List.cons_prefix_cons, numPt_inj, map_prefix k a b]
theorem take_prefix {α : Type} (a b : List α) : (a.length ≤ b.length ∧ a = b.take a.length) ↔ a <+: b := by
  rw [List.prefix_iff_eq_take]
  constructor
  · exact fun h => h.2
  · intro h
    refine ⟨?_, h⟩
    have := congrArg List.length h
    rw [List.length_take] at this
    omega
theorem optP_nil : optP [] = [] := rfl
theorem optP_some {s : Str} (h : s ≠ []) : optP s = [txtP s] := by unfold optP; rw [if_neg h]
theorem key_names {y : Ky} (h : (keyR y).2 = 0) : y.b ≠ [] ∧ (y.k = 1 → y.o = [] ∧ y.ns = []) ∧ (y.k ≠ 1 → y.o ≠ []) := by
  obtain ⟨h1, h2, h3, _⟩ := keyR_fine h
  refine ⟨fun e => by have := (bk_fine h3.1).1; rw [e] at this; simp at this, fun e => ⟨((numbersB_iff y).1 h1).2.2 e, ?_⟩, fun e f => ?_⟩
  · rw [e] at h2
    exact List.length_eq_zero_iff.1 (by have : numsK 1 = 0 := rfl; omega)
  · have := (ob_fine (h3.2.resolve_left e)).1
    rw [f] at this; simp at this
theorem span_prefix {x y : Ky} (hx : (spanR x).2 = 0) (hy : (keyR y).2 = 0) : partsK x <+: partsK y ↔ BegK x y := by
  obtain ⟨x1, x2, x3, _⟩ := spanR_fine hx
  obtain ⟨y1, _⟩ := keyR_fine hy
  obtain ⟨n1, n2, n3⟩ := key_names hy
  have kx := numbersB_kind x1
  have ky := numbersB_kind y1
  have xo := ((numbersB_iff x).1 x1).2.2
  unfold BegK
  rw [take_prefix]
  unfold partsK
  rw [List.cons_prefix_cons, txtP_inj]
  have hl : [letterK x.k] = [letterK y.k] ↔ x.k = y.k := by
    constructor
    · intro h; exact letter_inj ⟨kx.1, kx.2.1⟩ ⟨ky.1, ky.2.1⟩ (by injection h)
    · intro h; rw [h]
  rw [hl]
  by_cases hk : x.k = y.k
  · by_cases hb : x.b = []
    · have ho := x2 hb
      have hn := x3 ho
      simp [hk, hb, ho, hn, optP_nil]
    · rw [optP_some hb, optP_some n1, List.singleton_append, List.singleton_append, List.cons_prefix_cons, txtP_inj]
      by_cases hbb : x.b = y.b
      · by_cases ho : x.o = []
        · have hn := x3 ho
          simp [hk, hb, hbb, ho, hn, optP_nil]
        · have hk1 : x.k ≠ 1 := fun e => ho (xo e)
          have yo := n3 (by rw [← hk]; exact hk1)
          rw [optP_some ho, optP_some yo, List.singleton_append, List.singleton_append, List.cons_prefix_cons, txtP_inj, hk, map_prefix]
          simp [hb, hbb, ho]
      · simp [hb, hbb]
  · simp [hk]
/-- A key's bytes stand within the span of each that it begins with. -/
theorem span_within {x y : Ky} (hx : (spanR x).2 = 0) (hy : (keyR y).2 = 0) (nx : ∀ n ∈ x.ns, i64Ok n) (ny : ∀ n ∈ y.ns, i64Ok n) :
    (!Op.bytesLess (keyR y).1 (spanR x).1.1 && Op.bytesLess (keyR y).1 (spanR x).1.2) = decide (BegK x y) := by
  obtain ⟨_, _, _, _, ex⟩ := spanR_fine hx
  obtain ⟨_, _, _, _, ey⟩ := keyR_fine hy
  rw [ex, ey]
  have h := within_keys (partsK x) (partsK y) (fun p hp => ⟨right_partsK x p hp, ok_partsK x nx p hp⟩) (fun p hp => ⟨right_partsK y p hp, ok_partsK y ny p hp⟩)
  show (!Op.bytesLess (encB (partsK y)) (encB (partsK x)) && Op.bytesLess (encB (partsK y)) (encB (partsK x) ++ [255])) = _
  rw [h, Bool.eq_iff_iff, Bool.and_eq_true, decide_eq_true_eq, decide_eq_true_eq, decide_eq_true_eq, ← span_prefix hx hy, ← take_prefix]
  constructor
  · rintro ⟨h1, h2⟩; exact ⟨by omega, h2⟩
  · rintro ⟨h1, h2⟩; exact ⟨by omega, h2⟩
end Go.Proofs.YtaflpabpkpfifaaDoor

namespace Go.Proofs.YtaflpabpkpfifaaDoor
set_option maxRecDepth 100000
def KyOk (x : Ky) : Prop := (∀ n ∈ x.ns, i64Ok n) ∧ x.b.length ≤ 140737488355328 ∧ x.o.length ≤ 140737488355328
end Go.Proofs.YtaflpabpkpfifaaDoor
