/- Names and lists of them, in plain Lean. No program stands here. -/
import Derived.Test.YtaflpabpkpfifaaDoorLib
import Derived.Test.YtaflpabpkpfifaaDoorFPlain
namespace Go.Amb
set_option linter.unusedVariables false
abbrev Str := List UInt8
def txtV (s : Str) : Value := .string ⟨s.toArray⟩
theorem txt_one (l : List Str) : ∀ u ∈ l.map txtV, u.oneCell' = true := by
  intro u hu
  obtain ⟨_, _, rfl⟩ := List.mem_map.1 hu
  rfl
/-- A slice of texts. -/
abbrev Txts (w : World) (v : Value) (l : List Str) : Prop := Has w 1 v l.length (l.map txtV)
def plainB (c : UInt8) : Bool := decide ((97 ≤ c.toNat ∧ c.toNat ≤ 122) ∨ (48 ≤ c.toNat ∧ c.toNat ≤ 57))
def bkOk (s : Str) : Prop := 3 ≤ s.length ∧ s.length ≤ 12 ∧ ∀ i (h : i < s.length), plainB s[i] = true ∨ (s[i].toNat = 45 ∧ 0 < i ∧ i + 1 < s.length)
instance (s : Str) : Decidable (bkOk s) := by unfold bkOk; infer_instance
def bk (s : Str) : Int := if bkOk s then 0 else 15
def obOk (s : Str) : Prop := 1 ≤ s.length ∧ s.length ≤ 32 ∧ ∀ i (h : i < s.length), 33 ≤ s[i].toNat ∧ s[i].toNat ≤ 126
instance (s : Str) : Decidable (obOk s) := by unfold obOk; infer_instance
def obj (s : Str) : Int := if obOk s then 0 else 15
def ckOk (p d a : Str) (m : Int) : Prop := p.length ≤ 32 ∧ d.length ≤ 1 ∧ a.length ≤ 32 ∧ 1 ≤ m ∧ m ≤ 50
instance (p d a : Str) (m : Int) : Decidable (ckOk p d a m) := by unfold ckOk; infer_instance
def ck (p d a : Str) (m : Int) : Int := if ckOk p d a m then 0 else 2
def begins (s p : Str) : Bool := decide (p.length ≤ s.length ∧ s.take p.length = p)
/-- An entry: a text; is it a common prefix? -/
abbrev Ent := Str × Bool
def entOf (s p d : Str) : Ent :=
  match d with
  | [] => (s, false)
  | c :: _ => match (s.drop p.length).findIdx? (· == c) with
    | some i => (s.take (p.length + i + 1), true)
    | none => (s, false)
def entsFrom (p d a : Str) (last : Ent) : List Str → List Ent
  | [] => []
  | s :: r => if begins s p = false ∨ Op.bytesLess a (entOf s p d).1 = false ∨ entOf s p d = last then entsFrom p d a last r else entOf s p d :: entsFrom p d a (entOf s p d) r
/-- The entries of a list. -/
def ents (p d a : Str) (l : List Str) : List Ent := entsFrom p d a (a, false) l
def namesOf (l : List Ent) : List Str := (l.filter (!·.2)).map (·.1)
def prefsOf (l : List Ent) : List Str := (l.filter (·.2)).map (·.1)
/-- A page. -/
structure Pg where
  n : List Str
  p : List Str
  x : Str
  m : Bool
deriving DecidableEq
def pageOf (l : List Ent) (m : Nat) : Pg := ⟨namesOf (l.take m), prefsOf (l.take m), if m < l.length then (l.getD (m - 1) ([], false)).1 else [], decide (m < l.length)⟩
def Pg.none : Pg := ⟨[], [], [], false⟩
def rising (l : List Str) : Prop := ∀ i (h : i + 1 < l.length), Op.bytesLess l[i] l[i + 1] = true
instance (l : List Str) : Decidable (rising l) :=
  decidable_of_iff (∀ i (h : i < l.length - 1), Op.bytesLess (l[i]'(by omega)) (l[i + 1]'(by omega)) = true) ⟨fun h i hi => h i (by omega), fun h i hi => h i (by omega)⟩
def pageE (p d a : Str) (m : Int) (l : List Str) : Int := if ckOk p d a m then (if rising l then 0 else 4) else 2
def page (p d a : Str) (m : Int) (l : List Str) : Pg := if ckOk p d a m ∧ rising l then pageOf (ents p d a l) m.toNat else Pg.none

theorem namesOf_snoc (l : List Ent) (x : Ent) : namesOf (l ++ [x]) = namesOf l ++ (if x.2 then [] else [x.1]) := by
  unfold namesOf; rw [List.filter_append, List.map_append]; cases h : x.2 <;> simp [h]
theorem prefsOf_snoc (l : List Ent) (x : Ent) : prefsOf (l ++ [x]) = prefsOf l ++ (if x.2 then [x.1] else []) := by
  unfold prefsOf; rw [List.filter_append, List.map_append]; cases h : x.2 <;> simp [h]
theorem namesOf_le (l : List Ent) : (namesOf l).length ≤ l.length := by unfold namesOf; rw [List.length_map]; exact List.length_filter_le _ _
theorem prefsOf_le (l : List Ent) : (prefsOf l).length ≤ l.length := by unfold prefsOf; rw [List.length_map]; exact List.length_filter_le _ _
theorem entsFrom_le (p d a : Str) : ∀ (l : List Str) (last : Ent), (entsFrom p d a last l).length ≤ l.length
  | [], _ => Nat.le_refl _
  | s :: r, last => by
    unfold entsFrom
    split
    · exact Nat.le_succ_of_le (entsFrom_le p d a r last)
    · exact Nat.succ_le_succ (entsFrom_le p d a r _)
theorem less_ne {a b : Str} (h : Op.bytesLess a b = true) : a ≠ b := by rintro rfl; rw [bytesLess_irrefl] at h; cases h
/-- Where the first one ahead of all can be no entry. -/
theorem ents_first (p d a : Str) (last : Ent) (hl : Op.bytesLess a last.1 = false) : ∀ l : List Str, entsFrom p d a last l = ents p d a l
  | [] => rfl
  | s :: r => by
    have ih := ents_first p d a last hl r
    unfold ents at ih ⊢
    by_cases h : begins s p = false ∨ Op.bytesLess a (entOf s p d).1 = false
    · rw [entsFrom, entsFrom, if_pos (h.elim .inl fun h => .inr (.inl h)), if_pos (h.elim .inl fun h => .inr (.inl h)), ih]
    · have hb : Op.bytesLess a (entOf s p d).1 = true := by
        cases hh : Op.bytesLess a (entOf s p d).1 with
        | true => rfl
        | false => exact absurd (.inr hh) h
      have h1 : entOf s p d ≠ last := fun e => by rw [e, hl] at hb; cases hb
      have h2 : entOf s p d ≠ (a, false) := fun e => by rw [e, bytesLess_irrefl] at hb; cases hb
      rw [entsFrom, entsFrom, if_neg (by rintro (h' | h' | h'); exact h (.inl h'); exact h (.inr h'); exact h1 h'), if_neg (by rintro (h' | h' | h'); exact h (.inl h'); exact h (.inr h'); exact h2 h')]
end Go.Amb
