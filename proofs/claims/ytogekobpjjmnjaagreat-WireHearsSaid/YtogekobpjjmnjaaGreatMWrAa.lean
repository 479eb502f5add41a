/- What the reference's Read tells, in plain Lean: small, few parts, the id's bounds; it is the program's. -/
import Derived.Test.YtogekobpjjmnjaaGreatMWrY
import Derived.Test.YtogekobpjjmnjaaGreatMWrM
namespace Go.Proofs.YtogekobpjjmnjaaGreat
open Go.RowKit Go.Amb
set_option linter.unusedVariables false
set_option linter.unusedSimpArgs false
set_option maxRecDepth 100000
theorem rdTxt_len (s : List UInt8) (a : Nat) (e : Int) (m : Nat) : (rdTxt s a e m).2.2.length ≤ s.length := by
  unfold rdTxt
  split
  · show ((s.drop _).take _).length ≤ _
    rw [List.length_take, List.length_drop]; omega
  · exact Nat.zero_le _
theorem rdTxt_le {s : List UInt8} {a : Nat} (e : Int) {m : Nat} (hm : m ≤ 4) (h : a ≤ s.length) : (rdTxt s a e m).1 ≤ s.length := by
  obtain ⟨z, hz, hz2⟩ := rdNum_nat s a e m hm
  have hle := rdNum_le (e := e) (m := m) h
  unfold rdTxt
  rw [hz, Int.toNat_natCast]
  split
  · rename_i hc
    show _ + _ ≤ _
    omega
  · exact hle
theorem getR_kind (s : List UInt8) (c : UInt8) (x : Rq × Nat × Int) : (getR s c x).1.kind = x.1.kind := by
  unfold getR
  repeat' (first | rfl | exact getQ_kind s c x | refine hit3 (Q := fun y => y.1.kind = x.1.kind) _ ?_ ?_)
theorem getR_parts (s : List UInt8) (c : UInt8) (x : Rq × Nat × Int) : (getR s c x).1.parts.length ≤ x.1.parts.length + 256 := by
  unfold getR
  repeat' (first | exact getQ_parts s c x | exact Nat.le_add_right _ _ | refine hit3 (Q := fun y => y.1.parts.length ≤ x.1.parts.length + 256) _ ?_ ?_)
theorem getR_small {s : List UInt8} (hs : s.length ≤ 140737488355328) (c : UInt8) (x : Rq × Nat × Int) (h : smallQ x.1) : smallQ (getR s c x).1 := by
  have g := getQ_small s c x h
  have m : ∀ m, (rdTxt s x.2.1 x.2.2 m).2.2.length ≤ maxLen := fun m => by have := rdTxt_len s x.2.1 x.2.2 m; unfold maxLen; omega
  have m1 := m 1
  have m2 := m 2
  obtain ⟨h1, h2, h3, h4, h5, h6⟩ := h
  unfold getR
  repeat' (first | exact g | exact ⟨m1, h2, h3, h4, h5, h6⟩ | exact ⟨h1, m1, h3, h4, h5, h6⟩ | exact ⟨h1, h2, m1, h4, h5, h6⟩ | exact ⟨h1, h2, h3, m1, h5, h6⟩ | exact ⟨h1, h2, h3, h4, m1, h6⟩ | exact ⟨h1, h2, h3, h4, h5, m2⟩ | refine hit3 (Q := fun y => smallQ y.1) _ ?_ ?_)
theorem getR_id (s : List UInt8) (c : UInt8) (x : Rq × Nat × Int) (h : idOk x.1) : idOk (getR s c x).1 := by
  unfold getR
  repeat' (first | exact getQ_id s c x h | exact h | refine hit3 (Q := fun y => idOk y.1) _ ?_ ?_)
theorem getAllR_parts (s : List UInt8) : ∀ (l : List UInt8) (x : Rq × Nat × Int), (getAllR s l x).1.parts.length ≤ x.1.parts.length + 256 * l.length
  | [], x => Nat.le_add_right _ _
  | c :: l, x => by
    have h1 := getAllR_parts s l (getR s c x)
    have h2 := getR_parts s c x
    rw [List.length_cons]
    show (getAllR s l (getR s c x)).1.parts.length ≤ _
    omega
theorem getAllR_small {s : List UInt8} (hs : s.length ≤ 140737488355328) : ∀ (l : List UInt8) (x : Rq × Nat × Int), smallQ x.1 → smallQ (getAllR s l x).1
  | [], x, h => h
  | c :: l, x, h => getAllR_small hs l (getR s c x) (getR_small hs c x h)
theorem getAllR_id (s : List UInt8) : ∀ (l : List UInt8) (x : Rq × Nat × Int), idOk x.1 → idOk (getAllR s l x).1
  | [], x, h => h
  | c :: l, x, h => getAllR_id s l (getR s c x) (getR_id s c x h)
def readR (s : List UInt8) : Option Rq := if rdEnd s (lastR s).2.1 (lastR s).2.2 = 0 ∧ rightQ (lastR s).1 ∧ putQ (lastR s).1 = s then some (lastR s).1 else none
theorem rdEnd_zero {s : List UInt8} {a : Nat} {e : Int} (h : rdEnd s a e = 0) : e = 0 ∧ s.length ≤ a := by
  unfold rdEnd at h
  by_cases he : e = 0
  · rw [if_pos he] at h
    by_cases hl : a < s.length
    · rw [if_pos hl] at h; cases h
    · exact ⟨he, by omega⟩
  · rw [if_neg he] at h; exact absurd h he
/-- The reference reads what the program reads. -/
theorem readR_eq (s : List UInt8) : readR s = readQ s := by
  have h := lastR_as s
  cases hq : readQ s with
  | some q =>
    obtain ⟨h1, h2, a, h3, h4⟩ := readQ_some hq
    rw [h3] at h
    rcases h with ⟨h, -, -⟩ | ⟨h, -⟩
    · unfold readR
      rw [← h]
      subst h4
      exact if_pos ⟨by unfold rdEnd; rw [if_pos rfl, if_neg (Nat.lt_irrefl _)], h2, h1⟩
    · exact absurd rfl h
  | none =>
    unfold readR
    by_cases hc : rdEnd s (lastR s).2.1 (lastR s).2.2 = 0 ∧ rightQ (lastR s).1 ∧ putQ (lastR s).1 = s
    · exfalso
      obtain ⟨h1, h2, h3⟩ := hc
      rcases h with ⟨h, -, -⟩ | ⟨-, h⟩
      · unfold readQ at hq
        rw [h, if_pos ⟨h1, h2⟩] at hq
        cases hq
      · exact h (rdEnd_zero h1).1
    · exact if_neg hc
end Go.Proofs.YtogekobpjjmnjaaGreat
