/- Lists of entries: their order. No program stands here. -/
import Derived.Test.YtphdclafeijpnaaLsP
import Derived.Test.YtphdclafeijpnaaTPlain
namespace Go.Amb
set_option linter.unusedVariables false
/-- A name cut behind its first byte c, n bytes passed over; has it one? -/
def tr (c : UInt8) : Nat → Str → Str
  | _, [] => []
  | 0, b :: l => if b = c then [b] else b :: tr c 0 l
  | n + 1, b :: l => b :: tr c n l
def com (c : UInt8) : Nat → Str → Bool
  | _, [] => false
  | 0, b :: l => if b = c then true else com c 0 l
  | n + 1, b :: l => com c n l
theorem bl_nilR (x : Str) : Op.bytesLess x [] = false := by cases x <;> rfl
theorem bl_consL (a b : UInt8) (x y : Str) : Op.bytesLess (a :: x) (b :: y) = (decide (a < b) || (a == b && Op.bytesLess x y)) := rfl
theorem tr_mono (c : UInt8) : ∀ (n : Nat) (s t : Str), Op.bytesLess t s = false → Op.bytesLess (tr c n t) (tr c n s) = false
  | _, [], t, _ => by cases t <;> simp [tr, bl_nilR]
  | _, b :: l, [], h => by cases h
  | 0, b :: l, b' :: l', h => by
    rw [bl_consL, Bool.or_eq_false_iff, decide_eq_false_iff_not, Bool.and_eq_false_iff] at h
    unfold tr
    by_cases h1 : b = c <;> by_cases h2 : b' = c
    · rw [if_pos h1, if_pos h2, h1, h2, bl_consL]; simp [UInt8.lt_irrefl, Op.bytesLess]
    · rw [if_pos h1, if_neg h2, bl_consL, Bool.or_eq_false_iff, decide_eq_false_iff_not]
      refine ⟨h.1, ?_⟩
      have : (b' == b) = false := by rw [beq_eq_false_iff_ne]; exact fun e => h2 (e.trans h1)
      rw [this]; rfl
    · rw [if_neg h1, if_pos h2, bl_consL, Bool.or_eq_false_iff, decide_eq_false_iff_not]
      refine ⟨h.1, ?_⟩
      have : (b' == b) = false := by rw [beq_eq_false_iff_ne]; exact fun e => h1 (e ▸ h2)
      rw [this]; rfl
    · rw [if_neg h1, if_neg h2, bl_consL, Bool.or_eq_false_iff, decide_eq_false_iff_not]
      refine ⟨h.1, ?_⟩
      rcases h.2 with h3 | h3
      · rw [h3]; rfl
      · rw [tr_mono c 0 l l' h3, Bool.and_false]
  | n + 1, b :: l, b' :: l', h => by
    rw [bl_consL, Bool.or_eq_false_iff, decide_eq_false_iff_not, Bool.and_eq_false_iff] at h
    show Op.bytesLess (b' :: tr c n l') (b :: tr c n l) = false
    rw [bl_consL, Bool.or_eq_false_iff, decide_eq_false_iff_not]
    refine ⟨h.1, ?_⟩
    rcases h.2 with h3 | h3
    · rw [h3]; rfl
    · rw [tr_mono c n l l' h3, Bool.and_false]
theorem com_tr (c : UInt8) : ∀ (n : Nat) (s : Str), com c n (tr c n s) = com c n s
  | _, [] => by cases ‹Nat› <;> rfl
  | 0, b :: l => by
    unfold tr
    by_cases h : b = c
    · rw [if_pos h]; simp [com, h]
    · rw [if_neg h]; simp [com, h, com_tr c 0 l]
  | n + 1, b :: l => by
    show com c (n + 1) (b :: tr c n l) = _
    simp [com, com_tr c n l]
theorem tr_same (c : UInt8) : ∀ (n : Nat) (s : Str), com c n s = false → tr c n s = s
  | _, [], _ => by cases ‹Nat› <;> rfl
  | 0, b :: l, h => by
    unfold com at h
    by_cases h1 : b = c
    · rw [if_pos h1] at h; cases h
    · rw [if_neg h1] at h; unfold tr; rw [if_neg h1, tr_same c 0 l h]
  | n + 1, b :: l, h => by
    show b :: tr c n l = _
    rw [tr_same c n l h]
/-- What begins with a cut name is cut so. -/
theorem tr_of_begins (c : UInt8) : ∀ (n : Nat) (q s : Str), com c n q = true → s.take (tr c n q).length = tr c n q → tr c n s = tr c n q ∧ com c n s = true
  | _, [], s, h, _ => by cases ‹Nat› <;> cases h
  | 0, b :: l, s, h, hs => by
    unfold tr at hs ⊢
    by_cases h1 : b = c
    · rw [if_pos h1] at hs ⊢
      cases s with
      | nil => cases hs
      | cons b' s' =>
        obtain ⟨rfl, -⟩ := List.cons.inj hs
        simp [tr, com, h1]
    · rw [if_neg h1] at hs ⊢
      cases s with
      | nil => cases hs
      | cons b' s' =>
        rw [List.length_cons, List.take_succ_cons] at hs
        obtain ⟨rfl, hs'⟩ := List.cons.inj hs
        unfold com at h
        rw [if_neg h1] at h
        obtain ⟨e1, e2⟩ := tr_of_begins c 0 l s' h hs'
        simp [tr, com, h1, e1, e2]
  | n + 1, b :: l, s, h, hs => by
    change s.take (b :: tr c n l).length = b :: tr c n l at hs
    cases s with
    | nil => cases hs
    | cons b' s' =>
      rw [List.length_cons, List.take_succ_cons] at hs
      obtain ⟨rfl, hs'⟩ := List.cons.inj hs
      obtain ⟨e1, e2⟩ := tr_of_begins c n l s' h hs'
      exact ⟨by show b' :: tr c n s' = b' :: tr c n l; rw [e1], e2⟩
theorem tr_take (c : UInt8) : ∀ (n : Nat) (s : Str), s.take (tr c n s).length = tr c n s
  | _, [] => by cases ‹Nat› <;> rfl
  | 0, b :: l => by
    unfold tr
    by_cases h : b = c
    · rw [if_pos h]; rfl
    · rw [if_neg h, List.length_cons, List.take_succ_cons, tr_take c 0 l]
  | n + 1, b :: l => by
    show (b :: l).take (b :: tr c n l).length = b :: tr c n l
    rw [List.length_cons, List.take_succ_cons, tr_take c n l]
theorem tr_last (c : UInt8) : ∀ (n : Nat) (s : Str), com c n s = true → (tr c n s).getLast? = some c ∧ n < (tr c n s).length
  | _, [], h => by cases ‹Nat› <;> cases h
  | 0, b :: l, h => by
    unfold com at h; unfold tr
    by_cases h1 : b = c
    · rw [if_pos h1, h1]; exact ⟨rfl, by simp⟩
    · rw [if_neg h1] at h ⊢
      obtain ⟨e1, e2⟩ := tr_last c 0 l h
      refine ⟨?_, by simp⟩
      cases hl : tr c 0 l with
      | nil => rw [hl] at e2; simp at e2
      | cons x y => rw [hl] at e1; rw [List.getLast?_cons_cons]; exact e1
  | n + 1, b :: l, h => by
    obtain ⟨e1, e2⟩ := tr_last c n l h
    show (b :: tr c n l).getLast? = _ ∧ n + 1 < (b :: tr c n l).length
    refine ⟨?_, by simp; omega⟩
    cases hl : tr c n l with
    | nil => rw [hl] at e2; simp at e2
    | cons x y => rw [hl] at e1; rw [List.getLast?_cons_cons]; exact e1
theorem find_tr (c : UInt8) : ∀ (n : Nat) (s : Str), (match (s.drop n).findIdx? (· == c) with | some i => (s.take (n + i + 1), true) | none => (s, false)) = (tr c n s, com c n s)
  | n, [] => by cases n <;> simp [tr, com]
  | 0, b :: l => by
    have ih := find_tr c 0 l
    rw [List.drop_zero] at ih ⊢
    rw [List.findIdx?_cons]
    by_cases h : b = c
    · simp [h, tr, com]
    · have h' : (b == c) = false := by simp [h]
      simp only [h', Bool.false_eq_true, if_false]
      cases hf : l.findIdx? (· == c) with
      | none => rw [hf] at ih; simp only [Option.map_none, tr, com, if_neg h]; simp only at ih; rw [← (Prod.mk.inj ih).1, ← (Prod.mk.inj ih).2]
      | some i =>
        rw [hf] at ih
        simp only [Option.map_some, tr, com, if_neg h]
        simp only at ih
        rw [← (Prod.mk.inj ih).1, ← (Prod.mk.inj ih).2]
        simp only [Nat.zero_add]
        rw [List.take_succ_cons]
  | n + 1, b :: l => by
    have ih := find_tr c n l
    rw [List.drop_succ_cons]
    cases hf : (l.drop n).findIdx? (· == c) with
    | none => rw [hf] at ih; simp only [tr, com]; simp only at ih; rw [← (Prod.mk.inj ih).1, ← (Prod.mk.inj ih).2]
    | some i =>
      rw [hf] at ih
      simp only [tr, com]
      simp only at ih
      rw [← (Prod.mk.inj ih).1, ← (Prod.mk.inj ih).2]
      rw [show n + 1 + i + 1 = (n + i + 1) + 1 by omega, List.take_succ_cons]
theorem entOf_tr (s p : Str) (c : UInt8) : entOf s p [c] = (tr c p.length s, com c p.length s) := find_tr c p.length s
end Go.Amb
