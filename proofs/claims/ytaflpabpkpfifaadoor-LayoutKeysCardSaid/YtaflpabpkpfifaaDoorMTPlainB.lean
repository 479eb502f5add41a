/- Plain laws on keys: which bytes begin others; what stands within a range. -/
import Derived.Test.YtaflpabpkpfifaaDoorMFPlain
import Derived.Test.YtaflpabpkpfifaaDoorMTB
import Derived.Test.YtaflpabpkpfifaaDoorMTF
namespace Go.Amb
open Go.RowKit

theorem partB_cancel (p q : Part) (x y : List UInt8) (hp : rightP p = true ∧ numOk p) (hq : rightP q = true ∧ numOk q) (h : partB p ++ x = partB q ++ y) : p = q ∧ x = y := by
  have h1 := partB_less p q x y hp.1 hq.1 hp.2 hq.2
  have h2 := partB_less q p y x hq.1 hp.1 hq.2 hp.2
  rw [h, bytesLess_irrefl] at h1 h2
  rw [cmpP_flip p q] at h2
  have h0 : cmpP p q = 0 := by
    by_cases h0 : cmpP p q = 0
    · exact h0
    · rw [if_neg h0] at h1
      rw [if_neg (by omega)] at h2
      have h1 := of_decide_eq_false h1.symm
      have h2 := of_decide_eq_false h2.symm
      omega
  have e := (cmpP_zero hp.1 hq.1).1 h0
  subst e
  exact ⟨rfl, List.append_cancel_left h⟩
theorem encB_prefix (a b : List Part) (r : List UInt8) (ha : ∀ p ∈ a, rightP p = true ∧ numOk p) (hb : ∀ p ∈ b, rightP p = true ∧ numOk p) (h : encB b = encB a ++ r) : ∃ c, b = a ++ c ∧ r = encB c := by
  induction a generalizing b with
  | nil => exact ⟨b, rfl, by simpa [encB_nil] using h.symm⟩
  | cons p a ih =>
    cases b with
    | nil =>
      rw [encB_nil, encB_cons] at h
      have := congrArg List.length h
      have hne := partB_ne p
      cases hp : partB p with
      | nil => exact absurd hp hne
      | cons u v => rw [hp] at this; simp at this
    | cons q b =>
      rw [encB_cons, encB_cons, List.append_assoc] at h
      obtain ⟨e1, e2⟩ := partB_cancel q p _ _ (hb q (List.mem_cons_self ..)) (ha p (List.mem_cons_self ..)) h
      subst e1
      obtain ⟨c, e3, e4⟩ := ih b (fun x hx => ha x (List.mem_cons_of_mem _ hx)) (fun x hx => hb x (List.mem_cons_of_mem _ hx)) e2
      exact ⟨c, by rw [e3]; rfl, e4⟩
theorem within_iff (s t : List UInt8) : (!Op.bytesLess t s && Op.bytesLess t (s ++ [255])) = true ↔ ∃ r, t = s ++ r ∧ (r = [] ∨ ∃ b r', r = b :: r' ∧ b < 255) := by
  induction s generalizing t with
  | nil =>
    rw [bl_nil]
    constructor
    · intro h
      refine ⟨t, rfl, ?_⟩
      cases t with
      | nil => exact .inl rfl
      | cons b t =>
        right
        refine ⟨b, t, rfl, ?_⟩
        simp [bl_cons, bl_nil] at h
        exact h
    · rintro ⟨r, rfl, rfl | ⟨b, r', rfl, hb⟩⟩
      · rfl
      · simp [bl_cons, hb]
  | cons c s ih =>
    cases t with
    | nil =>
      constructor
      · intro h; simp [bl_nil_cons] at h
      · rintro ⟨r, h, _⟩; cases h
    | cons d t =>
      by_cases hcd : d = c
      · subst hcd
        rw [List.cons_append, bl_same, bl_same, ih]
        constructor
        · rintro ⟨r, rfl, h⟩; exact ⟨r, rfl, h⟩
        · rintro ⟨r, h, h'⟩; injection h with _ h; exact ⟨r, h, h'⟩
      · rw [List.cons_append, bl_ne hcd, bl_ne hcd]
        constructor
        · intro h; cases hd : decide (d < c) <;> rw [hd] at h <;> simp at h
        · rintro ⟨r, h, _⟩; injection h with h _; exact absurd h hcd
theorem partB_head (p : Part) : ∃ b r, partB p = b :: r ∧ b < 255 := by
  unfold partB
  split
  · exact ⟨3, _, rfl, by decide⟩
  · split
    · exact ⟨4, _, rfl, by decide⟩
    · exact ⟨2, _, rfl, by decide⟩
theorem within_keys (a b : List Part) (ha : ∀ p ∈ a, rightP p = true ∧ numOk p) (hb : ∀ p ∈ b, rightP p = true ∧ numOk p) :
    (!Op.bytesLess (encB b) (encB a) && Op.bytesLess (encB b) (encB a ++ [255])) = (decide ((a.length : Int) ≤ b.length) && decide (a = b.take a.length)) := by
  rw [Bool.eq_iff_iff, within_iff]
  constructor
  · rintro ⟨r, h, _⟩
    obtain ⟨c, rfl, _⟩ := encB_prefix a b r ha hb h
    simp; omega
  · intro h
    simp only [Bool.and_eq_true, decide_eq_true_eq] at h
    have e : b = a ++ b.drop a.length := by
      conv => lhs; rw [← List.take_append_drop a.length b, ← h.2]
    refine ⟨encB (b.drop a.length), by conv => lhs; rw [e, encB_append], ?_⟩
    cases hd : b.drop a.length with
    | nil => exact .inl rfl
    | cons q c =>
      obtain ⟨u, r, hu, hlt⟩ := partB_head q
      exact .inr ⟨u, r ++ encB c, by rw [encB_cons, hu]; rfl, hlt⟩
end Go.Amb

namespace Go.Proofs.YtaflpabpkpfifaaDoor
set_option maxRecDepth 100000
open Go.RowKit Go.Amb

/-- A number's eight bytes, each of them turned by a mask. -/
def rdN (mask : UInt8) (l : List UInt8) : Int := numL (l.map (· ^^^ mask)) - 9223372036854775808
/-- A text's bytes behind its mark: the text, and how many bytes it has. -/
def textR : List UInt8 → List UInt8 → Nat → Option (List UInt8 × Nat)
  | _, [], _ => none
  | t, b :: r, i => if b ≠ 0 then textR (t ++ [b]) r (i + 1) else
    match r with
    | [] => none
    | c :: r => if c = 1 then some (t, i + 2) else if c = 255 then textR (t ++ [0]) r (i + 2) else none
/-- The part with which bytes begin, and how many it has. -/
def firstR : List UInt8 → Option (Part × Nat)
  | [] => none
  | b :: r => if b = 3 then (if r.length < 8 then none else some (⟨2, rdN 0 (r.take 8), []⟩, 9))
    else if b = 4 then (if r.length < 8 then none else some (⟨3, rdN 255 (r.take 8), []⟩, 9))
    else if b = 2 then (textR [] r 1).map fun x => (⟨1, 0, x.1⟩, x.2) else none
theorem firstR_cons (b : UInt8) (r : List UInt8) : firstR (b :: r) = if b = 3 then (if r.length < 8 then none else some (⟨2, rdN 0 (r.take 8), []⟩, 9))
    else if b = 4 then (if r.length < 8 then none else some (⟨3, rdN 255 (r.take 8), []⟩, 9))
    else if b = 2 then (textR [] r 1).map fun x => (⟨1, 0, x.1⟩, x.2) else none := rfl
theorem textR_nil (t : List UInt8) (i : Nat) : textR t [] i = none := by rw [textR.eq_def]
theorem textR_ne {b : UInt8} (h : b ≠ 0) (t r : List UInt8) (i : Nat) : textR t (b :: r) i = textR (t ++ [b]) r (i + 1) := by rw [textR.eq_def]; simp [h]
theorem textR_0 (t : List UInt8) (i : Nat) : textR t [0] i = none := by rw [textR.eq_def]; simp
theorem textR_01 (t r : List UInt8) (i : Nat) : textR t (0 :: 1 :: r) i = some (t, i + 2) := by rw [textR.eq_def]; simp
theorem textR_0f (t r : List UInt8) (i : Nat) : textR t (0 :: 255 :: r) i = textR (t ++ [0]) r (i + 2) := by rw [textR.eq_def]; simp
theorem textR_0x {c : UInt8} (h1 : c ≠ 1) (h2 : c ≠ 255) (t r : List UInt8) (i : Nat) : textR t (0 :: c :: r) i = none := by rw [textR.eq_def]; simp [h1, h2]
theorem textR_gt : ∀ (n : Nat) (r t : List UInt8) (i : Nat) (x : List UInt8 × Nat), r.length ≤ n → textR t r i = some x → i + 2 ≤ x.2 ∧ x.2 ≤ i + r.length := by
  intro n
  induction n with
  | zero =>
    intro r t i x hr h
    have : r = [] := List.eq_nil_of_length_eq_zero (by omega)
    subst this
    rw [textR_nil] at h; cases h
  | succ n ih =>
    intro r t i x hr h
    cases r with
    | nil => rw [textR_nil] at h; cases h
    | cons b r =>
      by_cases hb : b = 0
      · subst hb
        cases r with
        | nil => rw [textR_0] at h; cases h
        | cons c r =>
          by_cases h1 : c = 1
          · subst h1
            rw [textR_01] at h
            injection h with h
            subst h
            simp only [List.length_cons]; omega
          · by_cases h2 : c = 255
            · subst h2
              rw [textR_0f] at h
              have := ih r _ _ x (by simp at hr; omega) h
              simp only [List.length_cons]; omega
            · rw [textR_0x h1 h2] at h; cases h
      · rw [textR_ne hb] at h
        have := ih r _ _ x (by simpa using hr) h
        simp only [List.length_cons]; omega
theorem firstR_gt {s : List UInt8} {p : Part} {k : Nat} (h : firstR s = some (p, k)) : 1 ≤ k ∧ k ≤ s.length := by
  cases s with
  | nil => cases h
  | cons b r =>
    rw [firstR_cons] at h
    by_cases h3 : b = 3
    · rw [if_pos h3] at h
      by_cases hl : r.length < 8
      · rw [if_pos hl] at h; cases h
      · rw [if_neg hl] at h
        injection h with h
        injection h with _ h
        subst h
        simp only [List.length_cons]; omega
    · rw [if_neg h3] at h
      by_cases h4 : b = 4
      · rw [if_pos h4] at h
        by_cases hl : r.length < 8
        · rw [if_pos hl] at h; cases h
        · rw [if_neg hl] at h
          injection h with h
          injection h with _ h
          subst h
          simp only [List.length_cons]; omega
      · rw [if_neg h4] at h
        by_cases h2 : b = 2
        · rw [if_pos h2, Option.map_eq_some_iff] at h
          obtain ⟨x, hx, h⟩ := h
          have := textR_gt r.length r [] 1 x (Nat.le_refl _) hx
          injection h with _ h
          subst h
          simp only [List.length_cons]; omega
        · rw [if_neg h2] at h; cases h
/-- The parts of bytes. -/
def decF : Nat → List UInt8 → Option (List Part)
  | 0, _ => none
  | n + 1, s => if s = [] then some [] else match firstR s with
    | none => none
    | some (p, k) => (decF n (s.drop k)).map (p :: ·)
theorem decF_fuel : ∀ (n m : Nat) (s : List UInt8), s.length < n → s.length < m → decF n s = decF m s := by
  intro n
  induction n with
  | zero => intro m s h; omega
  | succ n ih =>
    intro m s h1 h2
    cases m with
    | zero => omega
    | succ m =>
      unfold decF
      split
      · rfl
      · cases hf : firstR s with
        | none => rfl
        | some x =>
          obtain ⟨p, k⟩ := x
          have := firstR_gt hf
          simp only
          rw [ih m (s.drop k) (by simp; omega) (by simp; omega)]
def decL (s : List UInt8) : Option (List Part) := decF (s.length + 1) s
theorem decL_nil : decL [] = some [] := rfl
theorem decL_step {s : List UInt8} (h : s ≠ []) : decL s = match firstR s with
    | none => none
    | some (p, k) => (decL (s.drop k)).map (p :: ·) := by
  unfold decL
  rw [decF, if_neg h]
  cases hf : firstR s with
  | none => rfl
  | some x =>
    obtain ⟨p, k⟩ := x
    have := firstR_gt hf
    simp only
    rw [decF_fuel s.length ((s.drop k).length + 1) (s.drop k) (by simp; omega) (by omega)]

/-! ### There and back -/
theorem textR_esc (s : List UInt8) : ∀ (t x : List UInt8) (i : Nat), textR t (esc s ++ ([0, 1] ++ x)) i = some (t ++ s, i + (esc s).length + 2) := by
  induction s with
  | nil => intro t x i; show textR t (0 :: 1 :: x) i = _; rw [textR_01]; simp [esc_nil]
  | cons b s ih =>
    intro t x i
    rw [esc_cons]
    by_cases hb : b = 0
    · subst hb
      simp only [if_true, List.cons_append, List.nil_append]
      rw [textR_0f]
      have := ih (t ++ [0]) x (i + 2)
      simp only [List.cons_append, List.nil_append] at this
      rw [this]
      simp
      omega
    · simp only [if_neg hb, List.cons_append, List.nil_append]
      rw [textR_ne hb]
      have := ih (t ++ [b]) x (i + 1)
      simp only [List.cons_append, List.nil_append] at this
      rw [this]
      simp
      omega
theorem numL_fld_in (U : Int) (h0 : 0 ≤ U) (h1 : U < 18446744073709551616) : numL (fld U 8) = U := by
  rw [numL_fld]
  have : (256 : Int) ^ 8 = 18446744073709551616 := by decide
  rw [this]
  omega
theorem firstR_part (p : Part) (x : List UInt8) (hr : rightP p = true) (hn : numOk p) : firstR (partB p ++ x) = some (p, (partB p).length) := by
  obtain ⟨k, n, s⟩ := p
  unfold numOk at hn
  simp only at hn
  rcases rightP_kind hr with ⟨h1, h2⟩ | ⟨h1, h2⟩ | ⟨h1, h2⟩ <;> simp only at h1 h2 <;> subst h1 <;> subst h2
  · have e : partB ⟨1, 0, s⟩ = 2 :: (esc s ++ [0, 1]) := by simp [partB]
    rw [e, List.cons_append, List.append_assoc]
    rw [firstR_cons, if_neg (by decide), if_neg (by decide), if_pos rfl, textR_esc]
    simp
    omega
  · have e : partB ⟨2, n, []⟩ = 3 :: fld (n + 9223372036854775808) 8 := by simp [partB]
    rw [e, List.cons_append]
    rw [firstR_cons]
    have hl := fld_length (n + 9223372036854775808) 8
    rw [if_pos rfl, if_neg (by rw [List.length_append]; omega), List.take_append_of_le_length (by omega), List.take_of_length_le (by omega)]
    have e2 : rdN 0 (fld (n + 9223372036854775808) 8) = n := by
      unfold rdN
      have : (fld (n + 9223372036854775808) 8).map (· ^^^ (0 : UInt8)) = fld (n + 9223372036854775808) 8 := by
        conv => rhs; rw [← List.map_id (fld (n + 9223372036854775808) 8)]
        exact List.map_congr_left fun b _ => by simp
      rw [this, numL_fld_in _ (by omega) (by omega)]
      omega
    rw [e2]
    simp [hl]
  · have e : partB ⟨3, n, []⟩ = 4 :: fld (9223372036854775807 - n) 8 := by simp [partB]
    rw [e, List.cons_append]
    rw [firstR_cons]
    have hl := fld_length (9223372036854775807 - n) 8
    rw [if_neg (by decide), if_pos rfl, if_neg (by rw [List.length_append]; omega), List.take_append_of_le_length (by omega), List.take_of_length_le (by omega)]
    have e2 : rdN 255 (fld (9223372036854775807 - n) 8) = n := by
      unfold rdN
      have : (fld (9223372036854775807 - n) 8).map (· ^^^ (255 : UInt8)) = fld (n + 9223372036854775808) 8 := by
        have h1 := numBy_down (-1 - n)
        unfold numBy at h1
        rw [show -1 - n + 9223372036854775808 = 9223372036854775807 - n by omega, show 9223372036854775807 - (-1 - n) = n + 9223372036854775808 by omega] at h1
        exact h1
      rw [this, numL_fld_in _ (by omega) (by omega)]
      omega
    rw [e2]
    simp [hl]
theorem decL_enc (l : List Part) (h : ∀ p ∈ l, rightP p = true ∧ numOk p) : decL (encB l) = some l := by
  induction l with
  | nil => rfl
  | cons p l ih =>
    obtain ⟨h1, h2⟩ := h p (List.mem_cons_self ..)
    have hne : partB p ++ encB l ≠ [] := by
      intro e
      exact partB_ne p (List.append_eq_nil_iff.1 e).1
    rw [encB_cons, decL_step hne, firstR_part p _ h1 h2]
    simp only [List.drop_left]
    rw [ih fun q hq => h q (List.mem_cons_of_mem _ hq)]
    rfl
theorem textR_back : ∀ (n : Nat) (r t : List UInt8) (i : Nat) (x : List UInt8) (k : Nat), r.length ≤ n → textR t r i = some (x, k) → ∃ u, x = t ++ u ∧ r.take (k - i) = esc u ++ [0, 1] := by
  intro n
  induction n with
  | zero =>
    intro r t i x k hr h
    have : r = [] := List.eq_nil_of_length_eq_zero (by omega)
    subst this
    rw [textR_nil] at h; cases h
  | succ n ih =>
    intro r t i x k hr h
    have hg := textR_gt _ r t i (x, k) (Nat.le_refl _) h
    simp only at hg
    cases r with
    | nil => rw [textR_nil] at h; cases h
    | cons b r =>
      by_cases hb : b = 0
      · subst hb
        cases r with
        | nil => rw [textR_0] at h; cases h
        | cons c r =>
          by_cases h1 : c = 1
          · subst h1
            rw [textR_01] at h
            injection h with h
            injection h with e1 e2
            subst e1; subst e2
            refine ⟨[], by simp, ?_⟩
            rw [show i + 2 - i = 2 by omega]
            rfl
          · by_cases h2 : c = 255
            · subst h2
              rw [textR_0f] at h
              have hg2 := textR_gt _ r _ _ (x, k) (Nat.le_refl _) h
              simp only at hg2
              obtain ⟨u, e1, e2⟩ := ih r _ _ x k (by simp at hr; omega) h
              refine ⟨0 :: u, by rw [e1]; simp, ?_⟩
              rw [esc_cons, if_pos rfl, show k - i = (k - (i + 2)) + 1 + 1 by omega, List.take_succ_cons, List.take_succ_cons, e2]
              rfl
            · rw [textR_0x h1 h2] at h; cases h
      · rw [textR_ne hb] at h
        have hg2 := textR_gt _ r _ _ (x, k) (Nat.le_refl _) h
        simp only at hg2
        obtain ⟨u, e1, e2⟩ := ih r _ _ x k (by simpa using hr) h
        refine ⟨b :: u, by rw [e1]; simp, ?_⟩
        rw [esc_cons, if_neg hb, show k - i = (k - (i + 1)) + 1 by omega, List.take_succ_cons, e2]
        rfl
theorem rdN_ok (m : UInt8) (l : List UInt8) (h : l.length = 8) : -9223372036854775808 ≤ rdN m l ∧ rdN m l ≤ 9223372036854775807 := by
  unfold rdN
  have h0 := numL_nonneg (l.map (· ^^^ m))
  have h1 := numL_lt (l.map (· ^^^ m))
  have : (256 : Int) ^ (l.map (· ^^^ m)).length = 18446744073709551616 := by rw [List.length_map, h]; rfl
  omega
theorem firstR_back {s : List UInt8} {p : Part} {k : Nat} (h : firstR s = some (p, k)) : rightP p = true ∧ numOk p ∧ s.take k = partB p ∧ p.s.length ≤ s.length := by
  cases s with
  | nil => cases h
  | cons b r =>
    rw [firstR_cons] at h
    by_cases h3 : b = 3
    · subst h3
      rw [if_pos rfl] at h
      by_cases hl : r.length < 8
      · rw [if_pos hl] at h; cases h
      · rw [if_neg hl] at h
        injection h with h
        injection h with e1 e2
        subst e1; subst e2
        have hl8 : (r.take 8).length = 8 := by simp; omega
        refine ⟨by simp [rightP], rdN_ok _ _ hl8, ?_, by simp⟩
        have e : partB ⟨2, rdN 0 (r.take 8), []⟩ = 3 :: fld (rdN 0 (r.take 8) + 9223372036854775808) 8 := by simp [partB]
        rw [e]
        show 3 :: r.take 8 = _
        congr 1
        have e2 : rdN 0 (r.take 8) + 9223372036854775808 = numL (r.take 8) := by
          unfold rdN
          have : (r.take 8).map (· ^^^ (0 : UInt8)) = r.take 8 := by
            conv => rhs; rw [← List.map_id (r.take 8)]
            exact List.map_congr_left fun b _ => by simp
          rw [this]; omega
        rw [e2]
        have := fld_numL (r.take 8)
        rw [hl8] at this
        exact this.symm
    · rw [if_neg h3] at h
      by_cases h4 : b = 4
      · subst h4
        rw [if_pos rfl] at h
        by_cases hl : r.length < 8
        · rw [if_pos hl] at h; cases h
        · rw [if_neg hl] at h
          injection h with h
          injection h with e1 e2
          subst e1; subst e2
          have hl8 : (r.take 8).length = 8 := by simp; omega
          refine ⟨by simp [rightP], rdN_ok _ _ hl8, ?_, by simp⟩
          have e : partB ⟨3, rdN 255 (r.take 8), []⟩ = 4 :: fld (9223372036854775807 - rdN 255 (r.take 8)) 8 := by simp [partB]
          rw [e]
          show 4 :: r.take 8 = _
          congr 1
          have h1 := numBy_down (rdN 255 (r.take 8))
          rw [← h1]
          unfold numBy
          have e2 : rdN 255 (r.take 8) + 9223372036854775808 = numL ((r.take 8).map (· ^^^ (255 : UInt8))) := by unfold rdN; omega
          have e3 : fldTo (numL ((r.take 8).map (· ^^^ (255 : UInt8)))) 8 8 = (r.take 8).map (· ^^^ (255 : UInt8)) := by
            have := fld_numL ((r.take 8).map (· ^^^ (255 : UInt8)))
            rw [List.length_map, hl8] at this
            exact this
          rw [e2, e3, List.map_map]
          conv => lhs; rw [← List.map_id (r.take 8)]
          refine List.map_congr_left fun b _ => ?_
          show b = b ^^^ 255 ^^^ 255
          rw [UInt8.xor_assoc]; simp
      · rw [if_neg h4] at h
        by_cases h2 : b = 2
        · subst h2
          rw [if_pos rfl, Option.map_eq_some_iff] at h
          obtain ⟨⟨x, j⟩, hx, h⟩ := h
          injection h with e1 e2
          simp only at e1 e2
          subst e1; subst e2
          have hg := textR_gt _ r [] 1 (x, j) (Nat.le_refl _) hx
          obtain ⟨u, e1, e2⟩ := textR_back _ r [] 1 x j (Nat.le_refl _) hx
          simp only [List.nil_append] at e1
          subst e1
          have e : partB ⟨1, 0, x⟩ = 2 :: (esc x ++ [0, 1]) := by simp [partB]
          refine ⟨by simp [rightP], by unfold numOk; simp, ?_, ?_⟩
          · rw [e, show j = (j - 1) + 1 by simp only at hg; omega, List.take_succ_cons, e2]
          · have := congrArg List.length e2
            have hel := esc_length x
            simp only [List.length_take, List.length_append, List.length_cons, List.length_nil] at this
            simp only [List.length_cons]
            omega
        · rw [if_neg h2] at h; cases h
theorem decL_back : ∀ (n : Nat) (s : List UInt8) (m : List Part), s.length ≤ n → decL s = some m → encB m = s ∧ ∀ p ∈ m, rightP p = true ∧ numOk p ∧ p.s.length ≤ s.length := by
  intro n
  induction n with
  | zero =>
    intro s m hs h
    have : s = [] := List.eq_nil_of_length_eq_zero (by omega)
    subst this
    rw [decL_nil] at h
    injection h with h
    subst h
    exact ⟨rfl, fun p hp => by cases hp⟩
  | succ n ih =>
    intro s m hs h
    by_cases hn : s = []
    · subst hn
      rw [decL_nil] at h
      injection h with h
      subst h
      exact ⟨rfl, fun p hp => by cases hp⟩
    · rw [decL_step hn] at h
      cases hf : firstR s with
      | none => rw [hf] at h; cases h
      | some x =>
        obtain ⟨p, k⟩ := x
        rw [hf] at h
        simp only at h
        rw [Option.map_eq_some_iff] at h
        obtain ⟨m', hm', rfl⟩ := h
        have hg := firstR_gt hf
        obtain ⟨h1, h2, h3, h4⟩ := firstR_back hf
        obtain ⟨e1, e2⟩ := ih (s.drop k) m' (by simp; omega) hm'
        refine ⟨?_, fun q hq => ?_⟩
        · rw [encB_cons, e1, ← h3, List.take_append_drop]
        · rcases List.mem_cons.1 hq with rfl | hq
          · exact ⟨h1, h2, h4⟩
          · have := e2 q hq
            refine ⟨this.1, this.2.1, ?_⟩
            have := this.2.2
            simp at this
            omega
end Go.Proofs.YtaflpabpkpfifaaDoor

namespace Go.Proofs.YtaflpabpkpfifaaDoor
set_option maxRecDepth 100000
open Go.RowKit Go.Amb
set_option linter.unusedVariables false
attribute [local go_sem ↓] Go.wp_at_zero Go.wp_at_succ

theorem xor_u64_in (U : Int) (h0 : 0 ≤ U) (h1 : U < 18446744073709551616) : wrap64 (bits .xor .u64 U 9223372036854775808) = U - 9223372036854775808 := by
  obtain ⟨m, rfl⟩ := Int.eq_ofNat_of_zero_le h0
  have := bits_xor_u64_nat m 9223372036854775808 (by omega) (by decide)
  rw [show (9223372036854775808 : Int) = ((9223372036854775808 : Nat) : Int) by rfl, this, xor_top m (by omega)]
  simp only [wrap64]
  by_cases h : m < 9223372036854775808
  · rw [if_pos h]
    omega
  · rw [if_neg h]
    omega
theorem wrap_top (y : List UInt8) (h : y.length = 8) : wrap64 (numL (topT y)) = numL y - 9223372036854775808 := by
  match y, h with
  | b :: ys, h =>
    have hl : ys.length = 7 := by simpa using h
    have e1 : topT (b :: ys) = (b ^^^ 128) :: ys := rfl
    rw [e1, numL_cons, numL_cons, byte_top, hl]
    have h0 := numL_nonneg ys
    have h1 := numL_lt ys
    rw [hl] at h1
    have hb := b.toNat_lt
    have e2 : (256 : Int) ^ 7 = 72057594037927936 := by decide
    rw [e2] at *
    simp only [wrap64]
    omega
theorem downT_not (y : List UInt8) : downT y y.length = y.map (· ^^^ 255) := by
  unfold downT
  rw [List.take_length, List.drop_length, List.append_nil]
  refine List.map_congr_left fun b _ => ?_
  show 255 - b = b ^^^ 255
  have hb := b.toNat_lt
  rw [← UInt8.toNat_inj, byte_not, UInt8.toNat_sub_of_le _ _ (by rw [UInt8.le_iff_toNat_le]; show _ ≤ 255; omega)]
  rfl

set_option maxHeartbeats 1000000 in
theorem tRead (s : List UInt8) (mask : UInt8) (w : World) (hs : s.length = 8) : Calls Tryd.prog 61 #[.string ⟨s.toArray⟩, .int .u8 mask.toNat] w (Ret (.int .i64 (rdN mask s)) w) := by
  have hs' : s.length ≤ 1000 := by omega
  replace hs := Lib.hid hs
  go_enter Tryd.func61, Tryd.ntmps61
  go_wp2_with (refine wpList_tobytes rfl _ 9 86 5 rfl Tryd.underlying9 Tryd.underlying86 Tryd.underlying5 s rfl (by unfold maxLen; omega) ?_)
  intro c w1 hm
  have hcap := hm.cap
  have hmax := hm.max
  unfold maxLen at hmax
  have hu1 := Lib.hid hm.upd
  have hcell := Lib.hid hm.cell
  clear hm
  generalize hN : w.heap.size = N at *
  replace hN := Lib.hid hN
  go_wp2_with fail
  go_loop [5, 7, 11] (fun u _ i => ∃ (k : Nat) (z : Int), k ≤ s.length ∧ i = .int .i64 k ∧ u = .int .u64 z ∧ z = numL ((s.take k).map (· ^^^ mask))) (fun _ _ i => s.length - (intOf i).toNat)
  case atStart => exact ⟨0, 0, by omega, rfl, rfl, rfl⟩
  case round =>
    obtain ⟨k, z, hk, rfl, rfl, hz⟩ := hrel
    have h0 : 0 ≤ z := by rw [hz]; exact numL_nonneg _
    by_cases hlt : k < s.length
    · have hc := hcell.out k hlt
      have hx := xor_u8 s[k] mask
      have h1 : z < 256 ^ 7 := by rw [hz]; exact numL_lt_of (by have := hs.out; simp; omega)
      have hst := num_step z (s[k] ^^^ mask) h0 h1
      have ht : (s.take (k + 1)).map (· ^^^ mask) = (s.take k).map (· ^^^ mask) ++ [s[k] ^^^ mask] := by
        rw [take_snoc s k hlt, List.map_append]; exact rfl
      replace ht := Lib.hid ht
      replace hz := Lib.hid hz
      generalize s[k] ^^^ mask = b at *
      clear h1
      go_wp2_with fail
      go_round
      case rel => exact ⟨k + 1, z * 256 + b.toNat, by omega, by go_num, rfl, by rw [ht.out, numL_snoc, hz.out]⟩
      case measure => simp [intOf]; omega
    · obtain rfl : k = s.length := by omega
      rw [List.take_length] at hz
      have h1 := numL_lt (s.map (· ^^^ mask))
      rw [List.length_map, hs.out, ← hz] at h1
      have hx := xor_u64_in z h0 h1
      replace hx := Lib.hid hx
      replace hz := Lib.hid hz
      clear h1
      go_wp2_with fail
      go_ret
      refine ⟨?_, hu1.out⟩
      unfold rdN
      rw [← hz.out, ← hx.out]
      rfl
end Go.Proofs.YtaflpabpkpfifaaDoor
