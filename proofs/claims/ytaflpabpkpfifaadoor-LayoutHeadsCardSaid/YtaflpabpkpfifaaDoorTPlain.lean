/- Plain laws on keys of several parts: their bytes, and how they stand. No program stands here. -/
import Derived.Test.YtaflpabpkpfifaaDoorFPlain
namespace Go.Amb
open Go.RowKit

/-- A part: its kind, number, text. -/
structure Part where
  k : Int
  n : Int
  s : List UInt8
deriving DecidableEq

def rightP (p : Part) : Bool := if p.k = 1 then decide (p.n = 0) else if p.k = 2 ∨ p.k = 3 then p.s.isEmpty else false
def esc (s : List UInt8) : List UInt8 := s.flatMap fun b => if b = 0 then [0, 255] else [b]
def partB (p : Part) : List UInt8 := if p.k = 2 then 3 :: fld (p.n + 9223372036854775808) 8 else if p.k = 3 then 4 :: fld (9223372036854775807 - p.n) 8 else 2 :: (esc p.s ++ [0, 1])
def encB (l : List Part) : List UInt8 := l.flatMap partB
/-- How many of its bytes are noughts. -/
def zeros (s : List UInt8) : Nat := (s.filter fun b => b = 0).length
def sizeP (p : Part) : Nat := if p.k = 1 then 3 + s0 p + zeros p.s else 9
where s0 (p : Part) : Nat := p.s.length

theorem esc_nil : esc [] = [] := rfl
theorem esc_cons (b : UInt8) (s : List UInt8) : esc (b :: s) = (if b = 0 then [0, 255] else [b]) ++ esc s := by simp [esc]
theorem esc_append (a b : List UInt8) : esc (a ++ b) = esc a ++ esc b := by simp [esc]
theorem esc_snoc (s : List UInt8) (b : UInt8) : esc (s ++ [b]) = esc s ++ (if b = 0 then [0, 255] else [b]) := by simp [esc]
theorem zeros_nil : zeros [] = 0 := rfl
theorem zeros_snoc (s : List UInt8) (b : UInt8) : zeros (s ++ [b]) = zeros s + if b = 0 then 1 else 0 := by
  unfold zeros; rw [List.filter_append]; by_cases h : b = 0 <;> simp [h]
theorem zeros_cons (b : UInt8) (s : List UInt8) : zeros (b :: s) = (if b = 0 then 1 else 0) + zeros s := by
  unfold zeros; by_cases h : b = 0 <;> simp [h]; omega
theorem zeros_le (s : List UInt8) : zeros s ≤ s.length := by unfold zeros; exact List.length_filter_le _ _
theorem esc_length (s : List UInt8) : (esc s).length = s.length + zeros s := by
  induction s with
  | nil => rfl
  | cons b s ih => rw [esc_cons, zeros_cons, List.length_append, ih]; by_cases h : b = 0 <;> simp [h] <;> omega
theorem partB_length (p : Part) (h : rightP p = true) : (partB p).length = sizeP p := by
  unfold partB sizeP sizeP.s0
  by_cases h1 : p.k = 1
  · rw [if_neg (by omega), if_neg (by omega), if_pos h1]; simp [esc_length]; omega
  · by_cases h2 : p.k = 2
    · rw [if_pos h2, if_neg h1]; simp [fld_length]
    · have h3 : p.k = 3 := by
        unfold rightP at h; rw [if_neg h1] at h
        by_cases h3 : p.k = 3
        · exact h3
        · simp [h2, h3] at h
      rw [if_neg h2, if_pos h3, if_neg h1]; simp [fld_length]
theorem encB_cons (p : Part) (l : List Part) : encB (p :: l) = partB p ++ encB l := by simp [encB]
theorem encB_nil : encB [] = [] := rfl
theorem encB_append (a b : List Part) : encB (a ++ b) = encB a ++ encB b := by simp [encB]
theorem encB_snoc (l : List Part) (p : Part) : encB (l ++ [p]) = encB l ++ partB p := by simp [encB]

/-! ### The bytes stand in an order -/
theorem bl_cons (a b : UInt8) (x y : List UInt8) : Op.bytesLess (a :: x) (b :: y) = (decide (a < b) || (a == b && Op.bytesLess x y)) := rfl
theorem bl_same (a : UInt8) (x y : List UInt8) : Op.bytesLess (a :: x) (a :: y) = Op.bytesLess x y := by simp [bl_cons, UInt8.lt_irrefl]
theorem bl_ne {a b : UInt8} (h : a ≠ b) (x y : List UInt8) : Op.bytesLess (a :: x) (b :: y) = decide (a < b) := by simp [bl_cons, h]
theorem bl_nil_cons (b : UInt8) (y : List UInt8) : Op.bytesLess [] (b :: y) = true := rfl
theorem bl_nil (x : List UInt8) : Op.bytesLess x [] = false := by cases x <;> rfl
theorem bl_common (l x y : List UInt8) : Op.bytesLess (l ++ x) (l ++ y) = Op.bytesLess x y := by
  induction l with
  | nil => rfl
  | cons b l ih => simp only [List.cons_append, bl_same, ih]
theorem bl_len (a b x y : List UInt8) (h : a.length = b.length) (hn : a ≠ b) : Op.bytesLess (a ++ x) (b ++ y) = Op.bytesLess a b := by
  induction a generalizing b with
  | nil => cases b with
    | nil => exact absurd rfl hn
    | cons => simp at h
  | cons u a ih => cases b with
    | nil => simp at h
    | cons v b =>
      simp only [List.cons_append]
      by_cases hu : u = v
      · subst hu
        rw [bl_same, bl_same]
        exact ih b (by simpa using h) fun e => hn (by rw [e])
      · rw [bl_ne hu, bl_ne hu]
theorem u8_pos {b : UInt8} (h : b ≠ 0) : 0 < b := by
  rw [UInt8.lt_iff_toNat_lt]
  have : b.toNat ≠ 0 := fun e => h (UInt8.toNat_inj.1 e)
  simp; omega
theorem u8_not_lt {b : UInt8} : ¬ b < 0 := by rw [UInt8.lt_iff_toNat_lt]; simp
theorem esc_less (s t x y : List UInt8) : Op.bytesLess (esc s ++ ([0, 1] ++ x)) (esc t ++ ([0, 1] ++ y)) = if s = t then Op.bytesLess x y else Op.bytesLess s t := by
  induction s generalizing t with
  | nil =>
    cases t with
    | nil => simp [esc_nil, bl_same]
    | cons c t =>
      rw [if_neg (by simp), bl_nil_cons, esc_nil, esc_cons]
      by_cases hc : c = 0
      · subst hc; simp [bl_same, bl_cons]
      · simp only [if_neg hc, List.cons_append, List.nil_append]
        rw [bl_ne (Ne.symm hc)]; simpa using u8_pos hc
  | cons b s ih =>
    cases t with
    | nil =>
      rw [if_neg (by simp), bl_nil, esc_nil, esc_cons]
      by_cases hb : b = 0
      · subst hb; simp [bl_same, bl_cons]
      · simp only [if_neg hb, List.cons_append, List.nil_append]
        rw [bl_ne hb]; simp
    | cons c t =>
      rw [esc_cons, esc_cons]
      by_cases hbc : b = c
      · subst hbc
        rw [bl_same, List.append_assoc, List.append_assoc, bl_common, ih]
        by_cases h : s = t <;> simp [h]
      · rw [if_neg (c := b :: s = c :: t) (by simp [hbc]), bl_ne hbc]
        by_cases hb : b = 0
        · subst hb
          have hc : c ≠ 0 := Ne.symm hbc
          simp only [if_neg hc, if_true, List.cons_append, List.nil_append]
          rw [bl_ne hbc]
        · by_cases hc : c = 0
          · subst hc
            simp only [if_neg hb, if_true, List.cons_append, List.nil_append]
            rw [bl_ne hbc]
          · simp only [if_neg hb, if_neg hc, List.cons_append, List.nil_append]
            rw [bl_ne hbc]

def sgn (b c : Bool) : Int := if b then -1 else if c then 1 else 0
/-- How two parts stand. -/
def cmpP (p q : Part) : Int :=
  if p.k ≠ q.k then sgn (decide (p.k < q.k)) (decide (q.k < p.k))
  else if p.k = 2 then sgn (decide (p.n < q.n)) (decide (q.n < p.n))
  else if p.k = 3 then sgn (decide (q.n < p.n)) (decide (p.n < q.n))
  else sgn (Op.bytesLess p.s q.s) (Op.bytesLess q.s p.s)
/-- How two keys stand. -/
def cmpL : List Part → List Part → Int
  | [], [] => 0
  | [], _ :: _ => -1
  | _ :: _, [] => 1
  | p :: a, q :: b => if cmpP p q ≠ 0 then cmpP p q else cmpL a b

theorem bl_asymm (x y : List UInt8) : Op.bytesLess x y = true → Op.bytesLess y x = false := by
  induction x generalizing y with
  | nil => intro h; exact bl_nil _
  | cons a x ih =>
    cases y with
    | nil => intro h; rw [bl_nil] at h; cases h
    | cons b y =>
      intro h
      by_cases hab : a = b
      · subst hab; rw [bl_same] at h ⊢; exact ih y h
      · rw [bl_ne hab] at h; rw [bl_ne (Ne.symm hab)]
        have h := of_decide_eq_true h
        rw [decide_eq_false_iff_not]
        rw [UInt8.lt_iff_toNat_lt] at h ⊢; omega
theorem bl_total (x y : List UInt8) : x ≠ y → Op.bytesLess x y = false → Op.bytesLess y x = true := by
  induction x generalizing y with
  | nil => intro hn h; cases y with
    | nil => exact absurd rfl hn
    | cons b y => rw [bl_nil_cons] at h; cases h
  | cons a x ih =>
    intro hn h
    cases y with
    | nil => rfl
    | cons b y =>
      by_cases hab : a = b
      · subst hab; rw [bl_same] at h ⊢; exact ih y (fun e => hn (by rw [e])) h
      · rw [bl_ne hab] at h; rw [bl_ne (Ne.symm hab)]
        have h := of_decide_eq_false h
        rw [decide_eq_true_eq]
        have hne : a.toNat ≠ b.toNat := fun e => hab (UInt8.toNat_inj.1 e)
        rw [UInt8.lt_iff_toNat_lt] at h ⊢; omega
theorem sgn_bl (x y : List UInt8) : sgn (Op.bytesLess x y) (Op.bytesLess y x) = if x = y then 0 else if Op.bytesLess x y then -1 else 1 := by
  unfold sgn
  by_cases h : x = y
  · subst h; simp [bytesLess_irrefl]
  · rw [if_neg h]
    cases hb : Op.bytesLess x y with
    | true => simp
    | false => simp [bl_total x y h hb]
theorem sgn_zero (x y : List UInt8) : sgn (Op.bytesLess x y) (Op.bytesLess y x) = 0 ↔ x = y := by
  rw [sgn_bl]
  by_cases h : x = y
  · simp [h]
  · rw [if_neg h]; split <;> simp [h]

def numOk (p : Part) : Prop := -9223372036854775808 ≤ p.n ∧ p.n ≤ 9223372036854775807
theorem rightP_kind {p : Part} (h : rightP p = true) : (p.k = 1 ∧ p.n = 0) ∨ (p.k = 2 ∧ p.s = []) ∨ (p.k = 3 ∧ p.s = []) := by
  unfold rightP at h
  by_cases h1 : p.k = 1
  · rw [if_pos h1] at h; exact .inl ⟨h1, by simpa using h⟩
  · rw [if_neg h1] at h
    by_cases h2 : p.k = 2
    · rw [if_pos (.inl h2)] at h; exact .inr (.inl ⟨h2, by simpa using h⟩)
    · by_cases h3 : p.k = 3
      · rw [if_pos (.inr h3)] at h; exact .inr (.inr ⟨h3, by simpa using h⟩)
      · rw [if_neg (by simp [h2, h3])] at h; cases h
theorem fld8_less (x y : Int) (a b : List UInt8) (hx : 0 ≤ x ∧ x < 18446744073709551616) (hy : 0 ≤ y ∧ y < 18446744073709551616) : Op.bytesLess (fld x 8 ++ a) (fld y 8 ++ b) = if x = y then Op.bytesLess a b else decide (x < y) := by
  have h8 : (256 : Int) ^ 8 = 18446744073709551616 := by decide
  by_cases h : x = y
  · subst h; rw [if_pos rfl, bl_common]
  · rw [if_neg h, bl_len _ _ _ _ (by rw [fld_length, fld_length]), fld_less 8 x y hx.1 (by omega) hy.1 (by omega)]
    intro e
    have := fld_inj 8 x y hx.1 (by omega) hy.1 (by omega)
    rw [e] at this
    simp [h] at this
/-- The bytes of two right parts, whatever stands behind. -/
theorem partB_less (p q : Part) (x y : List UInt8) (hp : rightP p = true) (hq : rightP q = true) (np : numOk p) (nq : numOk q) :
    Op.bytesLess (partB p ++ x) (partB q ++ y) = if cmpP p q = 0 then Op.bytesLess x y else decide (cmpP p q < 0) := by
  obtain ⟨pk, pn, ps⟩ := p
  obtain ⟨qk, qn, qs⟩ := q
  unfold numOk at np nq
  simp only at np nq
  rcases rightP_kind hp with ⟨h1, h2⟩ | ⟨h1, h2⟩ | ⟨h1, h2⟩ <;> rcases rightP_kind hq with ⟨h3, h4⟩ | ⟨h3, h4⟩ | ⟨h3, h4⟩ <;> simp only at h1 h2 h3 h4 <;> subst h1 <;> subst h2 <;> subst h3 <;> subst h4 <;>
    simp only [partB, cmpP, if_pos, List.cons_append, ne_eq, not_true, not_false_eq_true, if_false, bl_same,
      show ((1 : Int) = 2) = False by simp, show ((1 : Int) = 3) = False by simp, show ((2 : Int) = 1) = False by simp, show ((2 : Int) = 3) = False by simp, show ((3 : Int) = 1) = False by simp, show ((3 : Int) = 2) = False by simp]
  · rw [List.append_assoc, List.append_assoc, esc_less, sgn_bl]
    by_cases h : ps = qs
    · simp [h]
    · rw [if_neg h, if_neg h]
      cases Op.bytesLess ps qs <;> simp
  · rfl
  · rfl
  · rfl
  · rw [fld8_less _ _ _ _ (by omega) (by omega)]
    unfold sgn
    by_cases h : pn = qn
    · subst h; simp
    · rw [if_neg (by omega)]
      by_cases h' : pn < qn
      · simp [h']
      · have : qn < pn := by omega
        simp [h', this]
  · rfl
  · rfl
  · rfl
  · rw [fld8_less _ _ _ _ (by omega) (by omega)]
    unfold sgn
    by_cases h : pn = qn
    · subst h; simp
    · rw [if_neg (by omega)]
      by_cases h' : pn < qn
      · have : ¬ qn < pn := by omega
        simp [h', this]
      · have : qn < pn := by omega
        simp [this]
theorem partB_ne (p : Part) : partB p ≠ [] := by unfold partB; split; simp; split <;> simp
theorem cmpL_less (a b : List Part) (ha : ∀ p ∈ a, rightP p = true ∧ numOk p) (hb : ∀ p ∈ b, rightP p = true ∧ numOk p) : Op.bytesLess (encB a) (encB b) = decide (cmpL a b < 0) := by
  induction a generalizing b with
  | nil =>
    cases b with
    | nil => rfl
    | cons q b =>
      rw [encB_nil, encB_cons]
      have := partB_ne q
      cases h : partB q with
      | nil => exact absurd h this
      | cons u v => rfl
  | cons p a ih =>
    cases b with
    | nil => rw [encB_nil, bl_nil]; simp [cmpL]
    | cons q b =>
      obtain ⟨hp, np⟩ := ha p (List.mem_cons_self ..)
      obtain ⟨hq, nq⟩ := hb q (List.mem_cons_self ..)
      rw [encB_cons, encB_cons, partB_less p q _ _ hp hq np nq, ih b (fun x hx => ha x (List.mem_cons_of_mem _ hx)) (fun x hx => hb x (List.mem_cons_of_mem _ hx))]
      by_cases h : cmpP p q = 0 <;> simp [cmpL, h]
theorem cmpP_flip (p q : Part) : cmpP q p = -cmpP p q := by
  have sg : ∀ b c : Bool, ¬ (b = true ∧ c = true) → sgn c b = -sgn b c := by intro b c h; cases b <;> cases c <;> simp [sgn] at * 
  unfold cmpP
  by_cases h : p.k = q.k
  · rw [if_neg (show ¬ (q.k ≠ p.k) from fun e => e h.symm), if_neg (show ¬ (p.k ≠ q.k) from fun e => e h), h]
    by_cases h2 : q.k = 2
    · rw [if_pos h2, if_pos h2]; exact sg _ _ (by simp; omega)
    · rw [if_neg h2, if_neg h2]
      by_cases h3 : q.k = 3
      · rw [if_pos h3, if_pos h3]; exact sg _ _ (by simp; omega)
      · rw [if_neg h3, if_neg h3]; exact sg _ _ (fun ⟨x, y⟩ => by have := bl_asymm _ _ x; rw [y] at this; cases this)
  · rw [if_pos h, if_pos (Ne.symm h)]; exact sg _ _ (by simp; omega)
theorem cmpL_flip (a b : List Part) : cmpL b a = -cmpL a b := by
  induction a generalizing b with
  | nil => cases b <;> simp [cmpL]
  | cons p a ih =>
    cases b with
    | nil => simp [cmpL]
    | cons q b =>
      unfold cmpL
      rw [cmpP_flip p q, ih b]
      by_cases h : cmpP p q = 0 <;> simp [h]
theorem encB_eq (a b : List Part) (ha : ∀ p ∈ a, rightP p = true ∧ numOk p) (hb : ∀ p ∈ b, rightP p = true ∧ numOk p) : (encB a = encB b) ↔ cmpL a b = 0 := by
  have h1 := cmpL_less a b ha hb
  have h2 := cmpL_less b a hb ha
  rw [cmpL_flip] at h2
  constructor
  · intro h
    rw [h, bytesLess_irrefl] at h1 h2
    have h1 := of_decide_eq_false h1.symm
    have h2 := of_decide_eq_false h2.symm
    omega
  · intro h
    rw [h] at h1 h2
    by_cases e : encB a = encB b
    · exact e
    · have := bl_total _ _ e (by rw [h1]; rfl)
      rw [h2] at this
      simp at this
theorem cmpP_zero {p q : Part} (hp : rightP p = true) (hq : rightP q = true) : cmpP p q = 0 ↔ p = q := by
  obtain ⟨pk, pn, ps⟩ := p
  obtain ⟨qk, qn, qs⟩ := q
  constructor
  · intro h
    unfold cmpP at h
    simp only at h
    by_cases hk : pk = qk
    · subst hk
      rw [if_neg (by simp)] at h
      rcases rightP_kind hp with ⟨h1, h2⟩ | ⟨h1, h2⟩ | ⟨h1, h2⟩ <;> rcases rightP_kind hq with ⟨h3, h4⟩ | ⟨h3, h4⟩ | ⟨h3, h4⟩ <;> simp only at h1 h2 h3 h4 <;> (try omega) <;> subst h1 <;> subst h2 <;> subst h4
      · rw [if_neg (by decide), if_neg (by decide)] at h
        rw [(sgn_zero _ _).1 h]
      · rw [if_pos rfl] at h
        unfold sgn at h
        have : pn = qn := by by_cases a : pn < qn <;> by_cases b : qn < pn <;> simp [a, b] at h; omega
        rw [this]
      · rw [if_neg (by decide), if_pos rfl] at h
        unfold sgn at h
        have : pn = qn := by by_cases a : pn < qn <;> by_cases b : qn < pn <;> simp [a, b] at h; omega
        rw [this]
    · rw [if_pos hk] at h
      unfold sgn at h
      have : pk = qk := by by_cases a : pk < qk <;> by_cases b : qk < pk <;> simp [a, b] at h; omega
      exact absurd this hk
  · rintro h
    rw [h]
    have := cmpP_flip (⟨qk, qn, qs⟩ : Part) ⟨qk, qn, qs⟩
    omega
theorem cmpL_zero (a b : List Part) (ha : ∀ p ∈ a, rightP p = true) (hb : ∀ p ∈ b, rightP p = true) : cmpL a b = 0 ↔ a = b := by
  induction a generalizing b with
  | nil => cases b <;> simp [cmpL]
  | cons p a ih =>
    cases b with
    | nil => simp [cmpL]
    | cons q b =>
      have h1 := cmpP_zero (ha p (List.mem_cons_self ..)) (hb q (List.mem_cons_self ..))
      have h2 := ih b (fun x hx => ha x (List.mem_cons_of_mem _ hx)) (fun x hx => hb x (List.mem_cons_of_mem _ hx))
      unfold cmpL
      by_cases h : cmpP p q = 0
      · rw [if_neg (by simp [h]), h2, h1.1 h]; simp
      · rw [if_pos h]
        constructor
        · intro e; exact absurd e h
        · intro e; injection e with e1 _; exact absurd (h1.2 e1) h
end Go.Amb
