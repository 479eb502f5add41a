/- Plain laws on fields: their bytes stand as the numbers do. -/
import Derived.Test.YtaflpabpkpfifaaDoorMLib
import Derived.Test.YtaflpabpkpfifaaDoorMRefN
namespace Go.Amb
open Go.RowKit

theorem fld_succ (n : Int) (m : Nat) : fld n (m + 1) = byteAt n m :: fld n m := by
  unfold fld fldTo
  rw [List.range_succ_eq_map, List.map_cons, List.map_map]
  congr 1
  refine List.map_congr_left fun t ht => ?_
  show byteAt n (m + 1 - 1 - (t + 1)) = _
  congr 1
  omega
theorem byteAt_lt (x y : Int) (i : Nat) : (byteAt x i < byteAt y i) ↔ x / 2 ^ (8 * i) % 256 < y / 2 ^ (8 * i) % 256 := by
  rw [← byteAt_int x i, ← byteAt_int y i, UInt8.lt_iff_toNat_lt]; omega
theorem byteAt_eq (x y : Int) (i : Nat) : (byteAt x i = byteAt y i) ↔ x / 2 ^ (8 * i) % 256 = y / 2 ^ (8 * i) % 256 := by
  rw [← byteAt_int x i, ← byteAt_int y i, ← UInt8.toNat_inj]; omega
theorem pow8 (m : Nat) : (2 : Int) ^ (8 * m) = 256 ^ m := by rw [Int.pow_mul]; rfl
theorem fld_less (m : Nat) : ∀ x y : Int, 0 ≤ x → x < 256 ^ m → 0 ≤ y → y < 256 ^ m → Op.bytesLess (fld x m) (fld y m) = decide (x < y) := by
  induction m with
  | zero =>
    intro x y h0 h1 h2 h3
    have : x = y := by simp at h1 h3; omega
    subst this
    simp [fld, fldTo, Op.bytesLess]
  | succ m ih =>
    intro x y h0 h1 h2 h3
    have hp : (0 : Int) < 256 ^ m := Int.pow_pos (by decide)
    have ex := Int.emod_add_mul_ediv x (256 ^ m)
    have ey := Int.emod_add_mul_ediv y (256 ^ m)
    have rx := Int.emod_nonneg x (show (256 : Int) ^ m ≠ 0 by omega)
    have ry := Int.emod_nonneg y (show (256 : Int) ^ m ≠ 0 by omega)
    have sx := Int.emod_lt_of_pos x hp
    have sy := Int.emod_lt_of_pos y hp
    have qx : 0 ≤ x / 256 ^ m := Int.ediv_nonneg h0 (by omega)
    have qy : 0 ≤ y / 256 ^ m := Int.ediv_nonneg h2 (by omega)
    have tx : x / 256 ^ m < 256 := Int.ediv_lt_of_lt_mul hp (by rw [Int.pow_succ] at h1; rw [Int.mul_comm]; exact h1)
    have ty : y / 256 ^ m < 256 := Int.ediv_lt_of_lt_mul hp (by rw [Int.pow_succ] at h3; rw [Int.mul_comm]; exact h3)
    have fx : fld x m = fld (x % 256 ^ m) m := by rw [← pow8]; exact (fld_mod x m m (Nat.le_refl _)).symm
    have fy : fld y m = fld (y % 256 ^ m) m := by rw [← pow8]; exact (fld_mod y m m (Nat.le_refl _)).symm
    rw [fld_succ, fld_succ, Op.bytesLess, fx, fy, ih _ _ rx sx ry sy]
    have hl : (byteAt x m < byteAt y m) ↔ x / 256 ^ m < y / 256 ^ m := by
      rw [byteAt_lt, pow8, Int.emod_eq_of_lt qx tx, Int.emod_eq_of_lt qy ty]
    have he : (byteAt x m = byteAt y m) ↔ x / 256 ^ m = y / 256 ^ m := by
      rw [byteAt_eq, pow8, Int.emod_eq_of_lt qx tx, Int.emod_eq_of_lt qy ty]
    generalize x / 256 ^ m = X at *
    generalize y / 256 ^ m = Y at *
    generalize x % 256 ^ m = u at *
    generalize y % 256 ^ m = v at *
    generalize (256 : Int) ^ m = B at *
    rw [Bool.eq_iff_iff]
    simp only [Bool.or_eq_true, Bool.and_eq_true, decide_eq_true_eq, beq_iff_eq, hl, he]
    rcases Int.lt_trichotomy X Y with h | h | h
    · have : B * X + B ≤ B * Y := by have h5 := Int.mul_le_mul_of_nonneg_left (show X + 1 ≤ Y by omega) (show 0 ≤ B by omega); rwa [Int.mul_add, Int.mul_one] at h5
      constructor
      · intro _; omega
      · intro _; exact .inl h
    · subst h
      constructor
      · rintro (h | ⟨_, h⟩) <;> omega
      · intro h'; exact .inr ⟨rfl, by omega⟩
    · have : B * Y + B ≤ B * X := by have h5 := Int.mul_le_mul_of_nonneg_left (show Y + 1 ≤ X by omega) (show 0 ≤ B by omega); rwa [Int.mul_add, Int.mul_one] at h5
      constructor
      · rintro (h' | ⟨h', _⟩) <;> omega
      · intro h'; omega
theorem bytesLess_irrefl (l : List UInt8) : Op.bytesLess l l = false := by
  induction l with
  | nil => rfl
  | cons b l ih => simp [Op.bytesLess, ih, UInt8.lt_irrefl]
theorem fld_inj (m : Nat) (x y : Int) (h0 : 0 ≤ x) (h1 : x < 256 ^ m) (h2 : 0 ≤ y) (h3 : y < 256 ^ m) : (fld x m == fld y m) = decide (x = y) := by
  rw [Bool.eq_iff_iff]
  simp only [beq_iff_eq, decide_eq_true_eq]
  constructor
  · intro h
    have a := fld_less m x y h0 h1 h2 h3
    have b := fld_less m y x h2 h3 h0 h1
    rw [h, bytesLess_irrefl] at a b
    simp at a b
    omega
  · rintro rfl; rfl
theorem and_mask (a : Int) (k : Nat) (hk : k ≤ 63) : bits .and .i64 a (2 ^ k - 1) = a % 2 ^ k := by
  have hp : (0 : Int) < 2 ^ k := Int.pow_pos (by decide)
  have hN : (2 : Nat) ^ k ≤ 2 ^ 63 := Nat.pow_le_pow_right (by decide) hk
  have e1 : (2 : Int) ^ k = ((2 ^ k : Nat) : Int) := by simp
  have e2 : (BitVec.ofInt 64 a).toNat = (a % 18446744073709551616).toNat := by simp [BitVec.toNat_ofInt]
  have e3 : (BitVec.ofInt 64 (2 ^ k - 1)).toNat = 2 ^ k - 1 := by
    have hN' : (2 : Nat) ^ 63 = 9223372036854775808 := by decide
    have hp1 : 1 ≤ (2 : Nat) ^ k := Nat.one_le_two_pow
    rw [BitVec.toNat_ofInt, e1]
    simp only [Nat.reducePow]
    omega
  show IntKind.i64.wrap ((BitVec.ofInt 64 a &&& BitVec.ofInt 64 (2 ^ k - 1)).toNat : Int) = _
  rw [BitVec.toNat_and, e2, e3, Nat.and_two_pow_sub_one_eq_mod]
  have hdvd : (2 : Int) ^ k ∣ 18446744073709551616 := ⟨2 ^ (64 - k), by rw [← Int.pow_add, show k + (64 - k) = 64 by omega]; rfl⟩
  have e4 : (((a % 18446744073709551616).toNat % 2 ^ k : Nat) : Int) = a % 2 ^ k := by
    rw [Int.natCast_emod, Int.toNat_of_nonneg (Int.emod_nonneg _ (by decide)), ← e1, Int.emod_emod_of_dvd _ hdvd]
  rw [e4]
  have h1 := Int.emod_nonneg a (show (2 : Int) ^ k ≠ 0 by omega)
  have h2 := Int.emod_lt_of_pos a hp
  have hN' : (2 : Nat) ^ 63 = 9223372036854775808 := by decide
  have hN2 : (2 : Int) ^ k ≤ 9223372036854775808 := by
    rw [e1]
    omega
  exact IntWalk.i64_in _ ⟨by omega, by omega⟩
end Go.Amb

namespace Go.Proofs.YtaflpabpkpfifaaDoor
set_option maxRecDepth 100000
open Go.RowKit Go.Amb
theorem foldl_numL (l : List UInt8) : ∀ z : Int, l.foldl (fun n b => n * 256 + (b.toNat : Int)) z = z * 256 ^ l.length + numL l := by
  unfold numL
  induction l with
  | nil => intro z; simp
  | cons b l ih =>
    intro z
    rw [List.foldl_cons, List.foldl_cons, ih (z * 256 + b.toNat), ih (0 * 256 + b.toNat), List.length_cons, Int.pow_succ]
    rw [Int.zero_mul, Int.zero_add, Int.add_mul, Int.mul_assoc, Int.mul_comm 256, Int.add_assoc]
theorem numL_cons (b : UInt8) (l : List UInt8) : numL (b :: l) = b.toNat * 256 ^ l.length + numL l := by
  have := foldl_numL l (b.toNat : Int)
  unfold numL at *
  rw [List.foldl_cons, Int.zero_mul, Int.zero_add]
  exact this
theorem numL_fld (n : Int) (m : Nat) : numL (fld n m) = n % 256 ^ m := by
  induction m with
  | zero => simp [fld, fldTo, numL, Int.emod_one]
  | succ m ih =>
    rw [fld_succ, numL_cons, fld_length, ih, byteAt_int, pow8]
    have hp : (0 : Int) < 256 ^ m := Int.pow_pos (by decide)
    have h1 := Int.emod_add_mul_ediv n (256 ^ m)
    have h2 := Int.emod_add_mul_ediv (n / 256 ^ m) 256
    have h3 := Int.emod_add_mul_ediv n (256 ^ (m + 1))
    have h4 : n / 256 ^ (m + 1) = n / 256 ^ m / 256 := by rw [Int.pow_succ, Int.ediv_ediv_of_nonneg (by omega)]
    rw [h4, Int.pow_succ, Int.mul_assoc] at h3
    rw [Int.pow_succ]
    generalize n / 256 ^ m / 256 = q at *
    generalize n / 256 ^ m % 256 = r at *
    generalize n / 256 ^ m = d at *
    rw [← h2, Int.mul_add] at h1
    have h5 : (256 : Int) ^ m * r = r * 256 ^ m := Int.mul_comm _ _
    omega

theorem fld_numL (l : List UInt8) : fld (numL l) l.length = l := by
  induction l with
  | nil => rfl
  | cons b l ih =>
    have h0 := numL_nonneg l
    have h1 := numL_lt l
    have hb := b.toNat_lt
    have hp : (0 : Int) < 256 ^ l.length := Int.pow_pos (by decide)
    rw [List.length_cons, fld_succ, numL_cons]
    congr 1
    · rw [← UInt8.toNat_inj]
      have := byteAt_int (b.toNat * 256 ^ l.length + numL l) l.length
      rw [pow8, Int.add_comm, Int.add_mul_ediv_right _ _ (by omega), Int.ediv_eq_zero_of_lt h0 h1] at this
      rw [Int.add_comm]
      omega
    · have e : fld (b.toNat * 256 ^ l.length + numL l) l.length = fld (numL l) l.length := by
        rw [← fld_mod _ l.length l.length (Nat.le_refl _), pow8, Int.add_comm, Int.add_mul_emod_self_right, ← pow8, fld_mod _ _ _ (Nat.le_refl _)]
      rw [e, ih]
theorem numL_ext {a b : List UInt8} (hl : a.length = b.length) (h : numL a = numL b) : a = b := by
  rw [← fld_numL a, ← fld_numL b, h, hl]
end Go.Proofs.YtaflpabpkpfifaaDoor

namespace Go.Amb
open Go.RowKit

/-- A part: its kind, number, text. -/
structure Part where
  k : Int
  n : Int
  s : List UInt8
deriving DecidableEq

def rightP (p : Part) : Bool := if p.k = 1 then decide (p.n = 0) else if p.k = 2 ∨ p.k = 3 then p.s.isEmpty else false
def esc (s : List UInt8) : List UInt8 := s.flatMap fun b => if b = 0 then [0, 255] else [b]
def partB (p : Part) : List UInt8 := if p.k = 2 then 3 :: fld (p.n + 9223372036854775808) 8 else if p.k = 3 then 4 :: fld (9223372036854775807 - p.n) 8 else 2 :: (esc p.s ++ [0, 1])
def encB (l : List Part) : List UInt8 := l.flatMap partB
/-- How many of its bytes are noughts. -/
def zeros (s : List UInt8) : Nat := (s.filter fun b => b = 0).length
def sizeP (p : Part) : Nat := if p.k = 1 then 3 + s0 p + zeros p.s else 9
where s0 (p : Part) : Nat := p.s.length

theorem esc_nil : esc [] = [] := rfl
theorem esc_cons (b : UInt8) (s : List UInt8) : esc (b :: s) = (if b = 0 then [0, 255] else [b]) ++ esc s := by simp [esc]
theorem esc_append (a b : List UInt8) : esc (a ++ b) = esc a ++ esc b := by simp [esc]
theorem esc_snoc (s : List UInt8) (b : UInt8) : esc (s ++ [b]) = esc s ++ (if b = 0 then [0, 255] else [b]) := by simp [esc]
theorem zeros_nil : zeros [] = 0 := rfl
theorem zeros_snoc (s : List UInt8) (b : UInt8) : zeros (s ++ [b]) = zeros s + if b = 0 then 1 else 0 := by
  unfold zeros; rw [List.filter_append]; by_cases h : b = 0 <;> simp [h]
theorem zeros_cons (b : UInt8) (s : List UInt8) : zeros (b :: s) = (if b = 0 then 1 else 0) + zeros s := by
  unfold zeros; by_cases h : b = 0 <;> simp [h]; omega
theorem zeros_le (s : List UInt8) : zeros s ≤ s.length := by unfold zeros; exact List.length_filter_le _ _
theorem esc_length (s : List UInt8) : (esc s).length = s.length + zeros s := by
  induction s with
  | nil => rfl
  | cons b s ih => rw [esc_cons, zeros_cons, List.length_append, ih]; by_cases h : b = 0 <;> simp [h] <;> omega
theorem partB_length (p : Part) (h : rightP p = true) : (partB p).length = sizeP p := by
  unfold partB sizeP sizeP.s0
  by_cases h1 : p.k = 1
  · rw [if_neg (by omega), if_neg (by omega), if_pos h1]; simp [esc_length]; omega
  · by_cases h2 : p.k = 2
    · rw [if_pos h2, if_neg h1]; simp [fld_length]
    · have h3 : p.k = 3 := by
        unfold rightP at h; rw [if_neg h1] at h
        by_cases h3 : p.k = 3
        · exact h3
        · simp [h2, h3] at h
      rw [if_neg h2, if_pos h3, if_neg h1]; simp [fld_length]
theorem encB_cons (p : Part) (l : List Part) : encB (p :: l) = partB p ++ encB l := by simp [encB]
theorem encB_nil : encB [] = [] := rfl
theorem encB_append (a b : List Part) : encB (a ++ b) = encB a ++ encB b := by simp [encB]
theorem encB_snoc (l : List Part) (p : Part) : encB (l ++ [p]) = encB l ++ partB p := by simp [encB]

/-! ### The bytes stand in an order -/
theorem bl_cons (a b : UInt8) (x y : List UInt8) : Op.bytesLess (a :: x) (b :: y) = (decide (a < b) || (a == b && Op.bytesLess x y)) := rfl
theorem bl_same (a : UInt8) (x y : List UInt8) : Op.bytesLess (a :: x) (a :: y) = Op.bytesLess x y := by simp [bl_cons, UInt8.lt_irrefl]
theorem bl_ne {a b : UInt8} (h : a ≠ b) (x y : List UInt8) : Op.bytesLess (a :: x) (b :: y) = decide (a < b) := by simp [bl_cons, h]
theorem bl_nil_cons (b : UInt8) (y : List UInt8) : Op.bytesLess [] (b :: y) = true := rfl
theorem bl_nil (x : List UInt8) : Op.bytesLess x [] = false := by cases x <;> rfl
theorem bl_common (l x y : List UInt8) : Op.bytesLess (l ++ x) (l ++ y) = Op.bytesLess x y := by
  induction l with
  | nil => rfl
  | cons b l ih => simp only [List.cons_append, bl_same, ih]
theorem bl_len (a b x y : List UInt8) (h : a.length = b.length) (hn : a ≠ b) : Op.bytesLess (a ++ x) (b ++ y) = Op.bytesLess a b := by
  induction a generalizing b with
  | nil => cases b with
    | nil => exact absurd rfl hn
    | cons => simp at h
  | cons u a ih => cases b with
    | nil => simp at h
    | cons v b =>
      simp only [List.cons_append]
      by_cases hu : u = v
      · subst hu
        rw [bl_same, bl_same]
        exact ih b (by simpa using h) fun e => hn (by rw [e])
      · rw [bl_ne hu, bl_ne hu]
theorem u8_pos {b : UInt8} (h : b ≠ 0) : 0 < b := by
  rw [UInt8.lt_iff_toNat_lt]
  have : b.toNat ≠ 0 := fun e => h (UInt8.toNat_inj.1 e)
  simp; omega
theorem u8_not_lt {b : UInt8} : ¬ b < 0 := by rw [UInt8.lt_iff_toNat_lt]; simp
theorem esc_less (s t x y : List UInt8) : Op.bytesLess (esc s ++ ([0, 1] ++ x)) (esc t ++ ([0, 1] ++ y)) = if s = t then Op.bytesLess x y else Op.bytesLess s t := by
  induction s generalizing t with
  | nil =>
    cases t with
    | nil => simp [esc_nil, bl_same]
    | cons c t =>
      rw [if_neg (by simp), bl_nil_cons, esc_nil, esc_cons]
      by_cases hc : c = 0
      · subst hc; simp [bl_same, bl_cons]
      · simp only [if_neg hc, List.cons_append, List.nil_append]
        rw [bl_ne (Ne.symm hc)]; simpa using u8_pos hc
  | cons b s ih =>
    cases t with
    | nil =>
      rw [if_neg (by simp), bl_nil, esc_nil, esc_cons]
      by_cases hb : b = 0
      · subst hb; simp [bl_same, bl_cons]
      · simp only [if_neg hb, List.cons_append, List.nil_append]
        rw [bl_ne hb]; simp
    | cons c t =>
      rw [esc_cons, esc_cons]
      by_cases hbc : b = c
      · subst hbc
        rw [bl_same, List.append_assoc, List.append_assoc, bl_common, ih]
        by_cases h : s = t <;> simp [h]
      · rw [if_neg (c := b :: s = c :: t) (by simp [hbc]), bl_ne hbc]
        by_cases hb : b = 0
        · subst hb
          have hc : c ≠ 0 := Ne.symm hbc
          simp only [if_neg hc, if_true, List.cons_append, List.nil_append]
          rw [bl_ne hbc]
        · by_cases hc : c = 0
          · subst hc
            simp only [if_neg hb, if_true, List.cons_append, List.nil_append]
            rw [bl_ne hbc]
          · simp only [if_neg hb, if_neg hc, List.cons_append, List.nil_append]
            rw [bl_ne hbc]

def sgn (b c : Bool) : Int := if b then -1 else if c then 1 else 0
/-- How two parts stand. -/
def cmpP (p q : Part) : Int :=
  if p.k ≠ q.k then sgn (decide (p.k < q.k)) (decide (q.k < p.k))
  else if p.k = 2 then sgn (decide (p.n < q.n)) (decide (q.n < p.n))
  else if p.k = 3 then sgn (decide (q.n < p.n)) (decide (p.n < q.n))
  else sgn (Op.bytesLess p.s q.s) (Op.bytesLess q.s p.s)
/-- How two keys stand. -/
def cmpL : List Part → List Part → Int
  | [], [] => 0
  | [], _ :: _ => -1
  | _ :: _, [] => 1
  | p :: a, q :: b => if cmpP p q ≠ 0 then cmpP p q else cmpL a b

theorem bl_asymm (x y : List UInt8) : Op.bytesLess x y = true → Op.bytesLess y x = false := by
  induction x generalizing y with
  | nil => intro h; exact bl_nil _
  | cons a x ih =>
    cases y with
    | nil => intro h; rw [bl_nil] at h; cases h
    | cons b y =>
      intro h
      by_cases hab : a = b
      · subst hab; rw [bl_same] at h ⊢; exact ih y h
      · rw [bl_ne hab] at h; rw [bl_ne (Ne.symm hab)]
        have h := of_decide_eq_true h
        rw [decide_eq_false_iff_not]
        rw [UInt8.lt_iff_toNat_lt] at h ⊢; omega
theorem bl_total (x y : List UInt8) : x ≠ y → Op.bytesLess x y = false → Op.bytesLess y x = true := by
  induction x generalizing y with
  | nil => intro hn h; cases y with
    | nil => exact absurd rfl hn
    | cons b y => rw [bl_nil_cons] at h; cases h
  | cons a x ih =>
    intro hn h
    cases y with
    | nil => rfl
    | cons b y =>
      by_cases hab : a = b
      · subst hab; rw [bl_same] at h ⊢; exact ih y (fun e => hn (by rw [e])) h
      · rw [bl_ne hab] at h; rw [bl_ne (Ne.symm hab)]
        have h := of_decide_eq_false h
        rw [decide_eq_true_eq]
        have hne : a.toNat ≠ b.toNat := fun e => hab (UInt8.toNat_inj.1 e)
        rw [UInt8.lt_iff_toNat_lt] at h ⊢; omega
theorem sgn_bl (x y : List UInt8) : sgn (Op.bytesLess x y) (Op.bytesLess y x) = if x = y then 0 else if Op.bytesLess x y then -1 else 1 := by
  unfold sgn
  by_cases h : x = y
  · subst h; simp [bytesLess_irrefl]
  · rw [if_neg h]
    cases hb : Op.bytesLess x y with
    | true => simp
    | false => simp [bl_total x y h hb]
theorem sgn_zero (x y : List UInt8) : sgn (Op.bytesLess x y) (Op.bytesLess y x) = 0 ↔ x = y := by
  rw [sgn_bl]
  by_cases h : x = y
  · simp [h]
  · rw [if_neg h]; split <;> simp [h]

def numOk (p : Part) : Prop := -9223372036854775808 ≤ p.n ∧ p.n ≤ 9223372036854775807
theorem rightP_kind {p : Part} (h : rightP p = true) : (p.k = 1 ∧ p.n = 0) ∨ (p.k = 2 ∧ p.s = []) ∨ (p.k = 3 ∧ p.s = []) := by
  unfold rightP at h
  by_cases h1 : p.k = 1
  · rw [if_pos h1] at h; exact .inl ⟨h1, by simpa using h⟩
  · rw [if_neg h1] at h
    by_cases h2 : p.k = 2
    · rw [if_pos (.inl h2)] at h; exact .inr (.inl ⟨h2, by simpa using h⟩)
    · by_cases h3 : p.k = 3
      · rw [if_pos (.inr h3)] at h; exact .inr (.inr ⟨h3, by simpa using h⟩)
      · rw [if_neg (by simp [h2, h3])] at h; cases h
theorem fld8_less (x y : Int) (a b : List UInt8) (hx : 0 ≤ x ∧ x < 18446744073709551616) (hy : 0 ≤ y ∧ y < 18446744073709551616) : Op.bytesLess (fld x 8 ++ a) (fld y 8 ++ b) = if x = y then Op.bytesLess a b else decide (x < y) := by
  have h8 : (256 : Int) ^ 8 = 18446744073709551616 := by decide
  by_cases h : x = y
  · subst h; rw [if_pos rfl, bl_common]
  · rw [if_neg h, bl_len _ _ _ _ (by rw [fld_length, fld_length]), fld_less 8 x y hx.1 (by omega) hy.1 (by omega)]
    intro e
    have := fld_inj 8 x y hx.1 (by omega) hy.1 (by omega)
    rw [e] at this
    simp [h] at this
/-- The bytes of two right parts, whatever stands behind. -/
theorem partB_less (p q : Part) (x y : List UInt8) (hp : rightP p = true) (hq : rightP q = true) (np : numOk p) (nq : numOk q) :
    Op.bytesLess (partB p ++ x) (partB q ++ y) = if cmpP p q = 0 then Op.bytesLess x y else decide (cmpP p q < 0) := by
  obtain ⟨pk, pn, ps⟩ := p
  obtain ⟨qk, qn, qs⟩ := q
  unfold numOk at np nq
  simp only at np nq
  rcases rightP_kind hp with ⟨h1, h2⟩ | ⟨h1, h2⟩ | ⟨h1, h2⟩ <;> rcases rightP_kind hq with ⟨h3, h4⟩ | ⟨h3, h4⟩ | ⟨h3, h4⟩ <;> simp only at h1 h2 h3 h4 <;> subst h1 <;> subst h2 <;> subst h3 <;> subst h4 <;>
    simp only [partB, cmpP, if_pos, List.cons_append, ne_eq, not_true, not_false_eq_true, if_false, bl_same,
      show ((1 : Int) = 2) = False by simp, show ((1 : Int) = 3) = False by simp, show ((2 : Int) = 1) = False by simp, show ((2 : Int) = 3) = False by simp, show ((3 : Int) = 1) = False by simp, show ((3 : Int) = 2) = False by simp]
  · rw [List.append_assoc, List.append_assoc, esc_less, sgn_bl]
    by_cases h : ps = qs
    · simp [h]
    · rw [if_neg h, if_neg h]
      cases Op.bytesLess ps qs <;> simp
  · rfl
  · rfl
  · rfl
  · rw [fld8_less _ _ _ _ (by omega) (by omega)]
    unfold sgn
    by_cases h : pn = qn
    · subst h; simp
    · rw [if_neg (by omega)]
      by_cases h' : pn < qn
      · simp [h']
      · have : qn < pn := by omega
        simp [h', this]
  · rfl
  · rfl
  · rfl
  · rw [fld8_less _ _ _ _ (by omega) (by omega)]
    unfold sgn
    by_cases h : pn = qn
    · subst h; simp
    · rw [if_neg (by omega)]
      by_cases h' : pn < qn
      · have : ¬ qn < pn := by omega
        simp [h', this]
      · have : qn < pn := by omega
        simp [this]
theorem partB_ne (p : Part) : partB p ≠ [] := by unfold partB; split; simp; split <;> simp
theorem cmpL_less (a b : List Part) (ha : ∀ p ∈ a, rightP p = true ∧ numOk p) (hb : ∀ p ∈ b, rightP p = true ∧ numOk p) : Op.bytesLess (encB a) (encB b) = decide (cmpL a b < 0) := by
  induction a generalizing b with
  | nil =>
    cases b with
    | nil => rfl
    | cons q b =>
      rw [encB_nil, encB_cons]
      have := partB_ne q
      cases h : partB q with
      | nil => exact absurd h this
      | cons u v => rfl
  | cons p a ih =>
    cases b with
    | nil => rw [encB_nil, bl_nil]; simp [cmpL]
    | cons q b =>
      obtain ⟨hp, np⟩ := ha p (List.mem_cons_self ..)
      obtain ⟨hq, nq⟩ := hb q (List.mem_cons_self ..)
      rw [encB_cons, encB_cons, partB_less p q _ _ hp hq np nq, ih b (fun x hx => ha x (List.mem_cons_of_mem _ hx)) (fun x hx => hb x (List.mem_cons_of_mem _ hx))]
      by_cases h : cmpP p q = 0 <;> simp [cmpL, h]
theorem cmpP_flip (p q : Part) : cmpP q p = -cmpP p q := by
  have sg : ∀ b c : Bool, ¬ (b = true ∧ c = true) → sgn c b = -sgn b c := by intro b c h; cases b <;> cases c <;> simp [sgn] at * 
  unfold cmpP
  by_cases h : p.k = q.k
  · rw [if_neg (show ¬ (q.k ≠ p.k) from fun e => e h.symm), if_neg (show ¬ (p.k ≠ q.k) from fun e => e h), h]
    by_cases h2 : q.k = 2
    · rw [if_pos h2, if_pos h2]; exact sg _ _ (by simp; omega)
    · rw [if_neg h2, if_neg h2]
      by_cases h3 : q.k = 3
      · rw [if_pos h3, if_pos h3]; exact sg _ _ (by simp; omega)
      · rw [if_neg h3, if_neg h3]; exact sg _ _ (fun ⟨x, y⟩ => by have := bl_asymm _ _ x; rw [y] at this; cases this)
  · rw [if_pos h, if_pos (Ne.symm h)]; exact sg _ _ (by simp; omega)
theorem cmpL_flip (a b : List Part) : cmpL b a = -cmpL a b := by
  induction a generalizing b with
  | nil => cases b <;> simp [cmpL]
  | cons p a ih =>
    cases b with
    | nil => simp [cmpL]
    | cons q b =>
      unfold cmpL
      rw [cmpP_flip p q, ih b]
      by_cases h : cmpP p q = 0 <;> simp [h]
theorem encB_eq (a b : List Part) (ha : ∀ p ∈ a, rightP p = true ∧ numOk p) (hb : ∀ p ∈ b, rightP p = true ∧ numOk p) : (encB a = encB b) ↔ cmpL a b = 0 := by
  have h1 := cmpL_less a b ha hb
  have h2 := cmpL_less b a hb ha
  rw [cmpL_flip] at h2
  constructor
  · intro h
    rw [h, bytesLess_irrefl] at h1 h2
    have h1 := of_decide_eq_false h1.symm
    have h2 := of_decide_eq_false h2.symm
    omega
  · intro h
    rw [h] at h1 h2
    by_cases e : encB a = encB b
    · exact e
    · have := bl_total _ _ e (by rw [h1]; rfl)
      rw [h2] at this
      simp at this
theorem cmpP_zero {p q : Part} (hp : rightP p = true) (hq : rightP q = true) : cmpP p q = 0 ↔ p = q := by
  obtain ⟨pk, pn, ps⟩ := p
  obtain ⟨qk, qn, qs⟩ := q
  constructor
  · intro h
    unfold cmpP at h
    simp only at h
    by_cases hk : pk = qk
    · subst hk
      rw [if_neg (by simp)] at h
      rcases rightP_kind hp with ⟨h1, h2⟩ | ⟨h1, h2⟩ | ⟨h1, h2⟩ <;> rcases rightP_kind hq with ⟨h3, h4⟩ | ⟨h3, h4⟩ | ⟨h3, h4⟩ <;> simp only at h1 h2 h3 h4 <;> (try omega) <;> subst h1 <;> subst h2 <;> subst h4
      · rw [if_neg (by decide), if_neg (by decide)] at h
        rw [(sgn_zero _ _).1 h]
      · rw [if_pos rfl] at h
        unfold sgn at h
        have : pn = qn := by by_cases a : pn < qn <;> by_cases b : qn < pn <;> simp [a, b] at h; omega
        rw [this]
      · rw [if_neg (by decide), if_pos rfl] at h
        unfold sgn at h
        have : pn = qn := by by_cases a : pn < qn <;> by_cases b : qn < pn <;> simp [a, b] at h; omega
        rw [this]
    · rw [if_pos hk] at h
      unfold sgn at h
      have : pk = qk := by by_cases a : pk < qk <;> by_cases b : qk < pk <;> simp [a, b] at h; omega
      exact absurd this hk
  · rintro h
    rw [h]
    have := cmpP_flip (⟨qk, qn, qs⟩ : Part) ⟨qk, qn, qs⟩
    omega
theorem cmpL_zero (a b : List Part) (ha : ∀ p ∈ a, rightP p = true) (hb : ∀ p ∈ b, rightP p = true) : cmpL a b = 0 ↔ a = b := by
  induction a generalizing b with
  | nil => cases b <;> simp [cmpL]
  | cons p a ih =>
    cases b with
    | nil => simp [cmpL]
    | cons q b =>
      have h1 := cmpP_zero (ha p (List.mem_cons_self ..)) (hb q (List.mem_cons_self ..))
      have h2 := ih b (fun x hx => ha x (List.mem_cons_of_mem _ hx)) (fun x hx => hb x (List.mem_cons_of_mem _ hx))
      unfold cmpL
      by_cases h : cmpP p q = 0
      · rw [if_neg (by simp [h]), h2, h1.1 h]; simp
      · rw [if_pos h]
        constructor
        · intro e; exact absurd e h
        · intro e; injection e with e1 _; exact absurd (h1.2 e1) h
end Go.Amb
