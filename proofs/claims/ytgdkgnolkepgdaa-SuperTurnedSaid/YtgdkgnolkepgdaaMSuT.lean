/- The sum tells bursts of up to 32 bits. No program stands here. -/
import Derived.Test.YtgdkgnolkepgdaaMSuP
namespace Go.Proofs.Ytgdkgnolkepgdaa
set_option maxRecDepth 100000
open Go.RowKit Go.Amb
set_option linter.unusedVariables false
set_option linter.unusedSimpArgs false

theorem xor_mod2 (a b : Nat) : (a ^^^ b) % 2 = (a + b) % 2 := by
  have h := Nat.testBit_xor a b 0
  rw [Nat.testBit_zero, Nat.testBit_zero, Nat.testBit_zero] at h
  rcases Nat.mod_two_eq_zero_or_one a with ha | ha <;> rcases Nat.mod_two_eq_zero_or_one b with hb | hb <;> rcases Nat.mod_two_eq_zero_or_one (a ^^^ b) with hc | hc <;> simp [ha, hb, hc] at h <;> omega
theorem xor_div2 (a b : Nat) : (a ^^^ b) / 2 = a / 2 ^^^ b / 2 := Nat.xor_div_two
theorem crcBit_xor (a b : Nat) : crcBit (a ^^^ b) = crcBit a ^^^ crcBit b := by
  unfold crcBit
  rw [xor_div2]
  have h := xor_mod2 a b
  rcases Nat.mod_two_eq_zero_or_one a with ha | ha <;> rcases Nat.mod_two_eq_zero_or_one b with hb | hb
  · rw [if_neg (by omega), if_neg (by omega), if_neg (by omega)]
  · rw [if_pos (by omega), if_neg (by omega), if_pos (by omega), Nat.xor_assoc]
  · rw [if_pos (by omega), if_pos (by omega), if_neg (by omega), Nat.xor_assoc, Nat.xor_assoc, Nat.xor_comm 2197175160]
  · rw [if_neg (by omega), if_pos (by omega), if_pos (by omega), Nat.xor_assoc, ← Nat.xor_assoc 2197175160, Nat.xor_comm 2197175160, Nat.xor_assoc, Nat.xor_self, Nat.xor_zero]
theorem crcN_xor (a b : Nat) : ∀ k, crcN (a ^^^ b) k = crcN a k ^^^ crcN b k
  | 0 => rfl
  | k + 1 => by rw [crcN, crcN, crcN, crcN_xor a b k, crcBit_xor]
theorem crcN_add (c : Nat) (j : Nat) : ∀ k, crcN c (j + k) = crcN (crcN c j) k
  | 0 => rfl
  | k + 1 => by
    show crcBit (crcN c (j + k)) = crcBit (crcN (crcN c j) k)
    rw [crcN_add c j k]
theorem crcN_pow (x : Nat) : ∀ k, crcN (x * 2 ^ k) k = x
  | 0 => by simp [crcN]
  | k + 1 => by
    rw [Nat.add_comm k 1, crcN_add]
    have h : crcN (x * 2 ^ (1 + k)) 1 = x * 2 ^ k := by
      show crcBit (x * 2 ^ (1 + k)) = _
      have e : x * 2 ^ (1 + k) = 2 * (x * 2 ^ k) := by rw [Nat.pow_add]; simp [Nat.mul_comm, Nat.mul_left_comm]
      unfold crcBit
      rw [e, if_neg (by omega)]
      omega
    rw [h]
    exact crcN_pow x k
theorem crcBit_zero {x : Nat} (hx : x < 4294967296) (h : crcBit x = 0) : x = 0 := by
  unfold crcBit at h
  split at h
  · have h2 : x / 2 = 2197175160 := by
      have := congrArg (· ^^^ 2197175160) h
      simpa [Nat.xor_assoc] using this
    omega
  · omega
theorem crcN_zero {x : Nat} (hx : x < 4294967296) : ∀ k, crcN x k = 0 → x = 0
  | 0, h => h
  | k + 1, h => crcN_zero hx k (crcBit_zero (crcN_lt hx k) h)
/-- The bytes as one number, the first byte the lowest. -/
def leN : List UInt8 → Nat
  | [] => 0
  | b :: l => b.toNat ^^^ (leN l * 2 ^ 8)
theorem crc_one (c b m : Nat) (n : Nat) : crcN (c ^^^ (b ^^^ (m * 2 ^ 8))) (8 + n) = crcN (crcN (c ^^^ b) 8 ^^^ m) n := by
  rw [crcN_add _ 8 n, ← Nat.xor_assoc, crcN_xor (c ^^^ b) (m * 2 ^ 8) 8, crcN_pow m 8]
theorem crcL_le (l : List UInt8) : ∀ c, crcL c l = crcN (c ^^^ leN l) (8 * l.length) := by
  induction l with
  | nil => intro c; show c = c ^^^ 0; rw [Nat.xor_zero]
  | cons b l ih =>
    intro c
    have h := crc_one c b.toNat (leN l) (8 * l.length)
    have e : 8 * (b :: l).length = 8 + 8 * l.length := by rw [List.length_cons]; omega
    rw [e]
    exact (ih _).trans h.symm
/-- A burst is told. -/
theorem burst {a b : List UInt8} {x f : Nat} (hl : a.length = b.length) (hx : x < 4294967296) (h0 : x ≠ 0) (hf : f ≤ 8 * a.length) (h : leN a ^^^ leN b = x * 2 ^ f) : sumC a ≠ sumC b := by
  intro e
  unfold sumC at e
  have e2 : crcL 4294967295 a = crcL 4294967295 b := by
    have := congrArg (4294967295 ^^^ ·) e
    simpa [← Nat.xor_assoc] using this
  rw [crcL_le, crcL_le, ← hl] at e2
  have e3 : crcN ((4294967295 ^^^ leN a) ^^^ (4294967295 ^^^ leN b)) (8 * a.length) = 0 := by
    rw [crcN_xor, e2, Nat.xor_self]
  have e4 : (4294967295 ^^^ leN a) ^^^ (4294967295 ^^^ leN b) = x * 2 ^ f := by
    rw [← h, Nat.xor_comm 4294967295 (leN a), Nat.xor_assoc, ← Nat.xor_assoc 4294967295 4294967295, Nat.xor_self, Nat.zero_xor]
  rw [e4, show 8 * a.length = f + (8 * a.length - f) by omega, crcN_add, crcN_pow] at e3
  exact h0 (crcN_zero hx _ e3)
theorem sum_ext {a b : Nat} (ha : a < 4294967296) (hb : b < 4294967296) (h : fld (a : Int) 4 = fld (b : Int) 4) : a = b := by
  have h2 := congrArg numL h
  rw [numL_fld, numL_fld] at h2
  have e1 : (a : Int) % 256 ^ 4 = a := by omega
  have e2 : (b : Int) % 256 ^ 4 = b := by omega
  rw [e1, e2] at h2
  omega
/-- What follows a super's words. -/
def tailS (s : Sp) : List UInt8 := fld (sumC (preS s)) 4 ++ List.replicate 80 0
theorem full_put (s : Sp) : full (putS s) = preS s ++ tailS s := by
  unfold full tailS
  rw [putS_length]
  unfold putS
  rw [List.append_assoc]
/-- Bytes of which up to 32 bits that follow one another, ahead of the sum, are turned, are no super's. -/
theorem turned_no {s : Sp} {q : List UInt8} {x f : Nat} (hl : q.length = 44) (hx : x < 4294967296) (h0 : x ≠ 0) (hf : f ≤ 352) (h : leN q ^^^ leN (preS s) = x * 2 ^ f) : readR (q ++ tailS s) = (Sp.none, 4) := by
  rcases read_cases (q ++ tailS s) with e | e
  · exfalso
    have hb := read_back e
    have hok := read_ok e
    rw [bytesR_yes hok] at hb
    injection hb with hb _
    generalize (readR (q ++ tailS s)).1 = s' at hb
    rw [full_put] at hb
    obtain ⟨e1, e2⟩ := List.append_inj hb (by rw [preS_length, hl])
    have h5 : (fld (sumC (preS s') : Nat) 4) = fld (sumC (preS s) : Nat) 4 := by
      have h6 := List.append_inj e2 (by rw [fld_length, fld_length])
      exact h6.1
    have h7 := sum_ext (sum_lt _) (sum_lt _) h5
    rw [e1] at h7
    exact burst (by rw [hl, preS_length]) hx h0 (by omega) h h7
  · exact e
theorem leN_set : ∀ (l : List UInt8) (k r : Nat) (hk : k < l.length) (y : UInt8), y.toNat = l[k].toNat ^^^ 2 ^ r → leN (l.set k y) = leN l ^^^ 2 ^ (8 * k + r)
  | [], k, r, hk, y, _ => absurd hk (by simp)
  | b :: l, 0, r, hk, y, h => by
    have h : y.toNat = b.toNat ^^^ 2 ^ r := h
    show y.toNat ^^^ (leN l * 2 ^ 8) = (b.toNat ^^^ (leN l * 2 ^ 8)) ^^^ 2 ^ (8 * 0 + r)
    rw [h, Nat.mul_zero, Nat.zero_add, Nat.xor_assoc, Nat.xor_assoc, Nat.xor_comm (2 ^ r)]
  | b :: l, k + 1, r, hk, y, h => by
    have ih := leN_set l k r (by simpa using hk) y h
    have e : 2 ^ (8 * (k + 1) + r) = 2 ^ (8 * k + r) * 2 ^ 8 := by rw [← Nat.pow_add]; congr 1; omega
    have e2 : (leN l ^^^ 2 ^ (8 * k + r)) * 2 ^ 8 = (leN l * 2 ^ 8) ^^^ (2 ^ (8 * k + r) * 2 ^ 8) := by
      rw [← Nat.shiftLeft_eq, ← Nat.shiftLeft_eq, ← Nat.shiftLeft_eq, Nat.shiftLeft_xor_distrib]
    show b.toNat ^^^ (leN (l.set k y) * 2 ^ 8) = (b.toNat ^^^ (leN l * 2 ^ 8)) ^^^ 2 ^ (8 * (k + 1) + r)
    rw [ih, e2, e, Nat.xor_assoc]
theorem low_xor {x m : Nat} (hx : x < 2 ^ 8) : (x ^^^ (m * 2 ^ 8)) % 2 ^ 8 = x ∧ (x ^^^ (m * 2 ^ 8)) / 2 ^ 8 = m := by
  rw [Nat.xor_mod_two_pow, Nat.xor_div_two_pow, Nat.mul_mod_left, Nat.mod_eq_of_lt hx, Nat.div_eq_of_lt hx, Nat.mul_div_cancel _ (by decide), Nat.xor_zero, Nat.zero_xor]
  exact ⟨rfl, rfl⟩
theorem leN_inj : ∀ (a b : List UInt8), a.length = b.length → leN a = leN b → a = b
  | [], [], _, _ => rfl
  | [], _ :: _, h, _ => by simp at h
  | _ :: _, [], h, _ => by simp at h
  | x :: a, y :: b, h, e => by
    have e : x.toNat ^^^ (leN a * 2 ^ 8) = y.toNat ^^^ (leN b * 2 ^ 8) := e
    obtain ⟨p1, p2⟩ := low_xor (x := x.toNat) (m := leN a) x.toNat_lt
    obtain ⟨q1, q2⟩ := low_xor (x := y.toNat) (m := leN b) y.toNat_lt
    rw [e] at p1 p2
    have h1 : x.toNat = y.toNat := p1.symm.trans q1
    have h2 : leN a = leN b := p2.symm.trans q2
    rw [UInt8.toNat_inj.1 h1, leN_inj a b (by simpa using h) h2]
theorem xor_top {a i : Nat} (ha : a < 2 ^ i) : a ^^^ 2 ^ i = a + 2 ^ i := by
  have h0 : 0 < 2 ^ i := Nat.two_pow_pos i
  have h1 : (a ^^^ 2 ^ i) / 2 ^ i = 1 := by rw [Nat.xor_div_two_pow, Nat.div_eq_of_lt ha, Nat.div_self h0, Nat.zero_xor]
  have h2 : (a ^^^ 2 ^ i) % 2 ^ i = a := by rw [Nat.xor_mod_two_pow, Nat.mod_eq_of_lt ha, Nat.mod_self, Nat.xor_zero]
  have h3 := Nat.div_add_mod (a ^^^ 2 ^ i) (2 ^ i)
  rw [h1, h2] at h3
  omega
/-- One bit more. -/
theorem bits_step (n i f : Nat) : (n % 2 ^ (i + 1)) * 2 ^ f = if n / 2 ^ i % 2 = 1 then ((n % 2 ^ i) * 2 ^ f) ^^^ 2 ^ (i + f) else (n % 2 ^ i) * 2 ^ f := by
  have h := Nat.mod_pow_succ (x := n) (b := 2) (k := i)
  split
  · rename_i hb
    have e2 : ((n % 2 ^ i) ^^^ 2 ^ i) * 2 ^ f = ((n % 2 ^ i) * 2 ^ f) ^^^ (2 ^ i * 2 ^ f) := by
      rw [← Nat.shiftLeft_eq, ← Nat.shiftLeft_eq, ← Nat.shiftLeft_eq, Nat.shiftLeft_xor_distrib]
    rw [h, hb, Nat.mul_one, ← xor_top (Nat.mod_lt _ (Nat.two_pow_pos i)), e2, Nat.pow_add]
  · rename_i hb
    have : n / 2 ^ i % 2 = 0 := by omega
    rw [h, this, Nat.mul_zero, Nat.add_zero]
end Go.Proofs.Ytgdkgnolkepgdaa
