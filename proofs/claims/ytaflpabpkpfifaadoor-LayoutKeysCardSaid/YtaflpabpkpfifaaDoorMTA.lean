/- The walks over package tuple: what is right, a number's bytes. -/
import Derived.Test.YtaflpabpkpfifaaDoorMFPlain
import Derived.Test.YtaflpabpkpfifaaDoorMRefN
import Derived.Test.YtaflpabpkpfifaaDoorMLibB
import Derived.Test.YtaflpabpkpfifaaDoorMLibC
import Derived.WalkSmall
import Derived.Laws.Bits64
namespace Go.Proofs.YtaflpabpkpfifaaDoor
set_option maxRecDepth 100000
open Go.RowKit Go.Amb
set_option linter.unusedVariables false
attribute [local go_sem ↓] Go.wp_at_zero Go.wp_at_succ

abbrev pV (p : Part) : Value := .agg #[.int .i64 p.k, .int .i64 p.n, .string ⟨p.s.toArray⟩]

theorem xor_top (m : Nat) (h : m < 18446744073709551616) : m ^^^ 9223372036854775808 = if m < 9223372036854775808 then m + 9223372036854775808 else m - 9223372036854775808 := by
  have h1 : (m ^^^ 2 ^ 63) / 2 ^ 63 = m / 2 ^ 63 ^^^ 1 := Nat.xor_div_two_pow
  have h2 : (m ^^^ 2 ^ 63) % 2 ^ 63 = m % 2 ^ 63 := by rw [Nat.xor_mod_two_pow, Nat.mod_self, Nat.xor_zero]
  have h3 : m / 2 ^ 63 = 0 ∨ m / 2 ^ 63 = 1 := by omega
  have e : (9223372036854775808 : Nat) = 2 ^ 63 := by decide
  show m ^^^ (2 ^ 63) = _
  generalize m ^^^ 2 ^ 63 = q at *
  rcases h3 with h3 | h3
  · rw [h3] at h1
    have h1 : q / 2 ^ 63 = 1 := h1
    rw [if_pos (by omega)]
    omega
  · rw [h3] at h1
    have h1 : q / 2 ^ 63 = 0 := h1
    rw [if_neg (by omega)]
    omega
theorem xor_u64_top (n : Int) (h0 : -9223372036854775808 ≤ n) (h1 : n ≤ 9223372036854775807) : bits .xor .u64 (IntKind.u64.wrap n) 9223372036854775808 = n + 9223372036854775808 := by
  obtain ⟨m, hm, hlt⟩ : ∃ m : Nat, IntKind.u64.wrap n = m ∧ m < 18446744073709551616 := ⟨(n % 18446744073709551616).toNat, by simp only [IntKind.wrap_u64]; omega, by omega⟩
  have hm2 := hm
  simp only [IntKind.wrap_u64] at hm2
  rw [hm]
  have := bits_xor_u64_nat m 9223372036854775808 hlt (by decide)
  rw [show (9223372036854775808 : Int) = ((9223372036854775808 : Nat) : Int) by rfl, this, xor_top m hlt]
  split <;> omega
theorem xor_u8 (b : UInt8) (k : UInt8) : bits .xor .u8 (b.toNat : Int) (k.toNat : Int) = ((b ^^^ k).toNat : Int) := by
  have h1 : (BitVec.ofInt 8 (b.toNat : Int)).toNat = b.toNat := by have := b.toNat_lt; simp
  have h2 : (BitVec.ofInt 8 (k.toNat : Int)).toNat = k.toNat := by have := k.toNat_lt; simp
  show IntKind.u8.wrap ((BitVec.ofInt 8 (b.toNat : Int) ^^^ BitVec.ofInt 8 (k.toNat : Int)).toNat : Int) = _
  rw [BitVec.toNat_xor, h1, h2, UInt8.toNat_xor]
  have h3 : b.toNat ^^^ k.toNat < 2 ^ 8 := Nat.xor_lt_two_pow (by have := b.toNat_lt; omega) (by have := k.toNat_lt; omega)
  simp only [IntKind.wrap, IntKind.bits, IntKind.signed]
  simp; omega

set_option maxHeartbeats 400000 in
theorem tRight (p : Part) (w : World) : Calls Tryd.prog 74 #[pV p] w (Ret (.bool (rightP p)) w) := by
  obtain ⟨k, n, s⟩ := p
  by_cases h1 : k = 1
  · subst h1
    go_enter Tryd.func74, Tryd.ntmps74
    go_wp2_with fail
    go_ret
    have e : (n == 0) = decide (n = 0) := by by_cases h : n = 0 <;> simp [h]
    exact ⟨by simp [rightP, e], (Upd.refl _ _).then_alloc _⟩
  · by_cases h2 : k = 2
    · subst h2
      go_enter Tryd.func74, Tryd.ntmps74
      go_wp2_with fail
      go_ret
      exact ⟨by simp [rightP], (Upd.refl _ _).then_alloc _⟩
    · by_cases h3 : k = 3
      · subst h3
        go_enter Tryd.func74, Tryd.ntmps74
        go_wp2_with fail
        go_ret
        exact ⟨by simp [rightP], (Upd.refl _ _).then_alloc _⟩
      · have g1 : (k == 1) = false := by simp [h1]
        have g2 : (k == 2) = false := by simp [h2]
        have g3 : (k == 3) = false := by simp [h3]
        go_enter Tryd.func74, Tryd.ntmps74
        go_wp2_with fail
        go_ret
        exact ⟨by simp [rightP, h1, h2, h3], (Upd.refl _ _).then_alloc _⟩

/-- A number's bytes, under a mask. -/
def numBy (n : Int) (mask : UInt8) (j : Nat) : List UInt8 := (fldTo (n + 9223372036854775808) 8 j).map (· ^^^ mask)
theorem numBy_succ (n : Int) (mask : UInt8) (j : Nat) : numBy n mask (j + 1) = numBy n mask j ++ [byteAt (n + 9223372036854775808) (7 - j) ^^^ mask] := by
  unfold numBy; rw [fldTo_succ, List.map_append]; rfl
theorem numBy_length (n : Int) (mask : UInt8) (j : Nat) : (numBy n mask j).length = j := by simp [numBy, fldTo_length]

set_option maxHeartbeats 400000 in
theorem tNumber (base : Nat) (v : Value) (l : List UInt8) (n : Int) (mask : UInt8) (w : World) (h0 : -9223372036854775808 ≤ n) (h1 : n ≤ 9223372036854775807)
    (hown : Own w base 5 v l) (hlen : l.length + 8 ≤ 140737488355328) (hb : base ≤ w.heap.size) :
    Calls Tryd.prog 85 #[v, .int .i64 n, .int .u8 mask.toNat] w (Grew base 5 v (l ++ numBy n mask 8) w) := by
  have hi := Lib.hid (@info_u8)
  have hx := xor_u64_top n h0 h1
  have hU : 0 ≤ n + 9223372036854775808 ∧ n + 9223372036854775808 < 18446744073709551616 := by omega
  obtain ⟨hU0, hU1⟩ := hU
  go_enter Tryd.func85, Tryd.ntmps85
  go_wp2_with fail
  clear hx
  generalize hUn : n + 9223372036854775808 = U at *
  go_loopw [0, 8] (fun u i wr => ∃ k : Nat, k ≤ 8 ∧ i = .int .i64 (8 * (k : Int) - 8) ∧ Own wr base 5 u (l ++ numBy n mask (8 - k)) ∧ Upd (At v) w wr ∧ ∀ j, At u j → At v j ∨ w.heap.size ≤ j) (fun _ i _ => (intOf i + 8).toNat)
  case atStart => exact ⟨8, by omega, rfl, by simpa [numBy, fldTo] using hown, Upd.refl _ _, fun j hj => .inl hj⟩
  case round =>
    obtain ⟨k, hk, rfl, ho, hu, hf⟩ := hrel
    by_cases hz : k = 0
    · subst hz
      go_wp2_with fail
      go_ret
      exact ⟨_, rfl, ho, hu, hf⟩
    · have hsz := hu.size
      have hk0 : (0 : Int) ≤ 8 * (k : Int) - 8 := by omega
      have hk1 : 8 * (k : Int) - 8 < 64 := by omega
      have hlen2 : (l ++ numBy n mask (8 - k)).length = l.length + (8 - k) := by rw [List.length_append, numBy_length]
      go_wp2_with (at_builtin; go_must (refine wpList_app1 rfl _ _ 86 rfl base 5 (.int .u8 0) 1 1 Tryd.underlying86 hi.out rfl _ _ _ rfl ho [.int .u8 _] rfl rfl ?h1c ?h63 ?hby (by omega) ?_))
      case h1c => intro u hu; rw [List.mem_singleton] at hu; subst hu; rfl
      case h63 => rw [hlen2]; unfold maxLen; omega
      case hby => rw [hlen2]; omega
      intro v' w' ho' hu' hf'
      go_wp2_with fail
      go_roundw
      case rel =>
        refine ⟨k - 1, by omega, by congr 1; omega, ?_, hu.trans hu' fun j hj h => (hf j h).elim id fun h => by omega, fun j hj => (hf' j hj).elim (hf j) fun h => .inr (by omega)⟩
        rw [show 8 - (k - 1) = (8 - k) + 1 by omega, numBy_succ, ← List.append_assoc]
        refine own_snoc ho' ?_
        rw [show 7 - (8 - k) = k - 1 by omega, ← xor_u8, byteAt_int, hUn]
        rw [show 8 * (k - 1) = 8 * k - 8 by omega]
      case measure => simp [intOf]; omega
end Go.Proofs.YtaflpabpkpfifaaDoor
