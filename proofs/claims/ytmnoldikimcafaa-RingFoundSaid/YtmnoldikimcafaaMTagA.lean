/- tag.Sum, and the reference's: the sum of bytes. -/
import Derived.Test.YtmnoldikimcafaaMLib
import Derived.Test.YtmnoldikimcafaaRows
import Derived.WalkSmall
import Derived.Laws.BitsAllLaws
namespace Go.Amb
open Go.RowKit
/-- One bit, one byte, bytes of the sum. -/
def crcBit (c : Nat) : Nat := if c % 2 = 1 then (c / 2) ^^^ 2197175160 else c / 2
def crcN (c : Nat) : Nat → Nat
  | 0 => c
  | k + 1 => crcBit (crcN c k)
def crcL (c : Nat) : List UInt8 → Nat
  | [] => c
  | b :: l => crcL (crcN (c ^^^ b.toNat) 8) l
def sumC (l : List UInt8) : Nat := 4294967295 ^^^ crcL 4294967295 l
theorem crcBit_lt {c : Nat} (h : c < 4294967296) : crcBit c < 4294967296 := by
  unfold crcBit
  split
  · exact Nat.xor_lt_two_pow (n := 32) (by omega) (by omega)
  · omega
theorem crcN_lt {c : Nat} (h : c < 4294967296) : ∀ k, crcN c k < 4294967296
  | 0 => h
  | k + 1 => crcBit_lt (crcN_lt h k)
theorem crcL_snoc (l : List UInt8) (b : UInt8) : ∀ c, crcL c (l ++ [b]) = crcN (crcL c l ^^^ b.toNat) 8 := by
  induction l with
  | nil => intro c; rfl
  | cons x l ih => intro c; exact ih _
theorem crcL_lt (l : List UInt8) : ∀ c, c < 4294967296 → crcL c l < 4294967296 := by
  induction l with
  | nil => intro c h; exact h
  | cons b l ih => intro c h; exact ih _ (crcN_lt (Nat.xor_lt_two_pow (n := 32) (by omega) (by have := b.toNat_lt; omega)) 8)
theorem crc_step (y : Nat) (hy : y < 4294967296) : bits .xor .u32 ((y : Int) / 2) (bits .and .u32 2197175160 (-bits .and .u32 (y : Int) 1 % 4294967296)) = (crcBit y : Nat) := by
  have ha : bits .and .u32 (y : Int) 1 = ((y % 2 : Nat) : Int) := by have := u32_and_nat y 1 hy (by omega); rwa [Nat.and_one_is_mod] at this
  rw [ha, show (y : Int) / 2 = ((y / 2 : Nat) : Int) by omega]
  unfold crcBit
  by_cases hod : y % 2 = 1
  · rw [if_pos hod, hod]
    have hm : bits .and .u32 2197175160 (-((1 : Nat) : Int) % 4294967296) = ((2197175160 : Nat) : Int) := by decide
    rw [hm]
    exact u32_xor_nat _ _ (by omega) (by omega)
  · have h0 : y % 2 = 0 := by omega
    rw [if_neg hod, h0]
    have hm : bits .and .u32 2197175160 (-((0 : Nat) : Int) % 4294967296) = ((0 : Nat) : Int) := by decide
    rw [hm, u32_xor_nat _ _ (by omega) (by omega), Nat.xor_zero]
theorem crc_end (s : Nat) (hs : s < 4294967296) : wrap64 (bits .xor .u32 IntKind.u32.max (s : Int)) = ((4294967295 ^^^ s : Nat) : Int) := by
  have hx := u32_xor_nat 4294967295 s (by omega) hs
  have hl : 4294967295 ^^^ s < 4294967296 := Nat.xor_lt_two_pow (n := 32) (by omega) (by omega)
  rw [show (IntKind.u32.max : Int) = ((4294967295 : Nat) : Int) by decide, hx]
  exact IntWalk.wrap64_in _ ⟨by omega, by omega⟩
end Go.Amb
namespace Go.Proofs.Ytmnoldikimcafaa
set_option maxRecDepth 100000
open Go.RowKit Go.Amb
set_option linter.unusedVariables false
set_option linter.unusedSimpArgs false
set_option maxHeartbeats 1000000 in
theorem tagSum (v : Value) (l : List UInt8) (w : World) (hB : Bytes w v l) (hl : l.length ≤ 1000000) : Calls Try.prog 50 #[v] w (Ret (.int .i64 (sumC l : Nat)) w) := by
  obtain ⟨_, a, c, rfl, h1, h2, h3⟩ := hB
  replace h3 := Lib.hid h3
  generalize hn : l.length = n at *
  go_enter Try.func50, Try.ntmps50
  go_wp2_with fail
  go_loopw [3, 8] (fun sv iv wr => ∃ i : Nat, iv = .int .i64 (i : Int) ∧ i ≤ n ∧ sv = .int .u32 (crcL 4294967295 (l.take i) : Nat) ∧ wr = w) (fun _ iv _ => n - (intOf iv).toNat)
  case atStart => exact ⟨0, rfl, by omega, rfl, rfl⟩
  case round =>
    obtain ⟨i, rfl, hi, rfl, rfl⟩ := hrel
    by_cases hin : i < n
    · have hin' : (i : Int) < (n : Int) := by omega
      have hi0 : (0 : Int) ≤ (i : Int) := by omega
      have hb : l[i]? = some l[i] := List.getElem?_eq_getElem (by omega)
      obtain ⟨g, off, rfl, hc⟩ := h3.out.resolve_left (by omega)
      have x0 := hc i _ ((bc_get l i _).2 ⟨by omega, rfl⟩)
      have hsn : l.take (i + 1) = l.take i ++ [l[i]] := by rw [List.take_succ_eq_append_getElem (by omega)]
      have hlt := crcL_lt (l.take i) 4294967295 (by omega)
      have hsc := crcL_snoc (l.take i) l[i] 4294967295
      rw [← hsn] at hsc
      have hbl := l[i].toNat_lt
      generalize l[i] = b at *
      generalize crcL 4294967295 (l.take i) = s0 at *
      obtain ⟨s1, hs1⟩ : ∃ s1, crcL 4294967295 (l.take (i + 1)) = s1 := ⟨_, rfl⟩
      rw [hs1] at hsc
      replace hs1 := Lib.hid hs1
      have hxr : bits .xor .u32 (s0 : Int) (b.toNat : Int) = ((s0 ^^^ b.toNat : Nat) : Int) := u32_xor_nat _ _ hlt (by omega)
      have hxl : s0 ^^^ b.toNat < 4294967296 := Nat.xor_lt_two_pow (n := 32) (by omega) (by omega)
      generalize s0 ^^^ b.toNat = z at *
      clear hsn hb
      replace hc := Lib.hid hc
      replace hsc := Lib.hid hsc
      go_wp2_with fail
      go_loopw [3, 16] (fun sv kv wq => ∃ k : Nat, kv = .int .i64 (k : Int) ∧ k ≤ 8 ∧ sv = .int .u32 (crcN z k : Nat) ∧ wq = wr) (fun _ kv _ => 8 - (intOf kv).toNat)
      case atStart => exact ⟨0, rfl, by omega, rfl, rfl⟩
      case round =>
        obtain ⟨k, rfl, hk, rfl, rfl⟩ := hrel
        by_cases hk8 : k < 8
        · have hk8' : (k : Int) < 8 := by omega
          have hcl := crcN_lt hxl k
          go_wp2_with fail
          go_roundw
          case rel => exact ⟨k + 1, by go_num, by omega, by rw [crc_step _ hcl]; rfl, trivial⟩
          case measure => simp [intOf]; omega
        · obtain rfl : k = 8 := by omega
          have hk8' : ¬ ((8 : Nat) : Int) < 8 := by omega
          rw [← hsc.out]
          go_wp2_with fail
          go_roundw
          case rel => exact ⟨i + 1, by go_num, by omega, by rw [hs1.out], trivial⟩
          case measure => simp [intOf]; omega
    · obtain rfl : i = n := by omega
      have hin' : ¬ (i : Int) < (i : Int) := by omega
      rw [List.take_of_length_le (by omega)]
      have hlt := crcL_lt l 4294967295 (by omega)
      go_wp2_with fail
      go_ret
      exact ⟨by rw [crc_end _ hlt]; rfl, Upd.refl _ _⟩
end Go.Proofs.Ytmnoldikimcafaa
