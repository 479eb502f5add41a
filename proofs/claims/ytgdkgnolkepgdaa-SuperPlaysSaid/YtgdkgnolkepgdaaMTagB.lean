/- The reference's Sum. -/
import Derived.Test.YtgdkgnolkepgdaaMTagA
namespace Go.Proofs.Ytgdkgnolkepgdaa
set_option maxRecDepth 100000
open Go.RowKit Go.Amb
set_option linter.unusedVariables false
set_option linter.unusedSimpArgs false
theorem crc_end2 (s : Nat) (hs : s < 4294967296) : wrap64 (bits .xor .u32 (s : Int) 4294967295) = ((4294967295 ^^^ s : Nat) : Int) := by
  have hx := u32_xor_nat s 4294967295 hs (by omega)
  have hl : 4294967295 ^^^ s < 4294967296 := Nat.xor_lt_two_pow (n := 32) (by omega) (by omega)
  rw [show (4294967295 : Int) = ((4294967295 : Nat) : Int) by decide, hx, Nat.xor_comm]
  exact IntWalk.wrap64_in _ ⟨by omega, by omega⟩
set_option maxHeartbeats 1000000 in
theorem refSum (l : List UInt8) (w : World) (hl : l.length ≤ 1000000) : Calls Try.prog 58 #[.string ⟨l.toArray⟩] w (Ret (.int .i64 (sumC l : Nat)) w) := by
  generalize hn : l.length = n at *
  go_enter Try.func58, Try.ntmps58
  go_wp2_with fail
  go_loopw [3, 4] (fun sv iv wr => ∃ i : Nat, iv = .int .i64 (i : Int) ∧ i ≤ n ∧ sv = .int .u32 (crcL 4294967295 (l.take i) : Nat) ∧ wr = w) (fun _ iv _ => n - (intOf iv).toNat)
  case atStart => exact ⟨0, rfl, by omega, rfl, rfl⟩
  case round =>
    obtain ⟨i, rfl, hi, rfl, rfl⟩ := hrel
    by_cases hin : i < n
    · have hin' : (i : Int) < (n : Int) := by omega
      have hi0 : (0 : Int) ≤ (i : Int) := by omega
      have hlt2 : i < l.length := by omega
      have hsn : l.take (i + 1) = l.take i ++ [l[i]] := by rw [List.take_succ_eq_append_getElem hlt2]
      have hlt := crcL_lt (l.take i) 4294967295 (by omega)
      have hsc := crcL_snoc (l.take i) l[i] 4294967295
      rw [← hsn] at hsc
      obtain ⟨s1, hs1⟩ : ∃ s1, crcL 4294967295 (l.take (i + 1)) = s1 := ⟨_, rfl⟩
      rw [hs1] at hsc
      replace hs1 := Lib.hid hs1
      generalize crcL 4294967295 (l.take i) = s0 at *
      have hbl := l[i].toNat_lt
      have hxr : bits .xor .u32 (s0 : Int) (l[i].toNat : Int) = ((s0 ^^^ l[i].toNat : Nat) : Int) := u32_xor_nat _ _ hlt (by omega)
      have hxl : s0 ^^^ l[i].toNat < 4294967296 := Nat.xor_lt_two_pow (n := 32) (by omega) (by omega)
      obtain ⟨z, hz⟩ : ∃ z, s0 ^^^ l[i].toNat = z := ⟨_, rfl⟩
      rw [hz] at hxr hxl hsc
      clear hsn hz
      replace hsc := Lib.hid hsc
      go_wp2_with fail
      go_loopw [3, 5] (fun sv kv wq => ∃ k : Nat, kv = .int .i64 (k : Int) ∧ k ≤ 8 ∧ sv = .int .u32 (crcN z k : Nat) ∧ wq = wr) (fun _ kv _ => 8 - (intOf kv).toNat)
      case atStart =>
        refine ⟨0, rfl, by omega, congrArg (Value.int .u32) ?_, rfl⟩
        show _ = (z : Int)
        rw [← hxr]
        congr 1
        show (l[i].toNat : Int) % 4294967296 = _
        omega
      case round =>
        clear hxr
        obtain ⟨k, rfl, hk, rfl, rfl⟩ := hrel
        by_cases hk8 : k < 8
        · have hk8' : (k : Int) < 8 := by omega
          have hcl := crcN_lt hxl k
          have hstep : crcN z (k + 1) = crcBit (crcN z k) := rfl
          unfold crcBit at hstep
          have hdiv : ((crcN z k : Nat) : Int) / 2 = ((crcN z k / 2 : Nat) : Int) := by omega
          by_cases hod : crcN z k % 2 = 1
          · rw [if_pos hod] at hstep
            have ha : bits .and .u32 ((crcN z k : Nat) : Int) 1 = 1 := by have := u32_and_nat (crcN z k) 1 hcl (by omega); rw [Nat.and_one_is_mod, hod] at this; exact this
            have hx : bits .xor .u32 (((crcN z k : Nat) : Int) / 2) 2197175160 = ((crcN z k / 2 ^^^ 2197175160 : Nat) : Int) := by rw [hdiv]; exact u32_xor_nat _ _ (by omega) (by decide)
            replace hstep := Lib.hid hstep
            clear hdiv hod
            go_wp2_with fail
            go_roundw
            case rel => exact ⟨k + 1, by go_num, by omega, by first | (rw [hstep.out]; done) | (rw [hstep.out, hx]), by first | trivial | rfl⟩
            case measure => simp [intOf]; omega
          · rw [if_neg hod] at hstep
            have ha : bits .and .u32 ((crcN z k : Nat) : Int) 1 = 0 := by have := u32_and_nat (crcN z k) 1 hcl (by omega); rw [Nat.and_one_is_mod, show crcN z k % 2 = 0 by omega] at this; exact this
            replace hstep := Lib.hid hstep
            replace hdiv := Lib.hid hdiv
            clear hod
            go_wp2_with fail
            go_roundw
            case rel => exact ⟨k + 1, by go_num, by omega, by first | (rw [hstep.out]; done) | (rw [hstep.out, hdiv.out]), by first | trivial | rfl⟩
            case measure => simp [intOf]; omega
        · obtain rfl : k = 8 := by omega
          have hk8' : ¬ ((8 : Nat) : Int) < 8 := by omega
          rw [← hsc.out]
          go_wp2_with fail
          go_roundw
          case rel => exact ⟨i + 1, by go_num, by omega, by rw [hs1.out], by first | trivial | rfl⟩
          case measure => simp [intOf]; omega
    · obtain rfl : i = n := by omega
      have hin' : ¬ (i : Int) < (i : Int) := by omega
      rw [List.take_of_length_le (by omega)]
      have hlt := crcL_lt l 4294967295 (by omega)
      go_wp2_with fail
      go_ret
      exact ⟨by rw [crc_end2 _ hlt]; rfl, Upd.refl _ _⟩
end Go.Proofs.Ytgdkgnolkepgdaa
