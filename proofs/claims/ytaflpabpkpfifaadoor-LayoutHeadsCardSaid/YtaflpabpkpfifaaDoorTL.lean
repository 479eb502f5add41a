/- The walks over tuple.read, ambryref02.first. -/
import Derived.Test.YtaflpabpkpfifaaDoorTPlainC
namespace Go.Proofs.YtaflpabpkpfifaaDoor
set_option maxRecDepth 100000
open Go.RowKit Go.Amb
set_option linter.unusedVariables false
attribute [local go_sem ↓] Go.wp_at_zero Go.wp_at_succ

theorem xor_u64_in (U : Int) (h0 : 0 ≤ U) (h1 : U < 18446744073709551616) : wrap64 (bits .xor .u64 U 9223372036854775808) = U - 9223372036854775808 := by
  obtain ⟨m, rfl⟩ := Int.eq_ofNat_of_zero_le h0
  have := bits_xor_u64_nat m 9223372036854775808 (by omega) (by decide)
  rw [show (9223372036854775808 : Int) = ((9223372036854775808 : Nat) : Int) by rfl, this, xor_top m (by omega)]
  simp only [wrap64]
  by_cases h : m < 9223372036854775808
  · rw [if_pos h]
    omega
  · rw [if_neg h]
    omega
theorem wrap_top (y : List UInt8) (h : y.length = 8) : wrap64 (numL (topT y)) = numL y - 9223372036854775808 := by
  match y, h with
  | b :: ys, h =>
    have hl : ys.length = 7 := by simpa using h
    have e1 : topT (b :: ys) = (b ^^^ 128) :: ys := rfl
    rw [e1, numL_cons, numL_cons, byte_top, hl]
    have h0 := numL_nonneg ys
    have h1 := numL_lt ys
    rw [hl] at h1
    have hb := b.toNat_lt
    have e2 : (256 : Int) ^ 7 = 72057594037927936 := by decide
    rw [e2] at *
    simp only [wrap64]
    omega
theorem downT_not (y : List UInt8) : downT y y.length = y.map (· ^^^ 255) := by
  unfold downT
  rw [List.take_length, List.drop_length, List.append_nil]
  refine List.map_congr_left fun b _ => ?_
  show 255 - b = b ^^^ 255
  have hb := b.toNat_lt
  rw [← UInt8.toNat_inj, byte_not, UInt8.toNat_sub_of_le _ _ (by rw [UInt8.le_iff_toNat_le]; show _ ≤ 255; omega)]
  rfl

set_option maxHeartbeats 1000000 in
theorem tRead (s : List UInt8) (mask : UInt8) (w : World) (hs : s.length = 8) : Calls Tryd.prog 61 #[.string ⟨s.toArray⟩, .int .u8 mask.toNat] w (Ret (.int .i64 (rdN mask s)) w) := by
  have hs' : s.length ≤ 1000 := by omega
  replace hs := Lib.hid hs
  go_enter Tryd.func61, Tryd.ntmps61
  go_wp2_with (refine wpList_tobytes rfl _ 9 86 5 rfl Tryd.underlying9 Tryd.underlying86 Tryd.underlying5 s rfl (by unfold maxLen; omega) ?_)
  intro c w1 hm
  have hcap := hm.cap
  have hmax := hm.max
  unfold maxLen at hmax
  have hu1 := Lib.hid hm.upd
  have hcell := Lib.hid hm.cell
  clear hm
  generalize hN : w.heap.size = N at *
  replace hN := Lib.hid hN
  go_wp2_with fail
  go_loop [5, 7, 11] (fun u _ i => ∃ (k : Nat) (z : Int), k ≤ s.length ∧ i = .int .i64 k ∧ u = .int .u64 z ∧ z = numL ((s.take k).map (· ^^^ mask))) (fun _ _ i => s.length - (intOf i).toNat)
  case atStart => exact ⟨0, 0, by omega, rfl, rfl, rfl⟩
  case round =>
    obtain ⟨k, z, hk, rfl, rfl, hz⟩ := hrel
    have h0 : 0 ≤ z := by rw [hz]; exact numL_nonneg _
    by_cases hlt : k < s.length
    · have hc := hcell.out k hlt
      have hx := xor_u8 s[k] mask
      have h1 : z < 256 ^ 7 := by rw [hz]; exact numL_lt_of (by have := hs.out; simp; omega)
      have hst := num_step z (s[k] ^^^ mask) h0 h1
      have ht : (s.take (k + 1)).map (· ^^^ mask) = (s.take k).map (· ^^^ mask) ++ [s[k] ^^^ mask] := by
        rw [take_snoc s k hlt, List.map_append]; exact rfl
      replace ht := Lib.hid ht
      replace hz := Lib.hid hz
      generalize s[k] ^^^ mask = b at *
      clear h1
      go_wp2_with fail
      go_round
      case rel => exact ⟨k + 1, z * 256 + b.toNat, by omega, by go_num, rfl, by rw [ht.out, numL_snoc, hz.out]⟩
      case measure => simp [intOf]; omega
    · obtain rfl : k = s.length := by omega
      rw [List.take_length] at hz
      have h1 := numL_lt (s.map (· ^^^ mask))
      rw [List.length_map, hs.out, ← hz] at h1
      have hx := xor_u64_in z h0 h1
      replace hx := Lib.hid hx
      replace hz := Lib.hid hz
      clear h1
      go_wp2_with fail
      go_ret
      refine ⟨?_, hu1.out⟩
      unfold rdN
      rw [← hz.out, ← hx.out]
      rfl
end Go.Proofs.YtaflpabpkpfifaaDoor
