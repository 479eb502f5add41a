/- The walks over package alloc: Free. -/
import Derived.Test.YtfjcjppfihafgaaMAG
namespace Go.Proofs.Ytfjcjppfihafgaa
set_option maxRecDepth 100000
open Go.RowKit Go.Amb
set_option linter.unusedVariables false

theorem popc_word (B m : Nat) : popc (64 * (m + 1)) B = popc (64 * m) B + popc 64 (wordN B m) := by
  rw [show 64 * (m + 1) = 64 * m + 64 by omega, popc_add]
  unfold wordN
  rw [show 18446744073709551616 = 2 ^ 64 from rfl, popc_mod]
theorem popc_zero (k : Nat) : popc k 0 = 0 := by
  induction k with
  | zero => rfl
  | succ k ih => simp [popc, ih]
theorem popc_top {B n m : Nat} (h : B < 2 ^ n) (hm : n ≤ m) : popc m B = popc n B := by
  obtain ⟨d, rfl⟩ : ∃ d, m = n + d := ⟨m - n, by omega⟩
  rw [popc_add, Nat.div_eq_of_lt h, popc_zero, Nat.add_zero]
theorem popc_none (B : Nat) : popc 0 B = 0 := rfl
attribute [local irreducible] popc
set_option maxHeartbeats 1000000 in
theorem aFree (r g n B : Nat) (w : World) (h : AllocAt w r g n B) : Calls Try.prog 37 #[.pointer (some ⟨r, 0, none⟩)] w (Ret (.int .i64 ((n - popc n B : Nat) : Int)) w) := by
  have hm := Lib.hid (aMade r g n B w h)
  have hA := h
  have h1 := h.size
  have h2 := h.most
  obtain ⟨c, hc, hcm, h3⟩ := h.cap
  clear h
  have htop : popc (64 * ((n + 63) / 64)) B = popc n B := popc_top hA.bits (by omega)
  have hle := popc_le n B
  have hm1 : (n + 63) / 64 ≤ 256 := by omega
  have hwd := hA.word
  generalize (n + 63) / 64 = m at *
  go_enter Try.func37, Try.ntmps37
  go_wp2_with fail
  refine hm.out.mono ?_
  rintro e w1 ⟨rfl, hu⟩
  have c1 := hu.cell h1 fun h => h
  have c2 := hu.cell h3 fun h => h
  go_wp2_with fail
  go_loopw [3, 18] (fun nv jv wr => ∃ j : Nat, jv = .int .i64 (j : Int) ∧ j ≤ m ∧ nv = .int .i64 ((n : Int) - (popc (64 * j) B : Nat)) ∧ Upd Non w wr) (fun _ jv _ => m - (intOf jv).toNat)
  case atStart => exact ⟨0, rfl, by omega, by simp [popc_none], hu⟩
  case round =>
    obtain ⟨j, rfl, hj, rfl, hr⟩ := hrel
    by_cases hjm : j < m
    · have hp := popc_word B j
      have hq := popc_le (64 * j) B
      have hq2 := popc_le 64 (wordN B j)
      have ho := Lib.hid (fun w => onesCount (wordN B j) w (wordN_lt B j))
      have cw := hr.cell (hwd j hjm).1 fun h => h
      have hlt : (j : Int) < (m : Int) := by omega
      generalize popc (64 * j) B = a at *
      generalize popc 64 (wordN B j) = b at *
      generalize wordN B j = x at *
      generalize hpp : popc (64 * (j + 1)) B = p at *
      replace hp := Lib.hid hp
      replace hpp := Lib.hid hpp
      have hsub : IntKind.i64.wrap ((n : Int) - (a : Int) - (b : Int)) = (n : Int) - (a : Int) - (b : Int) := IntWalk.i64_in _ ⟨by omega, by omega⟩
      go_wp2_with fail
      refine (ho.out _).mono ?_
      rintro e w2 ⟨rfl, rfl⟩
      go_wp2_with fail
      go_roundw
      case rel => exact ⟨j + 1, by go_num, by omega, by rw [hpp.out]; have := hp.out; congr 1; omega, hr⟩
      case measure => simp [intOf]; omega
    · obtain rfl : j = m := by omega
      have hres : Hid ((n : Int) - (popc (64 * j) B : Nat) = ((n - popc n B : Nat) : Int)) := by show _ = _; rw [htop]; omega
      replace htop := Lib.hid htop
      go_wp2_with fail
      go_ret
      exact ⟨by rw [← hres.out]; rfl, hr⟩
end Go.Proofs.Ytfjcjppfihafgaa
