/- The walks over package alloc: run. -/
import Derived.Test.YteeppclnmjlcbaaAC
namespace Go.Proofs.Yteeppclnmjlcbaa
open Go.RowKit Go.Amb
set_option linter.unusedVariables false

/-- How many pages from one on are free, at most so many. -/
def runN (B n : Nat) : Nat → Nat → Nat
  | _, 0 => 0
  | i, m + 1 => if i < n ∧ B.testBit i = false then runN B n (i + 1) m + 1 else 0
theorem runN_go {B n i m : Nat} (hm : 0 < m) (h : i < n) (hb : B.testBit i = false) : runN B n i m = runN B n (i + 1) (m - 1) + 1 := by
  obtain ⟨d, rfl⟩ : ∃ d, m = d + 1 := ⟨m - 1, by omega⟩
  rw [runN, if_pos ⟨h, hb⟩]; rfl
theorem runN_stop {B n i m : Nat} (h : ¬ (i < n ∧ B.testBit i = false)) : runN B n i m = 0 := by
  cases m with
  | zero => rfl
  | succ m => rw [runN, if_neg h]

set_option maxHeartbeats 2000000 in
theorem aRun (r g n B i most : Nat) (w : World) (h : AllocAt w r g n B) (hi : i ≤ n) (hmost : most < 9223372036854775808) : Calls Try.prog 24 #[.pointer (some ⟨r, 0, none⟩), .int .i64 (i : Int), .int .i64 (most : Int)] w (Ret (.int .i64 (runN B n i most : Nat)) w) := by
  have hm := h.most
  have hw0 := h.size
  go_enter Try.func24, Try.ntmps24
  go_wp2_with fail
  go_loopw [7] (fun kv wr => ∃ k : Nat, kv = .int .i64 (k : Int) ∧ k ≤ most ∧ i + k ≤ n ∧ runN B n (i + k) (most - k) + k = runN B n i most ∧ Upd Non w wr) (fun kv _ => most - (intOf kv).toNat)
  case atStart => exact ⟨0, rfl, by omega, by omega, rfl, Upd.refl _ _⟩
  case round =>
    obtain ⟨k, rfl, hk, hik, hr, hu⟩ := hrel
    have hA := h.non hu
    have c0 := hA.size
    have hw1 : IntKind.i64.wrap ((i : Int) + (k : Int)) = ((i + k : Nat) : Int) := IntWalk.i64_in _ ⟨by omega, by omega⟩
    by_cases h1 : k < most
    · by_cases h2 : i + k < n
      · have h2' : ((i + k : Nat) : Int) < n := by omega
        have his := Lib.hid (aIs r g n B (i + k) wr hA h2)
        have hlt : (k : Int) < (most : Int) := by omega
        generalize hp : i + k = p at *
        replace hp := Lib.hid hp
        cases hB : B.testBit p with
        | true =>
          rw [hB] at his
          have hres : Hid (runN B n i most = k) := by
            have := hr; rw [runN_stop (by simp [hB])] at this
            show _ = _
            omega
          replace hr := Lib.hid hr
          go_wp2_with fail
          refine (his.out).mono ?_
          rintro e w2 ⟨rfl, hu2⟩
          go_wp2_with fail
          go_ret
          exact ⟨by rw [hres.out]; rfl, hu.trans hu2 fun _ _ h => h⟩
        | false =>
          rw [hB] at his
          have hst := runN_go (B := B) (n := n) (i := p) (m := most - k) (by omega) h2 hB
          replace hst := Lib.hid hst
          replace hr := Lib.hid hr
          go_wp2_with fail
          refine (his.out).mono ?_
          rintro e w2 ⟨rfl, hu2⟩
          go_wp2_with fail
          go_roundw
          case rel => exact ⟨k + 1, by go_num, by omega, by have := hp.out; omega, by
            have h1 := hr.out
            have h2 := hst.out
            have h3 := hp.out
            rw [show i + (k + 1) = p + 1 by omega, show most - (k + 1) = most - k - 1 by omega]
            omega, hu.trans hu2 fun _ _ h => h⟩
          case measure => simp [intOf]; omega
      · have h2' : ¬ ((i + k : Nat) : Int) < n := by omega
        have hlt : (k : Int) < (most : Int) := by omega
        have hres : Hid (runN B n i most = k) := by
          have := hr; rw [runN_stop (fun h => h2 h.1)] at this
          show _ = _
          omega
        generalize hp : i + k = p at *
        replace hp := Lib.hid hp
        replace hr := Lib.hid hr
        go_wp2_with fail
        go_ret
        exact ⟨by rw [hres.out]; rfl, hu⟩
    · obtain rfl : k = most := by omega
      have hres : Hid (runN B n i k = k) := by
        have := hr; rw [Nat.sub_self] at this
        show _ = _
        rw [← this]; simp [runN]
      replace hr := Lib.hid hr
      go_wp2_with fail
      go_ret
      exact ⟨by rw [hres.out]; rfl, hu⟩
end Go.Proofs.Yteeppclnmjlcbaa
