/- The walks over package alloc: run. -/
import Derived.Test.YtfjcjppfihafgaaMAA
namespace Go.Proofs.Ytfjcjppfihafgaa
set_option maxRecDepth 100000
open Go.RowKit Go.Amb
set_option linter.unusedVariables false

/-- How many pages from one on are free, at most so many. -/
def runN (B n : Nat) : Nat → Nat → Nat
  | _, 0 => 0
  | i, m + 1 => if i < n ∧ B.testBit i = false then runN B n (i + 1) m + 1 else 0
theorem runN_go {B n i m : Nat} (hm : 0 < m) (h : i < n) (hb : B.testBit i = false) : runN B n i m = runN B n (i + 1) (m - 1) + 1 := by
  obtain ⟨d, rfl⟩ : ∃ d, m = d + 1 := ⟨m - 1, by omega⟩
  rw [runN, if_pos ⟨h, hb⟩]; rfl
theorem runN_stop {B n i m : Nat} (h : ¬ (i < n ∧ B.testBit i = false)) : runN B n i m = 0 := by
  cases m with
  | zero => rfl
  | succ m => rw [runN, if_neg h]

set_option maxHeartbeats 2000000 in
theorem aRun (r g n B i most : Nat) (w : World) (h : AllocAt w r g n B) (hi : i ≤ n) (hmost : most < 9223372036854775808) : Calls Try.prog 54 #[.pointer (some ⟨r, 0, none⟩), .int .i64 (i : Int), .int .i64 (most : Int)] w (Ret (.int .i64 (runN B n i most : Nat)) w) := by
  have hm := h.most
  have hw0 := h.size
  go_enter Try.func54, Try.ntmps54
  go_wp2_with fail
  go_loopw [7] (fun kv wr => ∃ k : Nat, kv = .int .i64 (k : Int) ∧ k ≤ most ∧ i + k ≤ n ∧ runN B n (i + k) (most - k) + k = runN B n i most ∧ Upd Non w wr) (fun kv _ => most - (intOf kv).toNat)
  case atStart => exact ⟨0, rfl, by omega, by omega, rfl, Upd.refl _ _⟩
  case round =>
    obtain ⟨k, rfl, hk, hik, hr, hu⟩ := hrel
    have hA := h.non hu
    have c0 := hA.size
    have hw1 : IntKind.i64.wrap ((i : Int) + (k : Int)) = ((i + k : Nat) : Int) := IntWalk.i64_in _ ⟨by omega, by omega⟩
    by_cases h1 : k < most
    · by_cases h2 : i + k < n
      · have h2' : ((i + k : Nat) : Int) < n := by omega
        have his := Lib.hid (aIs r g n B (i + k) wr hA h2)
        have hlt : (k : Int) < (most : Int) := by omega
        generalize hp : i + k = p at *
        replace hp := Lib.hid hp
        cases hB : B.testBit p with
        | true =>
          rw [hB] at his
          have hres : Hid (runN B n i most = k) := by
            have := hr; rw [runN_stop (by simp [hB])] at this
            show _ = _
            omega
          replace hr := Lib.hid hr
          go_wp2_with fail
          refine (his.out).mono ?_
          rintro e w2 ⟨rfl, hu2⟩
          go_wp2_with fail
          go_ret
          exact ⟨by rw [hres.out]; rfl, hu.trans hu2 fun _ _ h => h⟩
        | false =>
          rw [hB] at his
          have hst := runN_go (B := B) (n := n) (i := p) (m := most - k) (by omega) h2 hB
          replace hst := Lib.hid hst
          replace hr := Lib.hid hr
          go_wp2_with fail
          refine (his.out).mono ?_
          rintro e w2 ⟨rfl, hu2⟩
          go_wp2_with fail
          go_roundw
          case rel => exact ⟨k + 1, by go_num, by omega, by have := hp.out; omega, by
            have h1 := hr.out
            have h2 := hst.out
            have h3 := hp.out
            rw [show i + (k + 1) = p + 1 by omega, show most - (k + 1) = most - k - 1 by omega]
            omega, hu.trans hu2 fun _ _ h => h⟩
          case measure => simp [intOf]; omega
      · have h2' : ¬ ((i + k : Nat) : Int) < n := by omega
        have hlt : (k : Int) < (most : Int) := by omega
        have hres : Hid (runN B n i most = k) := by
          have := hr; rw [runN_stop (fun h => h2 h.1)] at this
          show _ = _
          omega
        generalize hp : i + k = p at *
        replace hp := Lib.hid hp
        replace hr := Lib.hid hr
        go_wp2_with fail
        go_ret
        exact ⟨by rw [hres.out]; rfl, hu⟩
    · obtain rfl : k = most := by omega
      have hres : Hid (runN B n i k = k) := by
        have := hr; rw [Nat.sub_self] at this
        show _ = _
        rw [← this]; simp [runN]
      replace hr := Lib.hid hr
      go_wp2_with fail
      go_ret
      exact ⟨by rw [hres.out]; rfl, hu⟩
end Go.Proofs.Ytfjcjppfihafgaa

namespace Go.Proofs.Ytfjcjppfihafgaa
set_option maxRecDepth 100000
open Go.RowKit Go.Amb
set_option linter.unusedVariables false

/-- One page's bit, set or not. -/
def putN (B i : Nat) (b : Bool) : Nat := if b then B ||| 2 ^ i else B ^^^ (B &&& 2 ^ i)
theorem putN_bit (B i j : Nat) (b : Bool) : (putN B i b).testBit j = if i = j then b else B.testBit j := by
  unfold putN
  cases b with
  | true =>
    rw [if_pos rfl, Nat.testBit_or, Nat.testBit_two_pow]
    by_cases h : i = j <;> simp [h]
  | false =>
    rw [if_neg (by decide), Nat.testBit_xor, Nat.testBit_and, Nat.testBit_two_pow]
    by_cases h : i = j <;> simp [h]
theorem putN_lt {B i n : Nat} (h : B < 2 ^ n) (hi : i < n) (b : Bool) : putN B i b < 2 ^ n := by
  apply Nat.lt_pow_two_of_testBit
  intro j hj
  rw [putN_bit, if_neg (by omega)]
  exact Nat.testBit_lt_two_pow (Nat.lt_of_lt_of_le h (Nat.pow_le_pow_right (by decide) hj))
theorem word_ext {x y : Nat} (hx : x < 18446744073709551616) (hy : y < 18446744073709551616) (h : ∀ k, k < 64 → x.testBit k = y.testBit k) : x = y := by
  apply Nat.eq_of_testBit_eq
  intro k
  by_cases hk : k < 64
  · exact h k hk
  · have hp : 2 ^ 64 ≤ 2 ^ k := Nat.pow_le_pow_right (by decide) (by omega)
    rw [Nat.testBit_lt_two_pow (Nat.lt_of_lt_of_le hx hp), Nat.testBit_lt_two_pow (Nat.lt_of_lt_of_le hy hp)]
theorem putN_word (B i : Nat) (b : Bool) : wordN (putN B i b) (i / 64) = putN (wordN B (i / 64)) (i % 64) b := by
  refine word_ext (wordN_lt _ _) (putN_lt (n := 64) (wordN_lt B _) (Nat.mod_lt _ (by decide)) b) fun k hk => ?_
  rw [wordN_bit _ _ _ hk, putN_bit, putN_bit, wordN_bit _ _ _ hk]
  by_cases h : i = 64 * (i / 64) + k
  · rw [if_pos h, if_pos (by omega)]
  · rw [if_neg h, if_neg (by omega)]
theorem putN_else (B i j : Nat) (b : Bool) (h : j ≠ i / 64) : wordN (putN B i b) j = wordN B j := by
  refine word_ext (wordN_lt _ _) (wordN_lt _ _) fun k hk => ?_
  rw [wordN_bit _ _ _ hk, putN_bit, wordN_bit _ _ _ hk, if_neg (by omega)]
theorem u64_or' (x y : Nat) (hx : x < 18446744073709551616) (hy : y < 18446744073709551616) : bits .or .u64 (x : Int) (y : Int) = ((x ||| y : Nat) : Int) := by
  show IntKind.u64.wrap (((BitVec.ofInt 64 (x : Int)) ||| (BitVec.ofInt 64 (y : Int))).toNat : Int) = _
  rw [BitVec.toNat_or, BitVec.toNat_ofInt, BitVec.toNat_ofInt]
  have ex : ((x : Int) % ((2 ^ 64 : Nat) : Int)).toNat = x := by omega
  have ey : ((y : Int) % ((2 ^ 64 : Nat) : Int)).toNat = y := by omega
  rw [ex, ey]
  have := Nat.or_lt_two_pow (n := 64) hx hy
  simp only [Nat.reducePow] at this
  exact IntWalk.u64_in _ ⟨by omega, by omega⟩
theorem u64_not (x y : Nat) (hx : x < 18446744073709551616) (hy : y < 18446744073709551616) : bits .andNot .u64 (x : Int) (y : Int) = ((x ^^^ (x &&& y) : Nat) : Int) := by
  show IntKind.u64.wrap (((BitVec.ofInt 64 (x : Int)) &&& ~~~ (BitVec.ofInt 64 (y : Int))).toNat : Int) = _
  have ex : (BitVec.ofInt 64 (x : Int)).toNat = x := by rw [BitVec.toNat_ofInt]; omega
  have ey : (BitVec.ofInt 64 (y : Int)).toNat = y := by rw [BitVec.toNat_ofInt]; omega
  have e : ((BitVec.ofInt 64 (x : Int)) &&& ~~~ (BitVec.ofInt 64 (y : Int))).toNat = x ^^^ (x &&& y) := by
    refine word_ext (BitVec.isLt _) (Nat.xor_lt_two_pow (n := 64) hx (Nat.lt_of_le_of_lt Nat.and_le_left hx)) fun k hk => ?_
    rw [BitVec.testBit_toNat, BitVec.getLsbD_and, BitVec.getLsbD_not, ← BitVec.testBit_toNat, ← BitVec.testBit_toNat, ex, ey, Nat.testBit_xor, Nat.testBit_and]
    cases x.testBit k <;> cases y.testBit k <;> simp [hk]
  rw [e]
  have := Nat.xor_lt_two_pow (n := 64) hx (Nat.lt_of_le_of_lt (Nat.and_le_left (n := x) (m := y)) hx)
  simp only [Nat.reducePow] at this
  exact IntWalk.u64_in _ ⟨by omega, by omega⟩
end Go.Proofs.Ytfjcjppfihafgaa

namespace Go.Proofs.Ytfjcjppfihafgaa
set_option maxRecDepth 100000
open Go.RowKit Go.Amb
set_option linter.unusedVariables false

theorem AllocAt.put {w : World} {r g n B i : Nat} (h : AllocAt w r g n B) (hi : i < n) (b : Bool) :
    AllocAt (w.setCell ⟨g, i / 64, none⟩ (.int .u64 (putN (wordN B (i / 64)) (i % 64) b : Nat))) r g n (putN B i b) := by
  have hu := Upd.setCell (S := fun k => k = g) w (a := ⟨g, i / 64, none⟩) rfl (.int .u64 (putN (wordN B (i / 64)) (i % 64) b : Nat))
  obtain ⟨c, h1, h2, h3⟩ := h.cap
  refine ⟨h.pos, h.most, putN_lt h.bits hi b, h.apart, hu.cell h.size h.apart, ⟨c, h1, h2, hu.cell h3 h.apart⟩, fun j hj => ?_, by have := hu.size; have := h.live; omega⟩
  refine ⟨?_, by rw [World.frozen?_setCell]; exact (h.word j hj).2⟩
  by_cases e : j = i / 64
  · subst e
    rw [putN_word]
    exact World.cell?_setCell_same' _ _ _ (by rw [(h.word _ hj).1]; rfl)
  · rw [putN_else _ _ _ _ e]
    refine Eq.trans ?_ (h.word j hj).1
    exact World.cell?_setCell_other _ _ _ _ (fun q => e (by injection q with _ q _; exact q.symm))
/-- So many pages' bits. -/
def setN : Nat → Nat → Nat → Bool → Nat
  | B, _, 0, _ => B
  | B, i, k + 1, b => setN (putN B i b) (i + 1) k b
set_option maxHeartbeats 2000000 in
theorem aSet (r g n B i k : Nat) (b : Bool) (w : World) (h : AllocAt w r g n B) (hi : i + k ≤ n) : Calls Try.prog 43 #[.pointer (some ⟨r, 0, none⟩), .int .i64 (i : Int), .int .i64 (k : Int), .bool b] w (fun e w' => e = .returned (.tuple #[]) ∧ AllocAt w' r g n (setN B i k b) ∧ Upd (fun j => j = g) w w') := by
  have hm := h.most
  have hik : IntKind.i64.wrap ((i : Int) + (k : Int)) = ((i + k : Nat) : Int) := IntWalk.i64_in _ ⟨by omega, by omega⟩
  go_enter Try.func43, Try.ntmps43
  go_wp2_with fail
  go_loopw [8] (fun pv wr => ∃ d B', pv = .int .i64 ((i + d : Nat) : Int) ∧ d ≤ k ∧ AllocAt wr r g n B' ∧ setN B' (i + d) (k - d) b = setN B i k b ∧ Upd (fun j => j = g) w wr) (fun pv _ => i + k - (intOf pv).toNat)
  case atStart => exact ⟨0, B, rfl, by omega, h, rfl, Upd.refl _ _⟩
  case round =>
    obtain ⟨d, B', rfl, hd, hA, hs, hu⟩ := hrel
    by_cases hdk : d < k
    · have hst : setN B' (i + d) (k - d) b = setN (putN B' (i + d) b) (i + d + 1) (k - d - 1) b := by
        obtain ⟨m, hm⟩ : ∃ m, k - d = m + 1 := ⟨k - d - 1, by omega⟩
        rw [hm]; rfl
      have hp : i + d < n := by omega
      have hlt : ((i + d : Nat) : Int) < ((i + k : Nat) : Int) := by omega
      have hput := fun (w1 : World) (hu : Upd Non wr w1) => (hA.non hu).put hp b
      have hb := Lib.hid (fun w => aBit (i + d) w (by omega))
      obtain ⟨c, hc, hcm, h1⟩ := hA.cap
      have hj : (i + d) / 64 < (n + 63) / 64 := by omega
      obtain ⟨hw, hf⟩ := hA.word _ hj
      have hxl := wordN_lt B' ((i + d) / 64)
      have hpow : 2 ^ ((i + d) % 64) < 2 ^ 64 := Nat.pow_lt_pow_right (by decide) (Nat.mod_lt (i + d) (by decide))
      rw [show 2 ^ 64 = 18446744073709551616 from rfl] at hpow
      have hor := u64_or' _ _ hxl hpow
      have hno := u64_not _ _ hxl hpow
      have ez : putN (wordN B' ((i + d) / 64)) ((i + d) % 64) b = if b then wordN B' ((i + d) / 64) ||| 2 ^ ((i + d) % 64) else wordN B' ((i + d) / 64) ^^^ (wordN B' ((i + d) / 64) &&& 2 ^ ((i + d) % 64)) := rfl
      rw [ez] at hput
      have hj0 : (0 : Int) ≤ (((i + d) / 64 : Nat) : Int) := by omega
      have hj1 : (((i + d) / 64 : Nat) : Int) < (((n + 63) / 64 : Nat) : Int) := by omega
      have hl := hA.live
      generalize wordN B' ((i + d) / 64) = x at *
      generalize 2 ^ ((i + d) % 64) = y at *
      generalize (i + d) / 64 = j at *
      generalize (n + 63) / 64 = m at *
      generalize hpe : i + d = p at *
      replace hpe := Lib.hid hpe
      replace hput := Lib.hid hput
      replace hst := Lib.hid hst
      replace hs := Lib.hid hs
      clear ez
      cases b with
      | true =>
        go_wp2_with fail
        refine (hb.out _).mono ?_
        rintro e w1 ⟨rfl, hu1⟩
        have c1 := hu1.cell h1 fun h => h
        have c2 := hu1.cell hw fun h => h
        have c3 : w1.frozen? ⟨g, j, none⟩ = false := (World.frozen?_of_block (a := ⟨g, j, none⟩) (hu1.block g hl.2 fun h => h)).trans hf
        have hpu := Lib.hid (hput.out w1 hu1)
        go_wp2_with fail
        go_roundw
        case rel =>
          have hpu' : AllocAt (w1.setCell ⟨g, j, none⟩ (.int .u64 (((x ||| y) : Nat) : Int))) r g n (putN B' p true) := by
            have := hpu.out
            simpa using this
          exact ⟨d + 1, _, by have := hpe.out; go_num, by omega, hpu', by
            have h1 := hst.out
            have h2 := hs.out
            have h3 := hpe.out
            rw [show i + (d + 1) = p + 1 by omega, show k - (d + 1) = k - d - 1 by omega, ← h1, h2], (hu.trans hu1 fun _ _ h => h.elim).then_setCell (fun _ => rfl) _⟩
        case measure => have := hpe.out; simp [intOf]; omega
      | false =>
        go_wp2_with fail
        refine (hb.out _).mono ?_
        rintro e w1 ⟨rfl, hu1⟩
        have c1 := hu1.cell h1 fun h => h
        have c2 := hu1.cell hw fun h => h
        have c3 : w1.frozen? ⟨g, j, none⟩ = false := (World.frozen?_of_block (a := ⟨g, j, none⟩) (hu1.block g hl.2 fun h => h)).trans hf
        have hpu := Lib.hid (hput.out w1 hu1)
        go_wp2_with fail
        go_roundw
        case rel =>
          have hpu' : AllocAt (w1.setCell ⟨g, j, none⟩ (.int .u64 (((x ^^^ (x &&& y)) : Nat) : Int))) r g n (putN B' p false) := by
            have := hpu.out
            simpa using this
          exact ⟨d + 1, _, by have := hpe.out; go_num, by omega, hpu', by
            have h1 := hst.out
            have h2 := hs.out
            have h3 := hpe.out
            rw [show i + (d + 1) = p + 1 by omega, show k - (d + 1) = k - d - 1 by omega, ← h1, h2], (hu.trans hu1 fun _ _ h => h.elim).then_setCell (fun _ => rfl) _⟩
        case measure => have := hpe.out; simp [intOf]; omega
    · obtain rfl : d = k := by omega
      have hlt : ¬ ((i + d : Nat) : Int) < ((i + d : Nat) : Int) := by omega
      rw [Nat.sub_self] at hs
      replace hs : Hid (B' = setN B i d b) := hs
      go_wp2_with fail
      go_returns
      exact ⟨rfl, by rw [← hs.out]; exact hA, hu⟩
end Go.Proofs.Ytfjcjppfihafgaa
