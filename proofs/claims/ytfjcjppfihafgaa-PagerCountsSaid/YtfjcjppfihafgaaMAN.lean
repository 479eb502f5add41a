/- The walks over package alloc: Give. -/
import Derived.Test.YtfjcjppfihafgaaMAM
namespace Go.Proofs.Ytfjcjppfihafgaa
set_option maxRecDepth 100000
open Go.RowKit Go.Amb
set_option linter.unusedVariables false

/-- Are so many pages taken? -/
def allN (B : Nat) : Nat → Nat → Bool
  | _, 0 => true
  | i, k + 1 => B.testBit i && allN B (i + 1) k
/-- What Give answers, and which pages are taken then. -/
def giveV (B n : Nat) (i k : Int) : Int × Nat :=
  if k < 1 then (2, B) else if i < 0 ∨ (n : Int) < k ∨ (n : Int) - k < i then (6, B) else if allN B i.toNat k.toNat then (0, setN B i.toNat k.toNat false) else (7, B)
set_option maxHeartbeats 2000000 in
theorem aGive (r g n B : Nat) (i k : Int) (w : World) (h : AllocAt w r g n B) (hi : -9223372036854775808 ≤ i ∧ i < 9223372036854775808) (hk : k < 9223372036854775808) : Calls Try.prog 26 #[.pointer (some ⟨r, 0, none⟩), .int .i64 i, .int .i64 k] w (fun e w' => e = .returned (.int .i64 (giveV B n i k).1) ∧ AllocAt w' r g n (giveV B n i k).2 ∧ Upd (fun j => j = g) w w') := by
  have hm := Lib.hid (aMade r g n B w h)
  have hA0 := h
  have h0 := h.size
  have hn := h.most
  clear h
  have up : ∀ {w w' : World}, Upd Non w w' → Upd (fun j => j = g) w w' := fun hu => (Upd.refl _ _).trans hu fun _ _ h => h.elim
  by_cases h1 : k < 1
  · have hE : giveV B n i k = (2, B) := if_pos h1
    rw [hE]
    clear hE
    go_enter Try.func26, Try.ntmps26
    go_wp2_with fail
    refine hm.out.mono ?_
    rintro e w1 ⟨rfl, hu⟩
    have c1 := hu.cell h0 fun h => h
    go_wp2_with fail
    go_ret
    exact ⟨rfl, hA0.non hu, up hu⟩
  · by_cases h2 : i < 0 ∨ (n : Int) < k ∨ (n : Int) - k < i
    · have hE : giveV B n i k = (6, B) := by rw [giveV, if_neg h1, if_pos h2]
      rw [hE]
      clear hE
      by_cases h3 : i < 0
      · go_enter Try.func26, Try.ntmps26
        go_wp2_with fail
        refine hm.out.mono ?_
        rintro e w1 ⟨rfl, hu⟩
        have c1 := hu.cell h0 fun h => h
        go_wp2_with fail
        go_ret
        exact ⟨rfl, hA0.non hu, up hu⟩
      · by_cases h4 : (n : Int) < k
        · go_enter Try.func26, Try.ntmps26
          go_wp2_with fail
          refine hm.out.mono ?_
          rintro e w1 ⟨rfl, hu⟩
          have c1 := hu.cell h0 fun h => h
          go_wp2_with fail
          go_ret
          exact ⟨rfl, hA0.non hu, up hu⟩
        · have h5 : (n : Int) - k < i := by omega
          have hwr : IntKind.i64.wrap ((n : Int) - k) = (n : Int) - k := IntWalk.i64_in _ ⟨by omega, by omega⟩
          go_enter Try.func26, Try.ntmps26
          go_wp2_with fail
          refine hm.out.mono ?_
          rintro e w1 ⟨rfl, hu⟩
          have c1 := hu.cell h0 fun h => h
          go_wp2_with fail
          go_ret
          exact ⟨rfl, hA0.non hu, up hu⟩
    · obtain ⟨p, rfl⟩ := Int.eq_ofNat_of_zero_le (show 0 ≤ i by omega)
      obtain ⟨m, rfl⟩ := Int.eq_ofNat_of_zero_le (show 0 ≤ k by omega)
      have hfit : p + m ≤ n := by omega
      have hE : giveV B n (p : Int) (m : Int) = if allN B p m then (0, setN B p m false) else (7, B) := by rw [giveV, if_neg h1, if_neg h2]; rfl
      obtain ⟨R, hR, hRt, hRf⟩ : ∃ R, (if allN B p m then (0, setN B p m false) else (7, B)) = R ∧ Hid (allN B p m = true → R = ((0 : Int), setN B p m false)) ∧ Hid (allN B p m = false → R = (7, B)) :=
        ⟨_, rfl, Lib.hid fun h => by rw [if_pos h], Lib.hid fun h => by rw [if_neg (by simp [h])]⟩
      rw [hE, hR]
      clear hE hR
      have hwr : IntKind.i64.wrap ((n : Int) - (m : Int)) = (n : Int) - (m : Int) := IntWalk.i64_in _ ⟨by omega, by omega⟩
      have hwp : IntKind.i64.wrap ((p : Int) + (m : Int)) = ((p + m : Nat) : Int) := IntWalk.i64_in _ ⟨by omega, by omega⟩
      have g1 : ¬ (p : Int) < 0 := by omega
      have g2 : ¬ (n : Int) < (m : Int) := by omega
      have g4 : ¬ n < m := by omega
      have g3 : ¬ (n : Int) - (m : Int) < (p : Int) := by omega
      clear h2 hi hk
      have hs := Lib.hid (fun w h => aSet r g n B p m false w h hfit)
      go_enter Try.func26, Try.ntmps26
      go_wp2_with fail
      refine hm.out.mono ?_
      rintro e w1 ⟨rfl, hu⟩
      have c1 := hu.cell h0 fun h => h
      go_wp2_with fail
      go_loopw [7] (fun pv wr => ∃ d : Nat, pv = .int .i64 ((p + d : Nat) : Int) ∧ d ≤ m ∧ allN B (p + d) (m - d) = allN B p m ∧ Upd Non w wr) (fun pv _ => p + m - (intOf pv).toNat)
      case atStart => exact ⟨0, rfl, by omega, rfl, hu⟩
      case round =>
        obtain ⟨d, rfl, hd, hal, hur⟩ := hrel
        by_cases hdm : d < m
        · have hlt : ((p + d : Nat) : Int) < ((p + m : Nat) : Int) := by omega
          have hst : allN B (p + d) (m - d) = (B.testBit (p + d) && allN B (p + d + 1) (m - d - 1)) := by
            obtain ⟨q, hq⟩ : ∃ q, m - d = q + 1 := ⟨m - d - 1, by omega⟩
            rw [hq]; rfl
          have his := Lib.hid (fun w h => aIs r g n B (p + d) w h (by omega))
          replace hst := Lib.hid hst
          replace hal := Lib.hid hal
          generalize hpe : p + d = q at *
          replace hpe := Lib.hid hpe
          cases hb : B.testBit q with
          | true =>
            rw [hb] at his
            go_wp2_with fail
            refine (his.out _ (hA0.non hur)).mono ?_
            rintro e w2 ⟨rfl, hu2⟩
            go_wp2_with fail
            go_roundw
            case rel => exact ⟨d + 1, by have := hpe.out; go_num, by omega, by
              have e1 := hst.out
              have e2 := hal.out
              have e3 := hpe.out
              rw [show p + (d + 1) = q + 1 by omega, show m - (d + 1) = m - d - 1 by omega, ← e2, e1, hb]; rfl, hur.trans hu2 fun _ _ h => h⟩
            case measure => have := hpe.out; simp [intOf]; omega
          | false =>
            rw [hb] at his
            go_wp2_with fail
            refine (his.out _ (hA0.non hur)).mono ?_
            rintro e w2 ⟨rfl, hu2⟩
            go_wp2_with fail
            go_ret
            have e0 : allN B p m = false := by rw [← hal.out, hst.out, hb]; rfl
            rw [hRf.out e0]
            exact ⟨rfl, (hA0.non hur).non hu2, (up hur).trans (up hu2) fun _ _ h => h⟩
        · obtain rfl : d = m := by omega
          have hlt : ¬ ((p + d : Nat) : Int) < ((p + d : Nat) : Int) := by omega
          rw [Nat.sub_self] at hal
          replace hal : Hid (true = allN B p d) := hal
          go_wp2_with fail
          refine (hs.out _ (hA0.non hur)).mono ?_
          rintro e w3 ⟨rfl, hA, hu3⟩
          go_wp2_with fail
          go_ret
          rw [hRt.out hal.out.symm]
          exact ⟨rfl, hA, (up hur).trans hu3 fun _ _ h => h⟩
end Go.Proofs.Ytfjcjppfihafgaa
