/- The walks over package alloc: is, run. -/
import Derived.Test.YteeppclnmjlcbaaAB
namespace Go.Proofs.Yteeppclnmjlcbaa
open Go.RowKit Go.Amb
set_option linter.unusedVariables false

theorem AllocAt.non {w w' : World} {r g n B : Nat} (h : AllocAt w r g n B) (hu : Upd Non w w') : AllocAt w' r g n B :=
  ⟨h.pos, h.most, h.bits, h.apart, hu.cell h.size fun h => h, by
    obtain ⟨c, h1, h2, h3⟩ := h.cap
    exact ⟨c, h1, h2, hu.cell h3 fun h => h⟩, fun j hj => ⟨hu.cell (h.word j hj).1 fun h => h, (World.frozen?_of_block (a := ⟨g, j, none⟩) (hu.block g h.live.2 fun h => h)).trans (h.word j hj).2⟩, by have := hu.size; have := h.live; omega⟩

set_option maxHeartbeats 1000000 in
theorem aIs (r g n B i : Nat) (w : World) (h : AllocAt w r g n B) (hi : i < n) : Calls Try.prog 28 #[.pointer (some ⟨r, 0, none⟩), .int .i64 (i : Int)] w (Ret (.bool (B.testBit i)) w) := by
  obtain ⟨c, hc, hcm, h1⟩ := h.cap
  have hm := h.most
  have hj : i / 64 < (n + 63) / 64 := by omega
  obtain ⟨hw, -⟩ := h.word _ hj
  have hb := Lib.hid (fun w => aBit i w (by omega))
  have ht := word_test B i
  have hlt := wordN_lt B (i / 64)
  have hpow : 2 ^ (i % 64) < 2 ^ 64 := Nat.pow_lt_pow_right (by decide) (Nat.mod_lt i (by decide))
  rw [show 2 ^ 64 = 18446744073709551616 from rfl] at hpow
  have hand := u64_and (wordN B (i / 64)) (2 ^ (i % 64)) hlt hpow
  have hj0 : (0 : Int) ≤ ((i / 64 : Nat) : Int) := by omega
  have hj1 : ((i / 64 : Nat) : Int) < (((n + 63) / 64 : Nat) : Int) := by omega
  generalize wordN B (i / 64) = x at *
  generalize 2 ^ (i % 64) = y at *
  generalize i / 64 = j at *
  generalize (n + 63) / 64 = m at *
  have hfin : ((((x &&& y : Nat) : Int) != 0) : Bool) = B.testBit i := by
    cases hB : B.testBit i with
    | true => rw [hB] at ht; simpa using ht
    | false => rw [hB] at ht; simpa using ht
  replace ht := Lib.hid ht
  replace hfin := Lib.hid hfin
  replace hand := Lib.hid hand
  go_enter Try.func28, Try.ntmps28
  go_wp2_with fail
  refine (hb.out _).mono ?_
  rintro e w1 ⟨rfl, hu⟩
  have c1 := hu.cell h1 fun h => h
  have c2 := hu.cell hw fun h => h
  go_wp2_with fail
  go_ret
  exact ⟨by rw [← hfin.out, ← hand.out]; rfl, hu⟩
end Go.Proofs.Yteeppclnmjlcbaa
