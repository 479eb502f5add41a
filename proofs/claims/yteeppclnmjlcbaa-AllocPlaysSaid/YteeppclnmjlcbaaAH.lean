/- The walks over package alloc: Has. -/
import Derived.Test.YteeppclnmjlcbaaAG
namespace Go.Proofs.Yteeppclnmjlcbaa
open Go.RowKit Go.Amb
set_option linter.unusedVariables false

set_option maxHeartbeats 1000000 in
theorem aHas (r g n B : Nat) (i : Int) (w : World) (h : AllocAt w r g n B) : Calls Try.prog 15 #[.pointer (some ⟨r, 0, none⟩), .int .i64 i] w (Ret (.bool (decide (0 ≤ i ∧ i < n) && B.testBit i.toNat)) w) := by
  have hm := Lib.hid (aMade r g n B w h)
  have h1 := h.size
  by_cases h0 : 0 ≤ i
  · obtain ⟨k, rfl⟩ := Int.eq_ofNat_of_zero_le h0
    by_cases hk : k < n
    · have hk' : (k : Int) < n := by omega
      have hi := Lib.hid (fun w h => aIs r g n B k w h hk)
      have hv : Hid ((decide (0 ≤ (k : Int) ∧ (k : Int) < n) && B.testBit (k : Int).toNat) = B.testBit k) := by show _ = _; simp [hk]
      go_enter Try.func15, Try.ntmps15
      go_wp2_with fail
      refine hm.out.mono ?_
      rintro e w1 ⟨rfl, hu⟩
      have c1 := hu.cell h1 fun h => h
      go_wp2_with fail
      refine (hi.out _ (h.non hu)).mono ?_
      rintro e w2 ⟨rfl, hu2⟩
      go_wp2_with fail
      go_ret
      exact ⟨by rw [hv.out]; rfl, hu.trans hu2 fun _ _ h => h⟩
    · have hk' : ¬ (k : Int) < n := by omega
      have hv : Hid ((decide (0 ≤ (k : Int) ∧ (k : Int) < n) && B.testBit (k : Int).toNat) = false) := by show _ = _; simp [hk]
      go_enter Try.func15, Try.ntmps15
      go_wp2_with fail
      refine hm.out.mono ?_
      rintro e w1 ⟨rfl, hu⟩
      have c1 := hu.cell h1 fun h => h
      go_wp2_with fail
      go_ret
      exact ⟨by rw [hv.out]; rfl, hu⟩
  · have hv : (decide (0 ≤ i ∧ i < (n : Int)) && B.testBit i.toNat) = false := by simp [h0]
    rw [hv]
    clear hv
    go_enter Try.func15, Try.ntmps15
    go_wp2_with fail
    refine hm.out.mono ?_
    rintro e w1 ⟨rfl, hu⟩
    go_wp2_with fail
    go_ret
    exact ⟨rfl, hu⟩
end Go.Proofs.Yteeppclnmjlcbaa
