/- The walks over package alloc: made, Has, Claim. -/
import Derived.Test.YtfjcjppfihafgaaMAD
namespace Go.Proofs.Ytfjcjppfihafgaa
set_option maxRecDepth 100000
open Go.RowKit Go.Amb
set_option linter.unusedVariables false

theorem aMade (r g n B : Nat) (w : World) (h : AllocAt w r g n B) : Calls Try.prog 41 #[.pointer (some ⟨r, 0, none⟩)] w (Ret (.bool true) w) := by
  have h1 := h.size
  have hp := h.pos
  have hp' : Hid (decide (0 < n) = true) := by show _ = _; simp; omega
  go_enter Try.func41, Try.ntmps41
  go_wp2_with fail
  go_ret
  exact ⟨by rw [← hp'.out]; rfl, Upd.refl _ _⟩
theorem aMade_nil (w : World) : Calls Try.prog 41 #[.pointer none] w (Ret (.bool false) w) := by
  go_enter Try.func41, Try.ntmps41
  go_wp2_with fail
  go_ret
  exact ⟨rfl, Upd.refl _ _⟩
theorem aMade_zero (r : Nat) (w : World) (h : w.cell? ⟨r, 0, none⟩ = some (.int .i64 0)) : Calls Try.prog 41 #[.pointer (some ⟨r, 0, none⟩)] w (Ret (.bool false) w) := by
  go_enter Try.func41, Try.ntmps41
  go_wp2_with fail
  go_ret
  exact ⟨rfl, Upd.refl _ _⟩
end Go.Proofs.Ytfjcjppfihafgaa

namespace Go.Proofs.Ytfjcjppfihafgaa
set_option maxRecDepth 100000
open Go.RowKit Go.Amb
set_option linter.unusedVariables false

end Go.Proofs.Ytfjcjppfihafgaa

namespace Go.Proofs.Ytfjcjppfihafgaa
set_option maxRecDepth 100000
open Go.RowKit Go.Amb
set_option linter.unusedVariables false

/-- What Claim answers, and which pages are taken then. -/
def claimE (B n : Nat) (i : Int) : Int := if i < 0 ∨ (n : Int) ≤ i then 6 else if B.testBit i.toNat then 8 else 0
def claimB (B n : Nat) (i : Int) : Nat := if i < 0 ∨ (n : Int) ≤ i then B else if B.testBit i.toNat then B else putN B i.toNat true
set_option maxHeartbeats 1000000 in
theorem aClaim (r g n B : Nat) (i : Int) (w : World) (h : AllocAt w r g n B) : Calls Try.prog 36 #[.pointer (some ⟨r, 0, none⟩), .int .i64 i] w (fun e w' => e = .returned (.int .i64 (claimE B n i)) ∧ AllocAt w' r g n (claimB B n i) ∧ Upd (fun j => j = g) w w') := by
  have hm := Lib.hid (aMade r g n B w h)
  have h1 := h.size
  have hA0 := h
  clear h
  have up : ∀ {w w' : World}, Upd Non w w' → Upd (fun j => j = g) w w' := fun hu => (Upd.refl _ _).trans hu fun _ _ h => h.elim
  by_cases h0 : i < 0 ∨ (n : Int) ≤ i
  · have hE : claimE B n i = 6 := if_pos h0
    have hB : claimB B n i = B := if_pos h0
    rw [hE, hB]
    clear hE hB
    by_cases h00 : i < 0
    · go_enter Try.func36, Try.ntmps36
      go_wp2_with fail
      refine hm.out.mono ?_
      rintro e w1 ⟨rfl, hu⟩
      go_wp2_with fail
      go_ret
      exact ⟨rfl, hA0.non hu, up hu⟩
    · have h2 : (n : Int) ≤ i := by omega
      go_enter Try.func36, Try.ntmps36
      go_wp2_with fail
      refine hm.out.mono ?_
      rintro e w1 ⟨rfl, hu⟩
      have c1 := hu.cell h1 fun h => h
      go_wp2_with fail
      go_ret
      exact ⟨rfl, hA0.non hu, up hu⟩
  · obtain ⟨k, rfl⟩ := Int.eq_ofNat_of_zero_le (show 0 ≤ i by omega)
    have hk : k < n := by omega
    have hk' : (k : Int) < n := by omega
    have hi := Lib.hid (fun w h => aIs r g n B k w h hk)
    have hs := Lib.hid (fun w h => aSet r g n B k 1 true w h hk)
    have hE : claimE B n (k : Int) = if B.testBit k then 8 else 0 := if_neg h0
    have hC : claimB B n (k : Int) = if B.testBit k then B else putN B k true := if_neg h0
    rw [hE, hC]
    clear hE hC h0
    cases hb : B.testBit k with
    | true =>
      rw [hb] at hi
      go_enter Try.func36, Try.ntmps36
      go_wp2_with fail
      refine hm.out.mono ?_
      rintro e w1 ⟨rfl, hu⟩
      have c1 := hu.cell h1 fun h => h
      go_wp2_with fail
      refine (hi.out _ (hA0.non hu)).mono ?_
      rintro e w2 ⟨rfl, hu2⟩
      go_wp2_with fail
      go_ret
      exact ⟨rfl, (hA0.non hu).non hu2, (up hu).trans (up hu2) fun _ _ h => h⟩
    | false =>
      rw [hb] at hi
      go_enter Try.func36, Try.ntmps36
      go_wp2_with fail
      refine hm.out.mono ?_
      rintro e w1 ⟨rfl, hu⟩
      have c1 := hu.cell h1 fun h => h
      go_wp2_with fail
      refine (hi.out _ (hA0.non hu)).mono ?_
      rintro e w2 ⟨rfl, hu2⟩
      go_wp2_with fail
      refine (hs.out _ ((hA0.non hu).non hu2)).mono ?_
      rintro e w3 ⟨rfl, hA, hu3⟩
      go_wp2_with fail
      go_ret
      exact ⟨rfl, hA, ((up hu).trans (up hu2) fun _ _ h => h).trans hu3 fun _ _ h => h⟩
end Go.Proofs.Ytfjcjppfihafgaa
