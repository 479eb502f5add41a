/- The walks over package alloc: Take. -/
import Derived.Test.YtfjcjppfihafgaaMAK
namespace Go.Proofs.Ytfjcjppfihafgaa
set_option maxRecDepth 100000
open Go.RowKit Go.Amb
set_option linter.unusedVariables false

theorem findN_fits {B n k i : Nat} (hk : 0 < k) (h : findN B n k = some i) : i + k ≤ n ∧ runN B n i k = k := by
  unfold findN at h
  rw [List.find?_range_eq_some] at h
  have h1 : runN B n i k = k := by simpa using h.1
  have := (runN_free B n k i (k - 1) (by omega)).1
  exact ⟨by omega, h1⟩
/-- What Take answers, and which pages are taken then. -/
def takeV (B n : Nat) (k : Int) : Int × Int × Nat :=
  if k < 1 then (0, 2, B) else match findN B n k.toNat with
  | none => (0, 10, B)
  | some i => ((i : Int), 0, setN B i k.toNat true)
set_option maxHeartbeats 1000000 in
theorem aTake (r g n B : Nat) (k : Int) (w : World) (h : AllocAt w r g n B) (hk : k < 9223372036854775808) : Calls Try.prog 24 #[.pointer (some ⟨r, 0, none⟩), .int .i64 k] w (fun e w' => e = .returned (.tuple #[.int .i64 (takeV B n k).1, .int .i64 (takeV B n k).2.1]) ∧ AllocAt w' r g n (takeV B n k).2.2 ∧ Upd (fun j => j = g) w w') := by
  have hm := Lib.hid (aMade r g n B w h)
  have hA0 := h
  clear h
  have up : ∀ {w w' : World}, Upd Non w w' → Upd (fun j => j = g) w w' := fun hu => (Upd.refl _ _).trans hu fun _ _ h => h.elim
  by_cases h1 : k < 1
  · have hE : takeV B n k = (0, 2, B) := if_pos h1
    rw [hE]
    clear hE
    go_enter Try.func24, Try.ntmps24
    go_wp2_with fail
    refine hm.out.mono ?_
    rintro e w1 ⟨rfl, hu⟩
    go_wp2_with fail
    go_ret2
    exact ⟨rfl, hA0.non hu, up hu⟩
  · obtain ⟨m, rfl⟩ := Int.eq_ofNat_of_zero_le (show 0 ≤ k by omega)
    have hm0 : 0 < m := by omega
    have hm2 : m < 9223372036854775808 := by omega
    have hE : takeV B n (m : Int) = match findN B n m with | none => (0, 10, B) | some i => ((i : Int), 0, setN B i m true) := if_neg h1
    rw [hE]
    clear hE
    have hf := Lib.hid (fun w h => aFind r g n B m w h hm0 hm2)
    clear hm2 hk
    cases hx : findN B n m with
    | none =>
      rw [hx] at hf
      simp only [findV] at hf
      replace hx := Lib.hid hx
      go_enter Try.func24, Try.ntmps24
      go_wp2_with fail
      refine hm.out.mono ?_
      rintro e w1 ⟨rfl, hu⟩
      go_wp2_with fail
      refine (hf.out _ (hA0.non hu)).mono ?_
      rintro e w2 ⟨rfl, hu2⟩
      go_wp2_with fail
      go_ret2
      exact ⟨rfl, (hA0.non hu).non hu2, (up hu).trans (up hu2) fun _ _ h => h⟩
    | some i =>
      rw [hx] at hf
      simp only [findV] at hf
      have hs := Lib.hid (fun w h => aSet r g n B i m true w h (findN_fits hm0 hx).1)
      replace hx := Lib.hid hx
      go_enter Try.func24, Try.ntmps24
      go_wp2_with fail
      refine hm.out.mono ?_
      rintro e w1 ⟨rfl, hu⟩
      go_wp2_with fail
      refine (hf.out _ (hA0.non hu)).mono ?_
      rintro e w2 ⟨rfl, hu2⟩
      go_wp2_with fail
      refine (hs.out _ ((hA0.non hu).non hu2)).mono ?_
      rintro e w3 ⟨rfl, hA, hu3⟩
      go_wp2_with fail
      go_ret2
      exact ⟨rfl, hA, ((up hu).trans (up hu2) fun _ _ h => h).trans hu3 fun _ _ h => h⟩
end Go.Proofs.Ytfjcjppfihafgaa
