/- The walks over the reference of package alloc: Claim, Give. -/
import Derived.Test.YteeppclnmjlcbaaAT
namespace Go.Proofs.Yteeppclnmjlcbaa
open Go.RowKit Go.Amb
set_option linter.unusedVariables false

/-- Pages are told, and an answer. -/
def Ref2 (v : Value) (f : Int) (B n : Nat) (w : World) : Ending → World → Prop := fun e w' => ∃ v', e = .returned (.tuple #[.agg #[v'], .int .i64 f]) ∧ Pages w' v' B n ∧ Upd Non w w' ∧ ∀ k, At v' k → At v k ∨ w.heap.size ≤ k
theorem Pages.non {w w' : World} {v : Value} {B n : Nat} (h : Pages w v B n) (hu : Upd Non w w') : Pages w' v B n := h.upd hu fun _ _ h => h
set_option maxHeartbeats 2000000 in
theorem refClaim (v : Value) (n B : Nat) (i : Int) (w : World) (h : Pages w v B n) (hn : 1 ≤ n ∧ n ≤ 16384) (hi : -9223372036854775808 ≤ i ∧ i < 9223372036854775808) : Calls Try.prog 29 #[.agg #[v], .int .i64 i] w (Ref2 v (claimE B n i) (claimB B n i) n w) := by
  have hH := Lib.hid h
  obtain ⟨a, c, rfl, hnc, hcm, hcell⟩ := pages_at h
  replace hcell := Lib.hid hcell
  clear h
  by_cases h0 : i < 0 ∨ (n : Int) ≤ i
  · have hE : claimE B n i = 6 := if_pos h0
    have hB : claimB B n i = B := if_pos h0
    rw [hE, hB]
    clear hE hB
    by_cases h00 : i < 0
    · clear h0 hi
      go_enter Try.func29, Try.ntmps29
      go_wp2_with fail
      go_returns
      exact ⟨_, rfl, hH.out.non (by (repeat (first | (with_reducible exact Upd.refl _ _) | (with_reducible assumption) | (with_reducible refine Upd.then_drew ?_) | (with_reducible refine Upd.then_drewN ?_ _) | (with_reducible refine Upd.then_alloc ?_ _) | (with_reducible refine Upd.then_setCell ?_ (fun h => absurd h (by simp <;> omega)) _) | (with_reducible refine Upd.trans ?_ (Upd.non (by assumption)) (fun _ _ h => h))))), by (repeat (first | (with_reducible exact Upd.refl _ _) | (with_reducible assumption) | (with_reducible refine Upd.then_drew ?_) | (with_reducible refine Upd.then_drewN ?_ _) | (with_reducible refine Upd.then_alloc ?_ _) | (with_reducible refine Upd.then_setCell ?_ (fun h => absurd h (by simp <;> omega)) _) | (with_reducible refine Upd.trans ?_ (Upd.non (by assumption)) (fun _ _ h => h)))), fun k hk => .inl hk⟩
    · have h2 : (n : Int) ≤ i := by omega
      clear h0 hi
      go_enter Try.func29, Try.ntmps29
      go_wp2_with fail
      go_returns
      exact ⟨_, rfl, hH.out.non (by (repeat (first | (with_reducible exact Upd.refl _ _) | (with_reducible assumption) | (with_reducible refine Upd.then_drew ?_) | (with_reducible refine Upd.then_drewN ?_ _) | (with_reducible refine Upd.then_alloc ?_ _) | (with_reducible refine Upd.then_setCell ?_ (fun h => absurd h (by simp <;> omega)) _) | (with_reducible refine Upd.trans ?_ (Upd.non (by assumption)) (fun _ _ h => h))))), by (repeat (first | (with_reducible exact Upd.refl _ _) | (with_reducible assumption) | (with_reducible refine Upd.then_drew ?_) | (with_reducible refine Upd.then_drewN ?_ _) | (with_reducible refine Upd.then_alloc ?_ _) | (with_reducible refine Upd.then_setCell ?_ (fun h => absurd h (by simp <;> omega)) _) | (with_reducible refine Upd.trans ?_ (Upd.non (by assumption)) (fun _ _ h => h)))), fun k hk => .inl hk⟩
  · obtain ⟨k, rfl⟩ := Int.eq_ofNat_of_zero_le (show 0 ≤ i by omega)
    have hk : k < n := by omega
    have hk' : (k : Int) < n := by omega
    have hk0 : (0 : Int) ≤ (k : Int) := by omega
    have hE : claimE B n (k : Int) = if B.testBit k then 8 else 0 := if_neg h0
    have hC : claimB B n (k : Int) = if B.testBit k then B else putN B k true := if_neg h0
    rw [hE, hC]
    clear hE hC h0 hi
    obtain ⟨g, off, rfl, hc⟩ := hcell.out k hk
    have hw := Lib.hid (fun w h => refWith (.slice (some ⟨g, off, none⟩) n c) n B k 1 true w h hn (by omega))
    clear hcell
    replace hc := Upd.cell (S := Non) (w' := (w.alloc (.cells #[.slice (some ⟨g, off, none⟩) n c] 44)).alloc (.cells #[.slice none 0 0] 44)) (by (repeat (first | (with_reducible exact Upd.refl _ _) | (with_reducible assumption) | (with_reducible refine Upd.then_drew ?_) | (with_reducible refine Upd.then_drewN ?_ _) | (with_reducible refine Upd.then_alloc ?_ _) | (with_reducible refine Upd.then_setCell ?_ (fun h => absurd h (by simp <;> omega)) _) | (with_reducible refine Upd.trans ?_ (Upd.non (by assumption)) (fun _ _ h => h))))) hc (fun h => h)
    cases hb : B.testBit k with
    | true =>
      rw [hb] at hc
      go_enter Try.func29, Try.ntmps29
      go_wp2_with fail
      go_returns
      exact ⟨_, rfl, hH.out.non (by (repeat (first | (with_reducible exact Upd.refl _ _) | (with_reducible assumption) | (with_reducible refine Upd.then_drew ?_) | (with_reducible refine Upd.then_drewN ?_ _) | (with_reducible refine Upd.then_alloc ?_ _) | (with_reducible refine Upd.then_setCell ?_ (fun h => absurd h (by simp <;> omega)) _) | (with_reducible refine Upd.trans ?_ (Upd.non (by assumption)) (fun _ _ h => h))))), by (repeat (first | (with_reducible exact Upd.refl _ _) | (with_reducible assumption) | (with_reducible refine Upd.then_drew ?_) | (with_reducible refine Upd.then_drewN ?_ _) | (with_reducible refine Upd.then_alloc ?_ _) | (with_reducible refine Upd.then_setCell ?_ (fun h => absurd h (by simp <;> omega)) _) | (with_reducible refine Upd.trans ?_ (Upd.non (by assumption)) (fun _ _ h => h)))), fun k hk => .inl hk⟩
    | false =>
      rw [hb] at hc
      go_enter Try.func29, Try.ntmps29
      go_wp2_with fail
      refine (hw.out _ (hH.out.non (by (repeat (first | (with_reducible exact Upd.refl _ _) | (with_reducible assumption) | (with_reducible refine Upd.then_drew ?_) | (with_reducible refine Upd.then_drewN ?_ _) | (with_reducible refine Upd.then_alloc ?_ _) | (with_reducible refine Upd.then_setCell ?_ (fun h => absurd h (by simp <;> omega)) _) | (with_reducible refine Upd.trans ?_ (Upd.non (by assumption)) (fun _ _ h => h))))))).mono ?_
      rintro e w1 ⟨v1, rfl, hP, hu, hfresh⟩
      have hW := hu.own2 (fun _ h => h.elim)
      have hU := hW.2.2.2.2.2.2
      have d1 := hW.2.2.1 0
      have d2 := hW.2.2.2.1 0
      have d3 := hW.1 0
      obtain ⟨a1, c1, hv1, _⟩ := pages_at hP
      subst hv1
      go_wp2_with fail
      refine bodyPost_ret (v := .tuple #[.agg #[.slice a1 n c1], .int .i64 0]) (by simp [results, Try.results29, go_sem, d1, d2]; try rfl) rfl ?_
      exact ⟨_, rfl, hP.upd (Upd.setCell (S := fun q => q = w.heap.size + 1) w1 rfl _) (fun q hq e => by have := hfresh q hq; simp at this; omega), hU.then_setCell (fun h => by simp at h; omega) _, fun q hq => .inr (by have := hfresh q hq; simp at this; omega)⟩
end Go.Proofs.Yteeppclnmjlcbaa
