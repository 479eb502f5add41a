/- The walks over the reference of package alloc: Give. -/
import Derived.Test.YteeppclnmjlcbaaAU
namespace Go.Proofs.Yteeppclnmjlcbaa
open Go.RowKit Go.Amb
set_option linter.unusedVariables false
set_option maxHeartbeats 4000000 in
theorem refGive (v : Value) (n B : Nat) (i k : Int) (w : World) (h : Pages w v B n) (hn : 1 ≤ n ∧ n ≤ 16384) (hi : -9223372036854775808 ≤ i ∧ i < 9223372036854775808) (hk : k < 9223372036854775808) : Calls Try.prog 30 #[.agg #[v], .int .i64 i, .int .i64 k] w (Ref2 v (giveV B n i k).1 (giveV B n i k).2 n w) := by
  have hH := Lib.hid h
  obtain ⟨a, c, rfl, hnc, hcm, hcell⟩ := pages_at h
  replace hcell := Lib.hid hcell
  clear h
  by_cases h1 : k < 1
  · have hE : giveV B n i k = (2, B) := if_pos h1
    rw [hE]
    clear hE hi hk
    go_enter Try.func30, Try.ntmps30
    go_wp2_with fail
    go_returns
    exact ⟨_, rfl, hH.out.non (by (repeat (first | (with_reducible exact Upd.refl _ _) | (with_reducible assumption) | (with_reducible refine Upd.then_drew ?_) | (with_reducible refine Upd.then_drewN ?_ _) | (with_reducible refine Upd.then_alloc ?_ _) | (with_reducible refine Upd.then_setCell ?_ (fun h => absurd h (by simp <;> omega)) _) | (with_reducible refine Upd.trans ?_ (Upd.non (by assumption)) (fun _ _ h => h))))), by (repeat (first | (with_reducible exact Upd.refl _ _) | (with_reducible assumption) | (with_reducible refine Upd.then_drew ?_) | (with_reducible refine Upd.then_drewN ?_ _) | (with_reducible refine Upd.then_alloc ?_ _) | (with_reducible refine Upd.then_setCell ?_ (fun h => absurd h (by simp <;> omega)) _) | (with_reducible refine Upd.trans ?_ (Upd.non (by assumption)) (fun _ _ h => h)))), fun k hk => .inl hk⟩
  · by_cases h2 : i < 0 ∨ (n : Int) < k ∨ (n : Int) - k < i
    · have hE : giveV B n i k = (6, B) := by rw [giveV, if_neg h1, if_pos h2]
      rw [hE]
      clear hE
      by_cases h3 : i < 0
      · clear h2 hi hk
        go_enter Try.func30, Try.ntmps30
        go_wp2_with fail
        go_returns
        exact ⟨_, rfl, hH.out.non (by (repeat (first | (with_reducible exact Upd.refl _ _) | (with_reducible assumption) | (with_reducible refine Upd.then_drew ?_) | (with_reducible refine Upd.then_drewN ?_ _) | (with_reducible refine Upd.then_alloc ?_ _) | (with_reducible refine Upd.then_setCell ?_ (fun h => absurd h (by simp <;> omega)) _) | (with_reducible refine Upd.trans ?_ (Upd.non (by assumption)) (fun _ _ h => h))))), by (repeat (first | (with_reducible exact Upd.refl _ _) | (with_reducible assumption) | (with_reducible refine Upd.then_drew ?_) | (with_reducible refine Upd.then_drewN ?_ _) | (with_reducible refine Upd.then_alloc ?_ _) | (with_reducible refine Upd.then_setCell ?_ (fun h => absurd h (by simp <;> omega)) _) | (with_reducible refine Upd.trans ?_ (Upd.non (by assumption)) (fun _ _ h => h)))), fun k hk => .inl hk⟩
      · by_cases h4 : (n : Int) < k
        · clear h2 hi hk
          go_enter Try.func30, Try.ntmps30
          go_wp2_with fail
          go_returns
          exact ⟨_, rfl, hH.out.non (by (repeat (first | (with_reducible exact Upd.refl _ _) | (with_reducible assumption) | (with_reducible refine Upd.then_drew ?_) | (with_reducible refine Upd.then_drewN ?_ _) | (with_reducible refine Upd.then_alloc ?_ _) | (with_reducible refine Upd.then_setCell ?_ (fun h => absurd h (by simp <;> omega)) _) | (with_reducible refine Upd.trans ?_ (Upd.non (by assumption)) (fun _ _ h => h))))), by (repeat (first | (with_reducible exact Upd.refl _ _) | (with_reducible assumption) | (with_reducible refine Upd.then_drew ?_) | (with_reducible refine Upd.then_drewN ?_ _) | (with_reducible refine Upd.then_alloc ?_ _) | (with_reducible refine Upd.then_setCell ?_ (fun h => absurd h (by simp <;> omega)) _) | (with_reducible refine Upd.trans ?_ (Upd.non (by assumption)) (fun _ _ h => h)))), fun k hk => .inl hk⟩
        · have h5 : (n : Int) - k < i := by omega
          have hwr : IntKind.i64.wrap ((n : Int) - k) = (n : Int) - k := IntWalk.i64_in _ ⟨by omega, by omega⟩
          clear h2 hi hk
          go_enter Try.func30, Try.ntmps30
          go_wp2_with fail
          go_returns
          exact ⟨_, rfl, hH.out.non (by (repeat (first | (with_reducible exact Upd.refl _ _) | (with_reducible assumption) | (with_reducible refine Upd.then_drew ?_) | (with_reducible refine Upd.then_drewN ?_ _) | (with_reducible refine Upd.then_alloc ?_ _) | (with_reducible refine Upd.then_setCell ?_ (fun h => absurd h (by simp <;> omega)) _) | (with_reducible refine Upd.trans ?_ (Upd.non (by assumption)) (fun _ _ h => h))))), by (repeat (first | (with_reducible exact Upd.refl _ _) | (with_reducible assumption) | (with_reducible refine Upd.then_drew ?_) | (with_reducible refine Upd.then_drewN ?_ _) | (with_reducible refine Upd.then_alloc ?_ _) | (with_reducible refine Upd.then_setCell ?_ (fun h => absurd h (by simp <;> omega)) _) | (with_reducible refine Upd.trans ?_ (Upd.non (by assumption)) (fun _ _ h => h)))), fun k hk => .inl hk⟩
    · obtain ⟨p, rfl⟩ := Int.eq_ofNat_of_zero_le (show 0 ≤ i by omega)
      obtain ⟨m, rfl⟩ := Int.eq_ofNat_of_zero_le (show 0 ≤ k by omega)
      have hfit : p + m ≤ n := by omega
      have hE : giveV B n (p : Int) (m : Int) = if allN B p m then (0, setN B p m false) else (7, B) := by rw [giveV, if_neg h1, if_neg h2]; rfl
      obtain ⟨R, hR, hRt, hRf⟩ : ∃ R, (if allN B p m then (0, setN B p m false) else (7, B)) = R ∧ Hid (allN B p m = true → R = ((0 : Int), setN B p m false)) ∧ Hid (allN B p m = false → R = (7, B)) :=
        ⟨_, rfl, Lib.hid fun h => by rw [if_pos h], Lib.hid fun h => by rw [if_neg (by simp [h])]⟩
      rw [hE, hR]
      clear hE hR
      have hwr : IntKind.i64.wrap ((n : Int) - (m : Int)) = (n : Int) - (m : Int) := IntWalk.i64_in _ ⟨by omega, by omega⟩
      have g1 : ¬ (p : Int) < 0 := by omega
      have g2 : ¬ (n : Int) < (m : Int) := by omega
      have g4 : ¬ n < m := by omega
      have g3 : ¬ (n : Int) - (m : Int) < (p : Int) := by omega
      clear h2 hi hk
      obtain ⟨g, off, rfl, -⟩ := hcell.out 0 (by omega)
      have hw := Lib.hid (fun w h => refWith (.slice (some ⟨g, off, none⟩) n c) n B p m false w h hn hfit)
      go_enter Try.func30, Try.ntmps30
      go_wp2_with fail
      go_loopw [8] (fun jv wr => ∃ d : Nat, jv = .int .i64 (d : Int) ∧ d ≤ m ∧ allN B (p + d) (m - d) = allN B p m ∧ Upd Non ((w.alloc (.cells #[.slice (some ⟨g, off, none⟩) n c] 44)).alloc (.cells #[.slice none 0 0] 44)) wr) (fun jv _ => m - (intOf jv).toNat)
      case atStart => exact ⟨0, rfl, by omega, rfl, Upd.refl _ _⟩
      case round =>
        obtain ⟨d, rfl, hd, hal, hur⟩ := hrel
        have hW := hur.own2 (fun _ h => h.elim)
        have hU := hW.2.2.2.2.2.2
        have d1 := hW.2.2.1 0
        have d2 := hW.2.2.2.1 0
        have d3 := hW.1 0
        clear hW
        by_cases hdm : d < m
        · have hlt : (d : Int) < (m : Int) := by omega
          have hst : allN B (p + d) (m - d) = (B.testBit (p + d) && allN B (p + d + 1) (m - d - 1)) := by
            obtain ⟨q, hq⟩ : ∃ q, m - d = q + 1 := ⟨m - d - 1, by omega⟩
            rw [hq]; rfl
          have hwp : IntKind.i64.wrap ((p : Int) + (d : Int)) = ((p + d : Nat) : Int) := IntWalk.i64_in _ ⟨by omega, by omega⟩
          obtain ⟨g', off', hg', hc⟩ := hcell.out (p + d) (by omega)
          injection hg' with hg'
          injection hg' with hg' hg''
          subst hg'; subst hg''
          have hc2 := hU.cell hc fun h => h
          have hq0 : (0 : Int) ≤ ((p + d : Nat) : Int) := by omega
          have hq1 : ((p + d : Nat) : Int) < (n : Int) := by omega
          clear hc
          replace hst := Lib.hid hst
          replace hal := Lib.hid hal
          generalize hpe : p + d = q at *
          replace hpe := Lib.hid hpe
          cases hb : B.testBit q with
          | true =>
            rw [hb] at hc2
            go_wp2_with fail
            go_roundw
            case rel => exact ⟨d + 1, by go_num, by omega, by
              have e1 := hst.out
              have e2 := hal.out
              have e3 := hpe.out
              rw [show p + (d + 1) = q + 1 by omega, show m - (d + 1) = m - d - 1 by omega, ← e2, e1, hb]; rfl, hur⟩
            case measure => simp [intOf]; omega
          | false =>
            rw [hb] at hc2
            go_wp2_with fail
            have e0 : allN B p m = false := by rw [← hal.out, hst.out, hb]; rfl
            refine bodyPost_ret (v := .tuple #[.agg #[.slice (some ⟨g, off, none⟩) n c], .int .i64 7]) (by simp [results, Try.results30, go_sem, d1, d2]; try rfl) rfl ?_
            rw [hRf.out e0]
            exact ⟨_, rfl, hH.out.non (hU.then_setCell (fun h => by simp at h; omega) _), hU.then_setCell (fun h => by simp at h; omega) _, fun k hk => .inl hk⟩
        · obtain rfl : d = m := by omega
          have hlt : ¬ (d : Int) < (d : Int) := by omega
          rw [Nat.sub_self] at hal
          replace hal : Hid (true = allN B p d) := hal
          go_wp2_with fail
          refine (hw.out _ (hH.out.non hU)).mono ?_
          rintro e w1 ⟨v1, rfl, hP, hu, hfresh⟩
          have hW := (hur.trans hu fun _ _ h => h).own2 (fun _ h => h.elim)
          have hU1 := hW.2.2.2.2.2.2
          have d1 := hW.2.2.1 0
          have d2 := hW.2.2.2.1 0
          have d3 := hW.1 0
          obtain ⟨a1, c1, hv1, _⟩ := pages_at hP
          subst hv1
          have hfr2 : Hid (w.heap.size + 2 ≤ wr.heap.size) := by have := hur.size; simp at this; exact this
          go_wp2_with fail
          refine bodyPost_ret (v := .tuple #[.agg #[.slice a1 n c1], .int .i64 0]) (by simp [results, Try.results30, go_sem, d1, d2]; try rfl) rfl ?_
          rw [hRt.out hal.out.symm]
          have := hfr2.out
          exact ⟨_, rfl, hP.upd (Upd.setCell (S := fun q => q = w.heap.size + 1) w1 rfl _) (fun q hq e => by have := hfresh q hq; omega), hU1.then_setCell (fun h => by simp at h; omega) _, fun q hq => .inr (by have := hfresh q hq; omega)⟩
end Go.Proofs.Yteeppclnmjlcbaa
