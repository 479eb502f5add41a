/- The walks over ambryref02's comparisons. -/
import Derived.Test.YtnlmdagmhfcdeaaTH
namespace Go.Proofs.Ytnlmdagmhfcdeaa
open Go.RowKit Go.Amb
set_option linter.unusedVariables false
attribute [local go_sem ↓] Go.wp_at_zero Go.wp_at_succ

theorem str_at (x : List UInt8) (k : Nat) (h : k < x.length) (hz : k < ByteArray.size ⟨x.toArray⟩) : (ByteArray.mk x.toArray)[k]'hz = x[k] := rfl

set_option maxHeartbeats 1000000 in
theorem rBelow (x y : List UInt8) (w : World) (hx : x.length ≤ 140737488355328) (hy : y.length ≤ 140737488355328) :
    Calls Try.prog 45 #[.string ⟨x.toArray⟩, .string ⟨y.toArray⟩] w (Ret (.bool (Op.bytesLess x y)) w) := by
  go_enter Try.func45, Try.ntmps45
  go_wp2_with fail
  go_loopw [5] (fun i wr => ∃ k : Nat, k ≤ x.length ∧ k ≤ y.length ∧ i = .int .i64 k ∧ Op.bytesLess (x.drop k) (y.drop k) = Op.bytesLess x y ∧ Upd Non w wr) (fun i _ => x.length - (intOf i).toNat)
  case atStart => exact ⟨0, by omega, by omega, rfl, rfl, Upd.refl _ _⟩
  case round =>
    obtain ⟨k, hk1, hk2, rfl, hb, hu⟩ := hrel
    replace hb := Lib.hid hb
    by_cases hlt : k < x.length ∧ k < y.length
    · obtain ⟨l1, l2⟩ := hlt
      have l1' : (k : Int) < x.length := by omega
      have l2' : (k : Int) < y.length := by omega
      have hst : Op.bytesLess (x.drop k) (y.drop k) = (decide (x[k] < y[k]) || (x[k] == y[k] && Op.bytesLess (x.drop (k + 1)) (y.drop (k + 1)))) := by
        rw [List.drop_eq_getElem_cons l1, List.drop_eq_getElem_cons l2]; rfl
      rw [hb.out] at hst
      have s1 : k < ByteArray.size ⟨x.toArray⟩ := by simpa [ByteArray.size] using l1
      have s2 : k < ByteArray.size ⟨y.toArray⟩ := by simpa [ByteArray.size] using l2
      by_cases he : x[k] = y[k]
      · rw [he] at hst
        simp only [UInt8.lt_irrefl, decide_false, Bool.false_or, BEq.rfl, Bool.true_and] at hst
        have hn : ((((⟨x.toArray⟩ : ByteArray)[k]'s1).toNat : Int) == (((⟨y.toArray⟩ : ByteArray)[k]'s2).toNat : Int)) = true := by
          show ((x[k].toNat : Int) == (y[k].toNat : Int)) = true
          rw [he]; simp
        replace hst := Lib.hid hst
        replace he := Lib.hid he
        go_wp2_with fail
        go_quiet (fail)
        go_wp2_with fail
        go_roundw
        case rel => exact ⟨k + 1, by omega, by omega, by go_num, hst.out.symm, hu.then_drewN _⟩
        case measure => simp [intOf]; omega
      · have hst2 : Op.bytesLess x y = decide (x[k] < y[k]) := by rw [hst]; simp [he]
        have hn : ((((⟨x.toArray⟩ : ByteArray)[k]'s1).toNat : Int) == (((⟨y.toArray⟩ : ByteArray)[k]'s2).toNat : Int)) = false := by
          show ((x[k].toNat : Int) == (y[k].toNat : Int)) = false
          have : x[k].toNat ≠ y[k].toNat := fun e => he (UInt8.toNat_inj.1 e)
          simp only [beq_eq_false_iff_ne, ne_eq]
          omega
        have hd : decide ((((⟨x.toArray⟩ : ByteArray)[k]'s1).toNat : Int) < (((⟨y.toArray⟩ : ByteArray)[k]'s2).toNat : Int)) = Op.bytesLess x y := by
          rw [hst2]
          show decide ((x[k].toNat : Int) < (y[k].toNat : Int)) = _
          rw [decide_eq_decide, UInt8.lt_iff_toNat_lt]
          omega
        replace hd := Lib.hid hd
        replace hst2 := Lib.hid hst2
        replace hst := Lib.hid hst
        go_wp2_with fail
        go_quiet (fail)
        go_wp2_with fail
        go_quiet (fail)
        go_wp2_with fail
        go_ret
        refine ⟨?_, (hu.then_drewN _).then_drewN _⟩
        rw [← hd.out]
        simp
    · have hend : Op.bytesLess x y = decide ((x.length : Int) < y.length) := by
        rw [← hb.out]
        by_cases h1 : k < x.length
        · obtain rfl : k = y.length := by omega
          rw [List.drop_length, bl_nil]
          symm; simp; omega
        · obtain rfl : k = x.length := by omega
          rw [List.drop_length]
          cases hd : y.drop x.length with
          | nil =>
            have : y.length ≤ x.length := by have := congrArg List.length hd; simp at this; omega
            symm; simp [Op.bytesLess]; omega
          | cons q r =>
            have : x.length < y.length := by have := congrArg List.length hd; simp at this; omega
            rw [bl_nil_cons]; symm; simp; omega
      replace hend := Lib.hid hend
      by_cases hl1 : k < x.length
      · have hl2 : ¬ (k : Int) < y.length := by omega
        have hl1' : (k : Int) < x.length := by omega
        clear hlt
        go_wp2_with fail
        go_ret
        exact ⟨by rw [hend.out]; simp, hu⟩
      · have hl1' : ¬ (k : Int) < x.length := by omega
        clear hlt
        go_wp2_with fail
        go_ret
        exact ⟨by rw [hend.out]; simp, hu⟩

theorem sgn_lt (b c : Bool) : decide (sgn b c < 0) = b := by cases b <;> cases c <;> rfl

set_option maxHeartbeats 1000000 in
theorem rAhead (p q : Part) (w : World) (hp : p.s.length ≤ 140737488355328) (hq : q.s.length ≤ 140737488355328) : Calls Try.prog 29 #[pV p, pV q] w (Ret (.bool (decide (cmpP p q < 0))) w) := by
  have hbl := Lib.hid (fun w => rBelow p.s q.s w hp hq)
  by_cases hk : p.k = q.k
  · have g0 : (p.k == q.k) = true := by simp [hk]
    by_cases h2 : p.k = 2
    · have e : decide (cmpP p q < 0) = decide (p.n < q.n) := by unfold cmpP; rw [if_neg (by simp [hk]), if_pos h2, sgn_lt]
      rw [e]
      have g2 : (p.k == 2) = true := by simp [h2]
      clear h2 e hk
      go_enter Try.func29, Try.ntmps29
      go_wp2_with fail
      go_ret
      exact ⟨rfl, ((Upd.refl _ _).then_alloc _).then_alloc _⟩
    · by_cases h3 : p.k = 3
      · have e : decide (cmpP p q < 0) = decide (q.n < p.n) := by unfold cmpP; rw [if_neg (by simp [hk]), if_neg h2, if_pos h3, sgn_lt]
        rw [e]
        have g2 : (p.k == 2) = false := by simp [h2]
        have g3 : (p.k == 3) = true := by simp [h3]
        clear h2 h3 e hk
        go_enter Try.func29, Try.ntmps29
        go_wp2_with fail
        go_ret
        exact ⟨rfl, ((Upd.refl _ _).then_alloc _).then_alloc _⟩
      · have e : decide (cmpP p q < 0) = Op.bytesLess p.s q.s := by unfold cmpP; rw [if_neg (by simp [hk]), if_neg h2, if_neg h3, sgn_lt]
        rw [e]
        have g2 : (p.k == 2) = false := by simp [h2]
        have g3 : (p.k == 3) = false := by simp [h3]
        clear h2 h3 e hk
        generalize Op.bytesLess p.s q.s = r at *
        go_enter Try.func29, Try.ntmps29
        go_wp2_with fail
        refine (hbl.out _).mono ?_
        rintro e w1 ⟨rfl, hu1⟩
        go_wp2_with fail
        go_ret
        exact ⟨rfl, (((Upd.refl _ _).then_alloc _).then_alloc _).trans hu1 fun _ _ h => h⟩
  · have e : decide (cmpP p q < 0) = decide (p.k < q.k) := by unfold cmpP; rw [if_pos hk, sgn_lt]
    rw [e]
    have g0 : (p.k == q.k) = false := by simp [hk]
    clear e hk
    go_enter Try.func29, Try.ntmps29
    go_wp2_with fail
    go_ret
    exact ⟨rfl, ((Upd.refl _ _).then_alloc _).then_alloc _⟩

theorem sgn_vals (b c : Bool) : sgn b c = -1 ∨ sgn b c = 0 ∨ sgn b c = 1 := by cases b <;> cases c <;> simp [sgn]
theorem cmpP_vals (p q : Part) : cmpP p q = -1 ∨ cmpP p q = 0 ∨ cmpP p q = 1 := by
  unfold cmpP
  split
  · exact sgn_vals _ _
  · split
    · exact sgn_vals _ _
    · split <;> exact sgn_vals _ _

set_option maxRecDepth 100000 in
set_option maxHeartbeats 2000000 in
theorem rCompare (va vb : Value) (a b : List Part) (w : World) (hna : ∀ p ∈ a, numOk p ∧ p.s.length ≤ 140737488355328) (hnb : ∀ p ∈ b, numOk p ∧ p.s.length ≤ 140737488355328) (hA : Parts w va a) (hB : Parts w vb b) :
    Calls Try.prog 12 #[va, vb] w (Ret (.tuple #[.int .i64 (cmpR a b).1, .int .i64 (cmpR a b).2]) w) := by
  have ca := Lib.hid (rCheck va a w hna hA)
  have cb := Lib.hid (fun w' (hu : Upd Non w w') => rCheck vb b w' hnb (hB.non hu))
  obtain ⟨aa, ac, rfl, halc, hac, hacell⟩ := parts_at hA
  obtain ⟨ba, bc', rfl, hblc, hbc, hbcell⟩ := parts_at hB
  have hmxa := hac
  have hmxb := hbc
  unfold maxLen at hmxa hmxb
  replace hacell := Lib.hid hacell
  replace hbcell := Lib.hid hbcell
  by_cases h1 : (encR a).2 = 0
  · rw [h1] at ca
    by_cases h2 : (encR b).2 = 0
    · rw [h2] at cb
      have hr : cmpR a b = (cmpL a b, 0) := by unfold cmpR; rw [if_neg (by simp [h1]), if_neg (by simp [h2])]
      replace hr := Lib.hid hr
      clear h1 h2
      go_enter Try.func12, Try.ntmps12
      go_wp2_with fail
      refine ca.out.mono ?_
      rintro e w1 ⟨rfl, hu1⟩
      go_wp2_with fail
      refine (cb.out _ hu1).mono ?_
      rintro e w2 ⟨rfl, hu2⟩
      have hu2 := hu1.trans hu2 fun _ _ h => h
      clear hu1
      go_wp2_with fail
      go_loopw [8] (fun i wr => ∃ k : Nat, k ≤ a.length ∧ k ≤ b.length ∧ i = .int .i64 k ∧ cmpL (a.drop k) (b.drop k) = cmpL a b ∧ Upd Non w wr) (fun i _ => a.length - (intOf i).toNat)
      case atStart => exact ⟨0, by omega, by omega, rfl, rfl, hu2⟩
      case round =>
        obtain ⟨k, hk1, hk2, rfl, hc, hu⟩ := hrel
        replace hc := Lib.hid hc
        by_cases hlt : k < a.length ∧ k < b.length
        · obtain ⟨l1, l2⟩ := hlt
          obtain ⟨g, off, rfl, c0, c1, c2⟩ := hacell.out k l1
          obtain ⟨g', off', rfl, d0, d1, d2⟩ := hbcell.out k l2
          replace c0 := hu.cell c0 fun h => h
          replace c1 := hu.cell c1 fun h => h
          replace c2 := hu.cell c2 fun h => h
          replace d0 := hu.cell d0 fun h => h
          replace d1 := hu.cell d1 fun h => h
          replace d2 := hu.cell d2 fun h => h
          have hst := Lib.hid (cmpL_step l1 l2)
          have hv := Lib.hid (cmpP_vals a[k] b[k])
          have hfl := Lib.hid (cmpP_flip a[k] b[k])
          have ho := Lib.hid (fun w => rAhead a[k] b[k] w (hna _ (List.getElem_mem l1)).2 (hnb _ (List.getElem_mem l2)).2)
          have ho2 := Lib.hid (fun w => rAhead b[k] a[k] w (hnb _ (List.getElem_mem l2)).2 (hna _ (List.getElem_mem l1)).2)
          generalize a[k] = p at *
          generalize b[k] = q at *
          have l1' : (k : Int) < a.length := by omega
          have l2' : (k : Int) < b.length := by omega
          go_wp2_with fail
          (refine wp_tail 8 (by kernel_rfl) (by kernel_rfl) ?_; simp only [List.take_succ_cons, List.take_zero, List.drop_succ_cons, List.drop_zero]; (repeat still_step); refine wpStill_nil ?_)
          go_wp2_with fail
          refine (ho.out _).mono ?_
          rintro e w3 ⟨rfl, hu3⟩
          have hu3' : Upd Non wr w3 := (Upd.drew Non wr).trans hu3 fun _ _ h => h
          have hu4 : Upd Non w w3 := hu.trans hu3' fun _ _ h => h
          replace c0 := hu3'.cell c0 fun h => h
          replace c1 := hu3'.cell c1 fun h => h
          replace c2 := hu3'.cell c2 fun h => h
          replace d0 := hu3'.cell d0 fun h => h
          replace d1 := hu3'.cell d1 fun h => h
          replace d2 := hu3'.cell d2 fun h => h
          clear hu3 hu3' hu
          by_cases hlt0 : cmpP p q < 0
          · have hst2 : cmpL a b = -1 := by
              have := hst.out; rw [if_pos (by omega)] at this
              rw [← hc.out, this]
              have := hv.out
              omega
            replace hst2 := Lib.hid hst2
            go_wp2_with fail
            go_ret2
            exact ⟨by rw [hr.out, hst2.out]; rfl, hu4⟩
          · go_wp2_with fail
            (refine wp_tail 8 (by kernel_rfl) (by kernel_rfl) ?_; simp only [List.take_succ_cons, List.take_zero, List.drop_succ_cons, List.drop_zero]; (repeat still_step); refine wpStill_nil ?_)
            go_wp2_with fail
            refine (ho2.out _).mono ?_
            rintro e w5 ⟨rfl, hu5⟩
            have hu6 : Upd Non w w5 := hu4.trans ((Upd.drew Non w3).trans hu5 fun _ _ h => h) fun _ _ h => h
            by_cases hgt0 : cmpP q p < 0
            · have hst2 : cmpL a b = 1 := by
                have := hst.out; rw [if_pos (by have := hfl.out; omega)] at this
                rw [← hc.out, this]
                have := hv.out
                have := hfl.out
                omega
              replace hst2 := Lib.hid hst2
              go_wp2_with fail
              go_ret2
              exact ⟨by rw [hr.out, hst2.out]; rfl, hu6⟩
            · have hst2 : cmpL (a.drop (k + 1)) (b.drop (k + 1)) = cmpL a b := by
                have := hst.out; rw [if_neg (by have := hfl.out; have := hv.out; omega)] at this; rw [← this]; exact hc.out
              replace hst2 := Lib.hid hst2
              go_wp2_with fail
              go_roundw
              case rel => exact ⟨k + 1, by omega, by omega, by go_num, hst2.out, hu6⟩
              case measure => simp [intOf]; omega
        · have he : k = a.length ∨ k = b.length := by omega
          have hend := Lib.hid (cmpL_end ⟨hk1, hk2⟩ he)
          have hfin : cmpL a b = sgn (decide ((a.length : Int) < b.length)) (decide ((b.length : Int) < a.length)) := by rw [← hend.out]; exact hc.out.symm
          replace hfin := Lib.hid hfin
          have hex : (¬ (k : Int) < a.length) ∨ ((k : Int) < a.length ∧ ¬ (k : Int) < b.length) := by omega
          clear hlt hend hc he
          rcases hex with hex | ⟨hex, hex2⟩
          all_goals
            by_cases hq1 : (a.length : Int) < b.length
            · have hfin2 : cmpL a b = -1 := by rw [hfin.out]; simp [sgn, hq1]
              replace hfin2 := Lib.hid hfin2
              go_wp2_with fail
              go_ret2
              exact ⟨by rw [hr.out, hfin2.out]; rfl, hu⟩
            · by_cases hq2 : (b.length : Int) < a.length
              · have hfin2 : cmpL a b = 1 := by rw [hfin.out]; simp [sgn, hq1, hq2]
                replace hfin2 := Lib.hid hfin2
                go_wp2_with fail
                go_ret2
                exact ⟨by rw [hr.out, hfin2.out]; rfl, hu⟩
              · have hfin2 : cmpL a b = 0 := by rw [hfin.out]; simp [sgn, hq1, hq2]
                replace hfin2 := Lib.hid hfin2
                go_wp2_with fail
                go_ret2
                exact ⟨by rw [hr.out, hfin2.out]; rfl, hu⟩
    · have hr : cmpR a b = (0, (encR b).2) := by unfold cmpR; rw [if_neg (by simp [h1]), if_pos h2]
      rw [hr]
      have hz : ((encR b).2 == 0) = false := by simp [h2]
      generalize (encR b).2 = e2 at *
      clear h1 h2 hr
      go_enter Try.func12, Try.ntmps12
      go_wp2_with fail
      refine ca.out.mono ?_
      rintro e w1 ⟨rfl, hu1⟩
      go_wp2_with fail
      refine (cb.out _ hu1).mono ?_
      rintro e w2 ⟨rfl, hu2⟩
      have hu2 := hu1.trans hu2 fun _ _ h => h
      go_wp2_with fail
      go_ret2
      exact ⟨rfl, hu2⟩
  · have hr : cmpR a b = (0, (encR a).2) := by unfold cmpR; rw [if_pos h1]
    rw [hr]
    have hz : ((encR a).2 == 0) = false := by simp [h1]
    generalize (encR a).2 = e2 at *
    clear h1 hr
    go_enter Try.func12, Try.ntmps12
    go_wp2_with fail
    refine ca.out.mono ?_
    rintro e w1 ⟨rfl, hu1⟩
    go_wp2_with fail
    go_ret2
    exact ⟨rfl, hu1⟩
end Go.Proofs.Ytnlmdagmhfcdeaa
