/- The walks over tuple.order, tuple.Compare. -/
import Derived.Test.YtnlmdagmhfcdeaaTG
import Derived.Test.YtnlmdagmhfcdeaaTD
namespace Go.Proofs.Ytnlmdagmhfcdeaa
open Go.RowKit Go.Amb
set_option linter.unusedVariables false
attribute [local go_sem ↓] Go.wp_at_zero Go.wp_at_succ

theorem sgn_ne {x y : Int} (h : x ≠ y) : (sgn (decide (x < y)) (decide (y < x)) == 0) = false := by
  unfold sgn
  by_cases h1 : x < y
  · simp [h1]
  · have h2 : y < x := by omega
    simp [h1, h2]

set_option maxHeartbeats 1000000 in
theorem tOrder (p q : Part) (w : World) : Calls Try.prog 27 #[pV p, pV q] w (Ret (.int .i64 (cmpP p q)) w) := by
  have h1 := Lib.hid (fun w => by_1 p q w)
  by_cases hk : p.k = q.k
  · have e0 : sgn (decide (p.k < q.k)) (decide (q.k < p.k)) = 0 := by rw [hk]; simp [sgn]
    rw [e0] at h1
    by_cases h2 : p.k = 2
    · have e : cmpP p q = sgn (decide (p.n < q.n)) (decide (q.n < p.n)) := by unfold cmpP; rw [if_neg (by simp [hk]), if_pos h2]
      have h := Lib.hid (fun w => by_2 p q w)
      rw [← e] at h
      have g2 : (p.k == 2) = true := by simp [h2]
      generalize cmpP p q = r at *
      clear e0 e hk h2
      obtain ⟨pk, pn, ps⟩ := p
      simp only at g2
      go_enter Try.func27, Try.ntmps27
      go_wp2_with fail
      refine (h1.out _).mono ?_
      rintro e w1 ⟨rfl, hu1⟩
      obtain ⟨c0, f0, c1, f1, z1, z2, hU⟩ := hu1.own2 (fun _ h => h.elim)
      go_wp2_with fail
      refine (h.out _).mono ?_
      rintro e w2 ⟨rfl, hu2⟩
      go_wp2_with fail
      go_ret
      exact ⟨rfl, hU.trans hu2 fun _ _ h => h⟩
    · by_cases h3 : p.k = 3
      · have e : cmpP p q = sgn (decide (q.n < p.n)) (decide (p.n < q.n)) := by unfold cmpP; rw [if_neg (by simp [hk]), if_neg h2, if_pos h3]
        have h := Lib.hid (fun w => by_3 q p w)
        rw [← e] at h
        have g2 : (p.k == 2) = false := by simp [h2]
        have g3 : (p.k == 3) = true := by simp [h3]
        generalize cmpP p q = r at *
        clear e0 e hk h2 h3
        obtain ⟨pk, pn, ps⟩ := p
        simp only at g2 g3
        go_enter Try.func27, Try.ntmps27
        go_wp2_with fail
        refine (h1.out _).mono ?_
        rintro e w1 ⟨rfl, hu1⟩
        obtain ⟨c0, f0, c1, f1, z1, z2, hU⟩ := hu1.own2 (fun _ h => h.elim)
        go_wp2_with fail
        refine (h.out _).mono ?_
        rintro e w2 ⟨rfl, hu2⟩
        go_wp2_with fail
        go_ret
        exact ⟨rfl, hU.trans hu2 fun _ _ h => h⟩
      · have e : cmpP p q = sgn (Op.bytesLess p.s q.s) (Op.bytesLess q.s p.s) := by unfold cmpP; rw [if_neg (by simp [hk]), if_neg h2, if_neg h3]
        have h := Lib.hid (fun w => by_4 p q w)
        rw [← e] at h
        have g2 : (p.k == 2) = false := by simp [h2]
        have g3 : (p.k == 3) = false := by simp [h3]
        generalize cmpP p q = r at *
        clear e0 e hk h2 h3
        obtain ⟨pk, pn, ps⟩ := p
        simp only at g2 g3
        go_enter Try.func27, Try.ntmps27
        go_wp2_with fail
        refine (h1.out _).mono ?_
        rintro e w1 ⟨rfl, hu1⟩
        obtain ⟨c0, f0, c1, f1, z1, z2, hU⟩ := hu1.own2 (fun _ h => h.elim)
        go_wp2_with fail
        refine (h.out _).mono ?_
        rintro e w2 ⟨rfl, hu2⟩
        go_wp2_with fail
        go_ret
        exact ⟨rfl, hU.trans hu2 fun _ _ h => h⟩
  · have e : cmpP p q = sgn (decide (p.k < q.k)) (decide (q.k < p.k)) := by unfold cmpP; rw [if_pos hk]
    have g := sgn_ne hk
    rw [← e] at g h1
    generalize cmpP p q = r at *
    clear e
    go_enter Try.func27, Try.ntmps27
    go_wp2_with fail
    refine (h1.out _).mono ?_
    rintro e w1 ⟨rfl, hu1⟩
    obtain ⟨c0, f0, c1, f1, z1, z2, hU⟩ := hu1.own2 (fun _ h => h.elim)
    go_wp2_with fail
    go_ret
    exact ⟨rfl, hU⟩

/-- What Compare tells. -/
def cmpR (a b : List Part) : Int × Int := if (encR a).2 ≠ 0 then (0, (encR a).2) else if (encR b).2 ≠ 0 then (0, (encR b).2) else (cmpL a b, 0)
theorem cmpL_step {a b : List Part} {k : Nat} (ha : k < a.length) (hb : k < b.length) : cmpL (a.drop k) (b.drop k) = if cmpP a[k] b[k] ≠ 0 then cmpP a[k] b[k] else cmpL (a.drop (k + 1)) (b.drop (k + 1)) := by
  rw [List.drop_eq_getElem_cons ha, List.drop_eq_getElem_cons hb]; rfl
theorem cmpL_end {a b : List Part} {k : Nat} (h : k ≤ a.length ∧ k ≤ b.length) (he : k = a.length ∨ k = b.length) : cmpL (a.drop k) (b.drop k) = sgn (decide ((a.length : Int) < b.length)) (decide ((b.length : Int) < a.length)) := by
  unfold sgn
  rcases he with rfl | rfl
  · rw [List.drop_length]
    cases hd : b.drop a.length with
    | nil =>
      have : b.length ≤ a.length := by have := congrArg List.length hd; simp at this; omega
      rw [if_neg (by simp; omega), if_neg (by simp; omega)]; rfl
    | cons q r =>
      have : a.length < b.length := by have := congrArg List.length hd; simp at this; omega
      rw [if_pos (by simp; omega)]; rfl
  · rw [List.drop_length]
    cases hd : a.drop b.length with
    | nil =>
      have : a.length ≤ b.length := by have := congrArg List.length hd; simp at this; omega
      rw [if_neg (by simp; omega), if_neg (by simp; omega)]; rfl
    | cons q r =>
      have : b.length < a.length := by have := congrArg List.length hd; simp at this; omega
      rw [if_neg (by simp; omega), if_pos (by simp; omega)]; rfl

set_option maxRecDepth 100000 in
set_option maxHeartbeats 2000000 in
theorem tCompare (va vb : Value) (a b : List Part) (w : World) (hna : ∀ p ∈ a, numOk p ∧ p.s.length ≤ 140737488355328) (hnb : ∀ p ∈ b, numOk p ∧ p.s.length ≤ 140737488355328) (hA : Parts w va a) (hB : Parts w vb b) :
    Calls Try.prog 11 #[va, vb] w (Ret (.tuple #[.int .i64 (cmpR a b).1, .int .i64 (cmpR a b).2]) w) := by
  have ca := Lib.hid (tCheck va a w hna hA)
  have cb := Lib.hid (fun w' (hu : Upd Non w w') => tCheck vb b w' hnb (hB.non hu))
  obtain ⟨aa, ac, rfl, halc, hac, hacell⟩ := parts_at hA
  obtain ⟨ba, bc', rfl, hblc, hbc, hbcell⟩ := parts_at hB
  have hmxa := hac
  have hmxb := hbc
  unfold maxLen at hmxa hmxb
  replace hacell := Lib.hid hacell
  replace hbcell := Lib.hid hbcell
  by_cases h1 : (encR a).2 = 0
  · rw [h1] at ca
    by_cases h2 : (encR b).2 = 0
    · rw [h2] at cb
      have hr : cmpR a b = (cmpL a b, 0) := by unfold cmpR; rw [if_neg (by simp [h1]), if_neg (by simp [h2])]
      replace hr := Lib.hid hr
      clear h1 h2
      go_enter Try.func11, Try.ntmps11
      go_wp2_with fail
      refine ca.out.mono ?_
      rintro e w1 ⟨rfl, hu1⟩
      go_wp2_with fail
      refine (cb.out _ hu1).mono ?_
      rintro e w2 ⟨rfl, hu2⟩
      have hu2 := hu1.trans hu2 fun _ _ h => h
      clear hu1
      go_wp2_with fail
      go_loopw [8] (fun i wr => ∃ k : Nat, k ≤ a.length ∧ k ≤ b.length ∧ i = .int .i64 k ∧ cmpL (a.drop k) (b.drop k) = cmpL a b ∧ Upd Non w wr) (fun i _ => a.length - (intOf i).toNat)
      case atStart => exact ⟨0, by omega, by omega, rfl, rfl, hu2⟩
      case round =>
        obtain ⟨k, hk1, hk2, rfl, hc, hu⟩ := hrel
        replace hc := Lib.hid hc
        by_cases hlt : k < a.length ∧ k < b.length
        · obtain ⟨l1, l2⟩ := hlt
          obtain ⟨g, off, rfl, c0, c1, c2⟩ := hacell.out k l1
          obtain ⟨g', off', rfl, d0, d1, d2⟩ := hbcell.out k l2
          replace c0 := hu.cell c0 fun h => h
          replace c1 := hu.cell c1 fun h => h
          replace c2 := hu.cell c2 fun h => h
          replace d0 := hu.cell d0 fun h => h
          replace d1 := hu.cell d1 fun h => h
          replace d2 := hu.cell d2 fun h => h
          have hst := Lib.hid (cmpL_step l1 l2)
          have ho := Lib.hid (fun w => tOrder a[k] b[k] w)
          generalize a[k] = p at *
          generalize b[k] = q at *
          have l1' : (k : Int) < a.length := by omega
          have l2' : (k : Int) < b.length := by omega
          go_wp2_with fail
          (refine wp_tail 8 (by kernel_rfl) (by kernel_rfl) ?_; simp only [List.take_succ_cons, List.take_zero, List.drop_succ_cons, List.drop_zero]; (repeat still_step); refine wpStill_nil ?_)
          go_wp2_with fail
          refine (ho.out _).mono ?_
          rintro e w3 ⟨rfl, hu3⟩
          have hu4 : Upd Non w w3 := hu.trans ((Upd.drew Non wr).trans hu3 fun _ _ h => h) fun _ _ h => h
          by_cases hz : cmpP p q = 0
          · have hst2 : cmpL (a.drop (k + 1)) (b.drop (k + 1)) = cmpL a b := by have := hst.out; rw [if_neg (by simp [hz])] at this; rw [← this]; exact hc.out
            rw [hz]
            replace hz := Lib.hid hz
            replace hst2 := Lib.hid hst2
            go_wp2_with fail
            go_roundw
            case rel => exact ⟨k + 1, by omega, by omega, by go_num, hst2.out, hu4⟩
            case measure => simp [intOf]; omega
          · have hst2 : cmpP p q = cmpL a b := by have := hst.out; rw [if_pos hz] at this; rw [← this]; exact hc.out
            have hz' : (cmpP p q == 0) = false := by simp [hz]
            replace hst2 := Lib.hid hst2
            go_wp2_with fail
            go_ret2
            exact ⟨by rw [hr.out, ← hst2.out]; rfl, hu4⟩
        · have he : k = a.length ∨ k = b.length := by omega
          have hend := Lib.hid (cmpL_end ⟨hk1, hk2⟩ he)
          have hcm := fun w => cmp_int (a.length : Int) (b.length : Int) w
          have hfin : cmpL a b = sgn (decide ((a.length : Int) < b.length)) (decide ((b.length : Int) < a.length)) := by rw [← hend.out]; exact hc.out.symm
          rw [← hfin] at hcm
          replace hcm := Lib.hid hcm
          clear hlt hfin hend hc
          by_cases hl1 : k < a.length
          · have hk3 : ¬ (k : Int) < b.length := by omega
            have hl1' : (k : Int) < a.length := by omega
            clear he
            go_wp2_with fail
            refine (hcm.out _).mono ?_
            rintro e w3 ⟨rfl, rfl⟩
            go_wp2_with fail
            go_ret2
            exact ⟨by rw [hr.out]; rfl, hu⟩
          · have hl1' : ¬ (k : Int) < a.length := by omega
            clear he
            go_wp2_with fail
            refine (hcm.out _).mono ?_
            rintro e w3 ⟨rfl, rfl⟩
            go_wp2_with fail
            go_ret2
            exact ⟨by rw [hr.out]; rfl, hu⟩
    · have hr : cmpR a b = (0, (encR b).2) := by unfold cmpR; rw [if_neg (by simp [h1]), if_pos h2]
      rw [hr]
      have hz : ((encR b).2 == 0) = false := by simp [h2]
      generalize (encR b).2 = e2 at *
      clear h1 h2 hr
      go_enter Try.func11, Try.ntmps11
      go_wp2_with fail
      refine ca.out.mono ?_
      rintro e w1 ⟨rfl, hu1⟩
      go_wp2_with fail
      refine (cb.out _ hu1).mono ?_
      rintro e w2 ⟨rfl, hu2⟩
      have hu2 := hu1.trans hu2 fun _ _ h => h
      go_wp2_with fail
      go_ret2
      exact ⟨rfl, hu2⟩
  · have hr : cmpR a b = (0, (encR a).2) := by unfold cmpR; rw [if_pos h1]
    rw [hr]
    have hz : ((encR a).2 == 0) = false := by simp [h1]
    generalize (encR a).2 = e2 at *
    clear h1 hr
    go_enter Try.func11, Try.ntmps11
    go_wp2_with fail
    refine ca.out.mono ?_
    rintro e w1 ⟨rfl, hu1⟩
    go_wp2_with fail
    go_ret2
    exact ⟨rfl, hu1⟩
end Go.Proofs.Ytnlmdagmhfcdeaa
