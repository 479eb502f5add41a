/- The walk of TupleRanges. -/
import Derived.Test.YtnlmdagmhfcdeaaTupleOrderW
import Derived.Test.YtnlmdagmhfcdeaaTPlainB
namespace Go.Proofs.Ytnlmdagmhfcdeaa
open Go.RowKit Go.Amb
set_option linter.unusedVariables false
attribute [local go_sem ↓] Go.wp_at_zero Go.wp_at_succ


theorem pcs_take (l : List Part) (n : Nat) : (pcs l).take (n * 3) = pcs (l.take n) := by
  induction l generalizing n with
  | nil => simp [pcs]
  | cons p l ih =>
    cases n with
    | zero => simp [pcs]
    | succ n =>
      show (pc p ++ pcs l).take ((n + 1) * 3) = pc p ++ pcs (l.take n)
      rw [← ih n, show (n + 1) * 3 = (pc p).length + n * 3 by simp [pc]; omega, List.take_length_add_append]
theorem parts_take {w : World} {a : Option Addr} {c n : Nat} {l : List Part} (h : Parts w (.slice a l.length c) l) (hn : n ≤ l.length) : Has w 3 (.slice a n c) n (pcs (l.take n)) := by
  obtain ⟨hl, a', c', hv, h1, h2, h3⟩ := h
  injection hv with e1 e2 e3
  subst e1; subst e3
  refine ⟨by rw [pcs_length]; simp; omega, _, _, rfl, by omega, h2, ?_⟩
  rcases h3 with h3 | ⟨g, off, hg, hc⟩
  · exact .inl (by omega)
  · refine .inr ⟨g, off, hg, fun j u hu => hc j u ?_⟩
    rw [← pcs_take, List.getElem?_take] at hu
    split at hu
    · exact hu
    · cases hu

set_option maxHeartbeats 1000000 in
theorem lbegins (va vb : Value) (a b : List Part) (w : World) (hA : Parts w va a) (hB : Parts w vb b) :
    Calls Try.prog 19 #[va, vb] w (Ret (.bool (decide ((a.length : Int) ≤ b.length) && decide (a = b.take a.length))) w) := by
  obtain ⟨aa, ac, rfl, halc, hac, hacell⟩ := parts_at hA
  obtain ⟨ba, bc', rfl, hblc, hbc, hbcell⟩ := parts_at hB
  clear hacell hbcell
  by_cases h : a.length ≤ b.length
  · have h' : (a.length : Int) ≤ b.length := by omega
    have hd : decide ((a.length : Int) ≤ b.length) = true := by simp; omega
    rw [hd, Bool.true_and]
    have hT := parts_take hB h
    have hlen : (b.take a.length).length = a.length := by simp; omega
    have hT' : Parts w (.slice ba a.length bc') (b.take a.length) := by unfold Parts; rw [hlen]; exact hT
    have hs := Lib.hid (rSame _ _ a (b.take a.length) w hA hT')
    have hcap : (a.length : Int) ≤ bc' := by omega
    replace hA := Lib.hid hA
    replace hB := Lib.hid hB
    clear hT hT' hlen
    unfold maxLen at hbc hac
    go_enter Try.func19, Try.ntmps19
    go_wp2_with fail
    refine hs.out.mono ?_
    rintro e w1 ⟨rfl, hu1⟩
    go_wp2_with fail
    go_ret
    exact ⟨rfl, hu1⟩
  · have h' : ¬ (a.length : Int) ≤ b.length := by omega
    have hd : decide ((a.length : Int) ≤ b.length) = false := by simp; omega
    rw [hd, Bool.false_and]
    go_enter Try.func19, Try.ntmps19
    go_wp2_with fail
    go_ret
    exact ⟨rfl, Upd.refl _ _⟩

set_option maxHeartbeats 2000000 in
theorem ranges_any (va vb : Value) (a b : List Part) (w : World) (hna : OkP a) (hnb : OkP b) (hA : Parts w va a) (hB : Parts w vb b) :
    Calls Try.prog 7 #[va, vb] w (Ret (.bool true) w) := by
  have ea := Lib.hid (tEncode va a w hna hA)
  have eb := Lib.hid (fun w' (hu : Upd Non w w') => tEncode vb b w' hnb (hB.non hu))
  have bg := Lib.hid (fun w' (hu : Upd Non w w') => lbegins va vb a b w' (hA.non hu) (hB.non hu))
  obtain ⟨aa, ac, rfl, halc, hac, hacell⟩ := parts_at hA
  obtain ⟨ba, bc', rfl, hblc, hbc, hbcell⟩ := parts_at hB
  clear hacell hbcell
  by_cases h : 1000 < a.length ∨ 1000 < b.length
  · by_cases h1 : 1000 < a.length
    · have h1' : decide ((a.length : Int) ≤ 1000) = false := by simp; omega
      have hf1 := lfew aa a.length ac w
      rw [h1'] at hf1
      replace hf1 := Lib.hid hf1
      go_enter Try.func7, Try.ntmps7
      go_wp2_with fail
      refine hf1.out.mono ?_
      rintro e w1 ⟨rfl, rfl⟩
      go_wp2_with fail
      refine (lives02 _).mono ?_
      rintro e w1 ⟨rfl, hu1⟩
      go_wp2_with fail
      go_ret
      exact ⟨rfl, hu1⟩
    · have h1' : decide ((a.length : Int) ≤ 1000) = true := by simp; omega
      have h2' : decide ((b.length : Int) ≤ 1000) = false := by simp; omega
      have hf1 := lfew aa a.length ac w
      have hf2 := lfew ba b.length bc' w
      rw [h1'] at hf1
      rw [h2'] at hf2
      replace hf1 := Lib.hid hf1
      replace hf2 := Lib.hid hf2
      go_enter Try.func7, Try.ntmps7
      go_wp2_with fail
      refine hf1.out.mono ?_
      rintro e w1 ⟨rfl, rfl⟩
      go_wp2_with fail
      refine hf2.out.mono ?_
      rintro e w1 ⟨rfl, rfl⟩
      go_wp2_with fail
      refine (lives02 _).mono ?_
      rintro e w1 ⟨rfl, hu1⟩
      go_wp2_with fail
      go_ret
      exact ⟨rfl, hu1⟩
  · have h1' : decide ((a.length : Int) ≤ 1000) = true := by simp; omega
    have h2' : decide ((b.length : Int) ≤ 1000) = true := by simp; omega
    have hf1 := lfew aa a.length ac w
    have hf2 := lfew ba b.length bc' w
    rw [h1'] at hf1
    rw [h2'] at hf2
    replace hf1 := Lib.hid hf1
    replace hf2 := Lib.hid hf2
    clear h
    by_cases g1 : (encR a).2 = 0
    · by_cases g2 : (encR b).2 = 0
      · obtain ⟨ra, la, qa⟩ := encR_fine g1
        obtain ⟨rb, lb, qb⟩ := encR_fine g2
        have hw := within_keys a b (right_all ra hna) (right_all rb hnb)
        rw [← hw] at bg
        have hbh := Lib.hid (fun w => tBehind (encB a) w (by omega))
        rw [qa] at ea
        rw [qb] at eb
        clear g1 g2 ra la qa rb lb qb hw
        generalize encB a = x at *
        generalize encB b = y at *
        cases hge : Op.bytesLess y x with
        | true =>
          rw [hge] at bg
          simp only [Bool.not_true, Bool.false_and] at bg
          go_enter Try.func7, Try.ntmps7
          go_wp2_with fail
          refine hf1.out.mono ?_
          rintro e w0 ⟨rfl, rfl⟩
          go_wp2_with fail
          refine hf2.out.mono ?_
          rintro e w0 ⟨rfl, rfl⟩
          go_wp2_with fail
          refine ea.out.mono ?_
          rintro e w1 ⟨rfl, hu1⟩
          go_wp2_with fail
          refine (eb.out _ hu1).mono ?_
          rintro e w2 ⟨rfl, hu2⟩
          have hu2 := hu1.trans hu2 fun _ _ h => h
          clear hu1
          go_wp2_with fail
          refine (bg.out _ hu2).mono ?_
          rintro e w3 ⟨rfl, hu3⟩
          have hu3 := hu2.trans hu3 fun _ _ h => h
          go_wp2_with fail
          refine (lives02 _).mono ?_
          rintro e w9 ⟨rfl, hu9⟩
          go_wp2_with fail
          go_ret
          exact ⟨rfl, hu3.trans hu9 fun _ _ h => h⟩
        | false =>
          rw [hge] at bg
          simp only [Bool.not_false, Bool.true_and] at bg
          generalize hlt : Op.bytesLess y (x ++ [255]) = q at *
          go_enter Try.func7, Try.ntmps7
          go_wp2_with fail
          refine hf1.out.mono ?_
          rintro e w0 ⟨rfl, rfl⟩
          go_wp2_with fail
          refine hf2.out.mono ?_
          rintro e w0 ⟨rfl, rfl⟩
          go_wp2_with fail
          refine ea.out.mono ?_
          rintro e w1 ⟨rfl, hu1⟩
          go_wp2_with fail
          refine (eb.out _ hu1).mono ?_
          rintro e w2 ⟨rfl, hu2⟩
          have hu2 := hu1.trans hu2 fun _ _ h => h
          clear hu1
          go_wp2_with fail
          refine (hbh.out _).mono ?_
          rintro e w3 ⟨rfl, rfl⟩
          go_wp2_with fail
          refine (bg.out _ hu2).mono ?_
          rintro e w3 ⟨rfl, hu3⟩
          have hu3 := hu2.trans hu3 fun _ _ h => h
          go_wp2_with fail
          refine (lives02 _).mono ?_
          rintro e w9 ⟨rfl, hu9⟩
          go_wp2_with fail
          go_ret
          exact ⟨rfl, hu3.trans hu9 fun _ _ h => h⟩
      · rw [g1] at ea
        have g2' : ((encR b).2 == 0) = false := by simp [g2]
        clear g1 g2
        generalize (encR a).1 = x at *
        generalize encR b = y at *
        obtain ⟨y1, y2⟩ := y
        simp only at g2'
        go_enter Try.func7, Try.ntmps7
        go_wp2_with fail
        refine hf1.out.mono ?_
        rintro e w0 ⟨rfl, rfl⟩
        go_wp2_with fail
        refine hf2.out.mono ?_
        rintro e w0 ⟨rfl, rfl⟩
        go_wp2_with fail
        refine ea.out.mono ?_
        rintro e w1 ⟨rfl, hu1⟩
        go_wp2_with fail
        refine (eb.out _ hu1).mono ?_
        rintro e w2 ⟨rfl, hu2⟩
        have hu2 := hu1.trans hu2 fun _ _ h => h
        clear hu1
        go_wp2_with fail
        refine (lives02 _).mono ?_
        rintro e w9 ⟨rfl, hu9⟩
        go_wp2_with fail
        go_ret
        exact ⟨rfl, hu2.trans hu9 fun _ _ h => h⟩
    · have g1' : ((encR a).2 == 0) = false := by simp [g1]
      clear g1
      generalize encR a = x at *
      generalize encR b = y at *
      obtain ⟨x1, x2⟩ := x
      obtain ⟨y1, y2⟩ := y
      simp only at g1'
      go_enter Try.func7, Try.ntmps7
      go_wp2_with fail
      refine hf1.out.mono ?_
      rintro e w0 ⟨rfl, rfl⟩
      go_wp2_with fail
      refine hf2.out.mono ?_
      rintro e w0 ⟨rfl, rfl⟩
      go_wp2_with fail
      refine ea.out.mono ?_
      rintro e w1 ⟨rfl, hu1⟩
      go_wp2_with fail
      refine (eb.out _ hu1).mono ?_
      rintro e w2 ⟨rfl, hu2⟩
      have hu2 := hu1.trans hu2 fun _ _ h => h
      clear hu1
      go_wp2_with fail
      refine (lives02 _).mono ?_
      rintro e w9 ⟨rfl, hu9⟩
      go_wp2_with fail
      go_ret
      exact ⟨rfl, hu2.trans hu9 fun _ _ h => h⟩
end Go.Proofs.Ytnlmdagmhfcdeaa
