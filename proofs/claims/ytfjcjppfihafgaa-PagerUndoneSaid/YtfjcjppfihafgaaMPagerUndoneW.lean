/- The walk over PagerUndone. -/
import Derived.Test.YtfjcjppfihafgaaMPgO
namespace Go.Proofs.Ytfjcjppfihafgaa
open Go.RowKit Go.Amb Go.Shelf
set_option linter.unusedVariables false
set_option linter.unusedSimpArgs false
set_option maxRecDepth 100000
theorem Acs9.non {w w' : World} {v : Value} {l : List Ac9} (h : Acs9 w v l) (hu : Upd Non w w') : Acs9 w' v l := by
  obtain ⟨a, c, rfl, hm, hx⟩ := h.form
  refine ⟨a, c, rfl, hm, fun i hi => ?_⟩
  obtain ⟨hok, g, off, rfl, hc⟩ := hx i hi
  exact ⟨⟨hok.s, hok.has.non hu, fun h0 k hk => Nat.lt_of_lt_of_le (hok.old h0 k hk) hu.size⟩, g, off, rfl, fun j u hj => hu.cell (hc j u hj) fun h => h⟩
set_option maxHeartbeats 1000000 in
theorem undone9 (v1 v2 : Value) (l1 l2 : List Ac9) (w : World) (h1 : Acs9 w v1 l1) (h2 : Acs9 w v2 l2) : Calls Try.prog 4 #[v1, v2] w (Ret (.bool true) w) := by
  have hlv := Lib.hid lives09
  have hBe := Lib.hid (lBegun9 v1 l1 w h1)
  have hF1 := Lib.hid (fun w' (hu : Upd Non w w') => lFew9 v1 l1 w' (h1.non hu))
  have hF2 := Lib.hid (fun w' (hu : Upd Non w w') => lFew9 v2 l2 w' (h2.non hu))
  obtain ⟨a1, c1, rfl, -⟩ := h1.form
  obtain ⟨a2, c2, rfl, hm2, hx⟩ := h2.form
  unfold maxLen at hm2
  replace hx := Lib.hid hx
  clear h1 h2
  go_enter Try.func4, Try.ntmps4
  go_wp2_with fail
  refine hBe.out.mono ?_
  rintro en w1 ⟨P, D, r, g, I, F, st, d, rfl, hG, hl8, hP⟩
  replace hG := Lib.hid hG
  replace hl8 := Lib.hid hl8
  replace hP := Lib.hid hP
  clear hBe
  go_wp2_with fail
  refine (hF1.out _ hG.out.pb.lv.upd).mono ?_
  rintro en w2 ⟨b1, ⟨rfl, hb1⟩, hu⟩
  replace hG := Lib.hid (hG.out.non hu)
  clear hu hF1 hb1
  cases b1 with
  | false =>
    go_wp2_with fail
    refine (hlv.out _).mono ?_
    rintro en w9 ⟨rfl, hu⟩
    go_wp2_with fail
    go_ret
    exact ⟨rfl, (hG.out.pb.lv.upd).trans hu fun _ _ h => h⟩
  | true =>
    go_wp2_with fail
    refine (hF2.out _ hG.out.pb.lv.upd).mono ?_
    rintro en w3 ⟨b2, ⟨rfl, hb2⟩, hu⟩
    replace hG := Lib.hid (hG.out.non hu)
    clear hu hF2
    cases b2 with
    | false =>
      clear hb2
      go_wp2_with fail
      refine (hlv.out _).mono ?_
      rintro en w9 ⟨rfl, hu⟩
      go_wp2_with fail
      go_ret
      exact ⟨rfl, (hG.out.pb.lv.upd).trans hu fun _ _ h => h⟩
    | true =>
      replace hb2 := Lib.hid (hb2 rfl)
      have cS := Lib.hid (gSettle hG.out)
      go_wp2_with fail
      refine cS.out.mono ?_
      rintro en w4 ⟨rfl, F4, d4, h4, hd4, -⟩
      have h01 := Lib.hid (settle_01 hG.out.s4)
      have hP4 : Hid (d4.P.length ≤ 800) := Lib.hid (by rw [hd4]; exact hP.out)
      have hl4 : Hid ((turnL 3 2 st).length = 8) := Lib.hid ((List.length_map ..).trans hl8.out)
      clear hd4 cS hG hP hl8
      obtain ⟨s0, hs0⟩ : ∃ s0, turnL 3 2 st = s0 := ⟨_, rfl⟩
      rw [hs0] at h4 h01 hl4
      clear hs0
      have t2 : Hid (those 2 0 s0 = []) := Lib.hid (those_no 2 s0 0 fun x hx => by obtain ⟨i, rfl⟩ := mem_getD hx; rcases h01.out i with e | e <;> rw [e] <;> decide)
      have t3 : Hid (those 3 0 s0 = []) := Lib.hid (those_no 3 s0 0 fun x hx => by obtain ⟨i, rfl⟩ := mem_getD hx; rcases h01.out i with e | e <;> rw [e] <;> decide)
      obtain ⟨m, hm⟩ : ∃ m, those 1 0 s0 = m := ⟨_, rfl⟩
      have cP := Lib.hid (gPages h4.pb)
      rw [hm, t2.out, t3.out] at cP
      replace hm := Lib.hid hm
      replace h4 := Lib.hid h4
      go_wp2_with fail
      refine cP.out.mono ?_
      rintro en w5 ⟨aw, cw, af, cf, ao, co, rfl, nW, -, -, hu, bW, -, -⟩
      have hsd : Hid (Side w5 (own F4 P I r g) (.slice aw m.length cw) m) := Lib.hid ⟨nW, fun k hk => ⟨fun hO => by have := h4.out.pb.own_lt k hO; have := (bW k hk).1; omega, (bW k hk).2⟩⟩
      replace h4 := Lib.hid (h4.out.non hu)
      clear nW hu bW cP
      have cF := Lib.hid (gFree h4.out.pb)
      generalize hfn : freeN s0 = fn at *
      replace hfn := Lib.hid hfn
      go_wp2_with fail
      refine cF.out.mono ?_
      rintro en w6 ⟨rfl, hu⟩
      replace hsd := Lib.hid (hsd.out.non hu)
      replace h4 := Lib.hid (h4.out.non hu)
      clear hu cF
      go_wp2_with fail
      go_loopw [11] (fun iv wr => ∃ (k : Nat) (F : Nat → Prop) (sk : List Nat) (dk : Dk), iv = .int .i64 (k : Int) ∧ k ≤ l2.length ∧ Hid (Rl s0 sk ∧ dk.P.length ≤ 800 + 8 * k ∧ Pg w wr P D F r g I 3 sk dk ∧ Side wr (own F P I r g) (.slice aw m.length cw) m)) (fun iv _ => l2.length - (intOf iv).toNat)
      case atStart => exact ⟨0, F4, s0, d4, rfl, Nat.zero_le _, Lib.hid ⟨⟨rfl, fun i => ⟨fun h => .inl h, fun h => .inl h⟩⟩, hP4.out, h4.out, hsd.out⟩⟩
      case round =>
        clear h4 hsd hP4
        obtain ⟨k, Fk, sk, dk, rfl, hk, hS⟩ := hrel
        by_cases hlt : k < l2.length
        · have hltI : (k : Int) < (l2.length : Int) := by omega
          have hk0 : (0 : Int) ≤ (k : Int) := by omega
          obtain ⟨gg, off, kind, i, s, va, vc, keep, rfl, hs, hI, hold, hc⟩ := act_at hx.out hlt
          have hU := hS.out.2.2.1.pb.lv.upd
          obtain ⟨x0, x1, x2, x3⟩ := hc _ hU
          have hnext : Hid (∀ (F' : Nat → Prop) (st' : List Nat) (d' : Dk) (w' : World), Rl s0 st' → d'.P.length ≤ 800 + 8 * (k + 1) → Pg w w' P D F' r g I 3 st' d' → Side w' (own F' P I r g) (.slice aw m.length cw) m → Hid (Rl s0 st' ∧ d'.P.length ≤ 800 + 8 * (k + 1) ∧ Pg w w' P D F' r g I 3 st' d' ∧ Side w' (own F' P I r g) (.slice aw m.length cw) m)) := Lib.hid fun _ _ _ _ a b c d => Lib.hid ⟨a, b, c, d⟩
          by_cases k3 : kind = 3
          · subst k3
            have hN := hnext.out _ _ _ _ hS.out.1 (by have := hS.out.2.1; omega) hS.out.2.2.1 hS.out.2.2.2
            clear hs hI hold hc hU x1 x2 x3
            go_wp2_with fail
            go_roundw
            case rel => exact ⟨k + 1, Fk, sk, dk, by go_num, by omega, hN⟩
            case measure => simp [intOf]; omega
          have k3c : (kind != 3) = true := by simp [k3]
          by_cases k5 : kind = 5
          · subst k5
            have hN := hnext.out _ _ _ _ hS.out.1 (by have := hS.out.2.1; omega) hS.out.2.2.1 hS.out.2.2.2
            clear hs hI hold hc hU x1 x2 x3
            go_wp2_with fail
            go_roundw
            case rel => exact ⟨k + 1, Fk, sk, dk, by go_num, by omega, hN⟩
            case measure => simp [intOf]; omega
          have k5c : (kind != 5) = true := by simp [k5]
          have cP := Lib.hid (lPlay hS.out.2.2.1 (by have := hS.out.2.1; have := hb2.out; omega) kind i s _ keep hs (hI.non hU) (fun h0 q hq hO => by
            have h1 := hold h0 q hq
            have h2 := hS.out.2.2.1.pb.own_lo q hO
            omega))
          replace k3 := Lib.hid k3
          replace k5 := Lib.hid k5
          clear hs hI hold hc hU
          go_wp2_with fail
          refine cP.out.mono ?_
          rintro en w7 ⟨rfl, st', d', F', hG, hK, hP', hl', hmv⟩
          have hN := hnext.out _ _ _ _ (hS.out.1.mv h01.out (hmv k3.out k5.out)) (by have := hS.out.2.1; omega) hG (hS.out.2.2.2.keep hK)
          clear hG hK hP' hl' hmv cP x0 x1 x2 x3 hS hnext
          go_wp2_with fail
          go_roundw
          case rel => exact ⟨k + 1, F', st', d', by go_num, by omega, hN⟩
          case measure => simp [intOf]; omega
        · have hltI : ¬ (k : Int) < (l2.length : Int) := by omega
          have cU := Lib.hid (gUndo hS.out.2.2.1)
          rw [hS.out.1.undo h01.out] at cU
          clear hk hlt
          go_wp2_with fail
          refine cU.out.mono ?_
          rintro en w7 ⟨rfl, F7, d7, h7, -, k7⟩
          have s7 := hS.out.2.2.2.keep k7
          have cP := Lib.hid (gPages h7.pb)
          rw [hm.out, t2.out, t3.out] at cP
          replace h7 := Lib.hid h7
          replace s7 := Lib.hid s7
          clear k7 cU hS
          go_wp2_with fail
          refine cP.out.mono ?_
          rintro en w8 ⟨ax, cx, af', cf', ao', co', rfl, nN, -, -, hu, -, -, -⟩
          have h8 := Lib.hid (h7.out.non hu)
          have cE := Lib.hid (rSame_eq _ _ m w8 nN (s7.out.non hu).has)
          clear nN hu cP s7 h7
          go_wp2_with fail
          refine cE.out.mono ?_
          rintro en w10 ⟨rfl, hu⟩
          have h10 := Lib.hid (h8.out.non hu)
          have cF := Lib.hid (gFree h10.out.pb)
          rw [hfn.out] at cF
          clear hu h8 cE
          go_wp2_with fail
          refine cF.out.mono ?_
          rintro en w11 ⟨rfl, hu⟩
          have hU := h10.out.pb.lv.upd.trans hu fun _ _ h => h
          clear hu h10 cF
          go_wp2_with fail
          refine (hlv.out _).mono ?_
          rintro en w9 ⟨rfl, hu⟩
          go_wp2_with fail
          go_ret
          exact ⟨rfl, (hU).trans hu fun _ _ h => h⟩
end Go.Proofs.Ytfjcjppfihafgaa
