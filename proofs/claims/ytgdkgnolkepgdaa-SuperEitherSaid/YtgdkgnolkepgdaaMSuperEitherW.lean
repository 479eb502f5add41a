/- The walk of SuperEither (under way). -/
import Derived.Test.YtgdkgnolkepgdaaMSuL
import Derived.Test.YtgdkgnolkepgdaaMSuV
import Derived.Test.YtgdkgnolkepgdaaMSuW
namespace Go.Proofs.Ytgdkgnolkepgdaa
set_option maxRecDepth 100000
open Go.RowKit Go.Amb Go.Shelf
set_option linter.unusedVariables false
set_option linter.unusedSimpArgs false
attribute [local go_sem ↓] Go.wp_at_zero Go.wp_at_succ
def spC (s : Sp) : Array Value := #[.int .i64 s.gen, .int .i64 s.root, .int .i64 s.start, .int .i64 s.epoch, .int .i64 s.last, .int .i64 s.mark]
/-- Supers that lie in a row. -/
structure Sups (w : World) (v : Value) (l : List Sp) : Prop where
  form : ∃ a c, v = .slice a l.length c ∧ l.length ≤ maxLen ∧ ∀ i (hi : i < l.length), ∃ g off, a = some ⟨g, off, none⟩ ∧ ∀ j u, (spC l[i])[j]? = some u → w.cell? ⟨g, off + i * 6 + j, none⟩ = some u
/-- Rows of numbers that lie in a row. -/
structure Rows2 (w : World) (v : Value) (l : List (Value × List Int)) : Prop where
  form : ∃ a c, v = .slice a l.length c ∧ l.length ≤ maxLen ∧ ∀ i (hi : i < l.length), ∃ g off, a = some ⟨g, off, none⟩ ∧ w.cell? ⟨g, off + i, none⟩ = some l[i].1 ∧ Ints w l[i].1 l[i].2 ∧ ∀ k, At l[i].1 k → 0 < l[i].2.length → k < w.heap.size
theorem save_P (d : Dk) (s : Sp) : (saveR d s).1.P.length ≤ d.P.length + 1 := by
  have h1 := write_P d (nextG d % 2) (putS (s.at_ (nextG d)))
  have h2 := flush_P (d.write (nextG d % 2) (putS (s.at_ (nextG d)))).1
  unfold saveR
  split
  · exact Nat.le_succ _
  · split
    · exact Nat.le_succ _
    · split
      · exact Nat.le_succ _
      · split
        · exact h1
        · split
          · exact Nat.le_trans h2 h1
          · exact Nat.le_trans h2 h1
theorem al_new : Al (Dk.new 4) (-1) := ⟨rfl, rfl, rfl, rfl⟩
theorem find_new4 : findR (Dk.new 4) = (Sp.none, 0, 4) := by
  rw [find_al al_new]
  show fnd nul128 nul128 = _
  unfold fnd
  rw [read_nul]
  rfl
set_option maxHeartbeats 8000000 in
theorem either11 (v0 v1 v2 : Value) (l : List Sp) (fz : List UInt8) (ks : List (Value × List Int)) (w : World) (hl : Sups w v0 l) (hf : Bytes w v1 fz) (hk : Rows2 w v2 ks) (hfl : fz.length ≤ 140737488355328) :
    Calls Try.prog 7 #[v0, v1, v2] w (Ret (.bool true) w) := by
  have hlv := Lib.hid lives11
  have hneq := sup_neqG
  have hgn := sup_guard .neq
  obtain ⟨a0, c0, rfl, hlm, hlc⟩ := hl.form
  obtain ⟨a1, c1, rfl⟩ := bytes_form hf
  obtain ⟨a2, c2, rfl, hkm, hkc⟩ := hk.form
  clear hl hk
  replace hlc := Lib.hid hlc
  replace hkc := Lib.hid hkc
  unfold maxLen at hlm hkm
  by_cases h50 : 50 < l.length
  · have h50b : (50 : Int) < (l.length : Int) := by omega
    go_enter Try.func7, Try.ntmps7
    go_wp2_with fail
    refine (lvNew 4 (by decide) (by decide) w).mono ?_
    rintro en w1 ⟨D, F1, rfl, hL⟩
    have hU := hL.upd
    go_wp2_with fail
    refine (hlv.out _).mono ?_
    rintro en w9 ⟨rfl, hu⟩
    go_wp2_with fail
    go_ret
    exact ⟨rfl, hU.trans hu fun _ _ h => h⟩
  · have h50b : decide ((50 : Int) < (l.length : Int)) = false := decide_eq_false (by omega)
    go_enter Try.func7, Try.ntmps7
    go_wp2_with fail
    refine (lvNew 4 (by decide) (by decide) w).mono ?_
    rintro en w1 ⟨D, F1, rfl, hL⟩
    go_wp2_with fail
    have hz1 := hL.upd.size
    have hb0 := heap_alloc_new w1 (.cells (spC Sp.none) 23)
    have hF0 : ¬ F1 w1.heap.size := fun e => by have := hL.at_.lt _ e; omega
    replace hL := hL.non (Upd.alloc Non w1 (.cells (spC Sp.none) 23))
    generalize hgb : w1.heap.size = gb at *
    go_loopw [10, 11] (fun hv i wr => ∃ (k : Nat) (d : Dk) (F : Nat → Prop) (had : Bool) (was : Sp), k ≤ l.length ∧ i = .int .i64 (k : Int) ∧ hv = .bool had ∧ Lv w D wr F d ∧ Al d (-1) ∧ Fd d had was k ∧ wr.heap[gb]? = some (.cells (spC (if had = true then was else Sp.none)) 23 (0, 0)) ∧ ¬ F gb) (fun _ i _ => l.length - (intOf i).toNat)
    case atStart => exact ⟨0, Dk.new 4, F1, false, Sp.none, by omega, rfl, rfl, hL, al_new, by unfold Fd; rw [if_neg (by decide), find_new4], hb0, hF0⟩
    case round =>
      clear hb0 hF0 hL
      obtain ⟨k, d, F, had, was, hk, rfl, rfl, hL, hA, hst, hb, hF⟩ := hrel
      by_cases hlt : k < l.length
      · have hlI : (k : Int) < (l.length : Int) := by omega
        obtain ⟨g, off, rfl, hc⟩ := hlc.out k hlt
        have y0 := hL.upd.cell (hc 0 _ rfl) fun h => h
        have y1 := hL.upd.cell (hc 1 _ rfl) fun h => h
        have y2 := hL.upd.cell (hc 2 _ rfl) fun h => h
        have y3 := hL.upd.cell (hc 3 _ rfl) fun h => h
        have y4 := hL.upd.cell (hc 4 _ rfl) fun h => h
        have y5 := hL.upd.cell (hc 5 _ rfl) fun h => h
        have hyc : Hid (∀ w', Upd Non w w' → w'.cell? ⟨g, off + k * 6, none⟩ = some (.int .i64 l[k].gen) ∧ w'.cell? ⟨g, off + k * 6 + 1, none⟩ = some (.int .i64 l[k].root) ∧ w'.cell? ⟨g, off + k * 6 + 2, none⟩ = some (.int .i64 l[k].start) ∧ w'.cell? ⟨g, off + k * 6 + 3, none⟩ = some (.int .i64 l[k].epoch) ∧ w'.cell? ⟨g, off + k * 6 + 4, none⟩ = some (.int .i64 l[k].last) ∧ w'.cell? ⟨g, off + k * 6 + 5, none⟩ = some (.int .i64 l[k].mark)) := Lib.hid (fun w' hu =>
          ⟨hu.cell (hc 0 _ rfl) fun h => h, hu.cell (hc 1 _ rfl) fun h => h, hu.cell (hc 2 _ rfl) fun h => h, hu.cell (hc 3 _ rfl) fun h => h, hu.cell (hc 4 _ rfl) fun h => h, hu.cell (hc 5 _ rfl) fun h => h⟩)
        clear hc
        have hck := Lib.hid (fun w => yCheck l[k] w)
        have hor := ckS_or l[k]
        generalize l[k] = s at *
        obtain ⟨sg, sr, ss, se, sl, sm⟩ := s
        unfold spV at hck
        simp only [Nat.add_zero] at hck y0 y1 y2 y3 y4 y5
        replace hyc : Hid _ := hyc
        simp only at hyc
        rcases hor with ⟨hok, hc0⟩ | ⟨hok, hc0⟩
        · rw [hc0] at hck
          go_wp2_with fail
          refine (hck.out _).mono ?_
          rintro en w2 ⟨rfl, hu⟩
          replace hL := hL.non hu
          replace hb := hu.heap hb fun h => h
          clear hu y0 y1 y2 y3 y4 y5 hck hc0
          by_cases hkf : k < fz.length
          · have hkI : (k : Int) < (fz.length : Int) := by omega
            obtain ⟨g1, o1, c1', e1, -, -, hcf⟩ := bytes_at hf (by omega)
            injection e1 with e1 e2 e3
            subst e1
            have z0 := hL.upd.cell (hcf k hkf) fun h => h
            clear hcf e2 e3
            have hx8 : fz[k].toNat < 256 := fz[k].toNat_lt
            generalize fz[k].toNat = x at *
            go_wp2_with fail
            refine (lvArm hL ((x : Int) % 4 - 1) (by omega)).mono ?_
            rintro en w3 ⟨rfl, F3, hL, hK⟩
            have hkb := keep_blk hK hb hF
            clear hb hF
            obtain ⟨hb, hF⟩ := hkb
            have hA3 := al_arm hA ((x : Int) % 4 - 1)
            have hst := fd_arm hA ((x : Int) % 4 - 1) hst
            have hf3 : -1 ≤ max (-1) ((x : Int) % 4 - 1) := Int.le_max_left _ _
            clear z0 hA hK
            generalize (d.arm ((x : Int) % 4 - 1)).1 = d3 at *
            generalize max (-1) ((x : Int) % 4 - 1) = f3 at *
            obtain ⟨y0, y1, y2, y3, y4, y5⟩ := hyc.out _ hL.upd
            have hsv := Lib.hid (ySave hL (by rw [hA3.p]; decide) ⟨sg, sr, ss, se, sl, sm⟩)
            have hpl := save_P d3 ⟨sg, sr, ss, se, sl, sm⟩
            rw [hA3.p] at hpl
            replace hpl : (saveR d3 ⟨sg, sr, ss, se, sl, sm⟩).1.P.length ≤ 1 := hpl
            have hstep := Lib.hid (fun lst => either_step hA3 hf3 hst (by omega) (by omega) ⟨sg, sr, ss, se, sl, sm⟩ hok lst _ rfl)
            generalize saveR d3 ⟨sg, sr, ss, se, sl, sm⟩ = rr at *
            obtain ⟨D1, ⟨qg, qr, qs, qe, ql, qm⟩, e1⟩ := rr
            unfold SaveRet spV at hsv
            simp only at hsv hpl hstep
            go_wp2_with fail
            refine hsv.out.mono ?_
            rintro en w4 ⟨rfl, F4, hL4, hK4⟩
            have hkb := keep_blk hK4 hb hF
            clear hb hF
            obtain ⟨hb, hF⟩ := hkb
            replace hb := (Upd.alloc Non w4 (.cells #[.int .i64 qg, .int .i64 qr, .int .i64 qs, .int .i64 qe, .int .i64 ql, .int .i64 qm] 23)).heap hb fun h => h
            have hbq := heap_alloc_new w4 (.cells #[.int .i64 qg, .int .i64 qr, .int .i64 qs, .int .i64 qe, .int .i64 ql, .int .i64 qm] 23)
            have hFq : ¬ F4 w4.heap.size := fun e => by have := hL4.at_.lt _ e; omega
            replace hL4 := hL4.non (Upd.alloc Non w4 (.cells #[.int .i64 qg, .int .i64 qr, .int .i64 qs, .int .i64 qe, .int .i64 ql, .int .i64 qm] 23))
            clear hsv hL hK4 y0 y1 y2 y3 y4 y5
            by_cases hkk : k < ks.length
            · have hkkI : (k : Int) < (ks.length : Int) := by omega
              obtain ⟨g2, o2, ea, hcell, hI, hold⟩ := hkc.out k hkk
              obtain ⟨ka, kc, hke⟩ : ∃ a c, ks[k].1 = .slice a ks[k].2.length c := by
                obtain ⟨_, a, c, e, _⟩ := hI
                exact ⟨a, c, e⟩
              rw [hke] at hcell hI hold
              subst ea
              clear hke
              generalize ks[k].2 = lst at *
              have z0 := hL4.upd.cell hcell fun h => h
              clear hcell
              by_cases h100 : 100 < lst.length
              · have h100I : decide ((100 : Int) < (lst.length : Int)) = true := decide_eq_true (by omega)
                have hU := hL4.upd
                go_wp2_with fail
                refine (hlv.out _).mono ?_
                rintro en w9 ⟨rfl, hu⟩
                go_wp2_with fail
                go_ret
                exact ⟨rfl, hU.trans hu fun _ _ h => h⟩
              · have h100I : decide ((100 : Int) < (lst.length : Int)) = false := decide_eq_false (by omega)
                have hI4 := hI.upd hL4.upd fun _ _ h => h
                have hV : 0 < lst.length → ∀ j, At (.slice ka lst.length kc) j → ¬ F4 j := fun h0 j hj hF => by
                  have h1 := hold j hj h0
                  have h2 := hL4.own j hF
                  omega
                clear hold hI
                go_wp2_with fail
                refine (lvCrash hL4 (by omega) _ lst hI4 hV).mono ?_
                rintro en w5 ⟨rfl, F5, hL5, hK5⟩
                have hkb := keep_blk hK5 hb hF
                clear hb hF
                obtain ⟨hb, hF⟩ := hkb
                have hkb := keep_blk hK5 hbq hFq
                clear hbq hFq
                obtain ⟨hbq, hFq⟩ := hkb
                replace hstep := hstep.out lst
                clear hL4 hK5
                generalize D1.crash lst = d2 at *
                have hfi := Lib.hid (yFind hL5.at_ (by rw [hstep.1.p]; decide))
                obtain ⟨⟨⟨xg, xr, xs, xe, xl, xm⟩, xat, xc⟩, hfr⟩ : ∃ r, findR d2 = r := ⟨_, rfl⟩
                rw [hfr] at hfi hstep
                unfold spV at hfi
                simp only at hfi hstep
                go_wp2_with fail
                refine hfi.out.mono ?_
                rintro en w6 ⟨rfl, hu⟩
                have hL6 := hL5.non (hu.then_alloc (.cells #[.int .i64 xg, .int .i64 xr, .int .i64 xs, .int .i64 xe, .int .i64 xl, .int .i64 xm] 23))
                have hbX := heap_alloc_new w6 (.cells #[.int .i64 xg, .int .i64 xr, .int .i64 xs, .int .i64 xe, .int .i64 xl, .int .i64 xm] 23)
                replace hb := (Upd.alloc Non w6 (.cells #[.int .i64 xg, .int .i64 xr, .int .i64 xs, .int .i64 xe, .int .i64 xl, .int .i64 xm] 23)).heap (hu.heap hb fun h => h) fun h => h
                replace hbq := (Upd.alloc Non w6 (.cells #[.int .i64 xg, .int .i64 xr, .int .i64 xs, .int .i64 xe, .int .i64 xl, .int .i64 xm] 23)).heap (hu.heap hbq fun h => h) fun h => h
                clear hu hL5 hfi
                obtain ⟨y0, y1, y2, y3, y4, y5⟩ := hyc.out _ hL6.upd
                obtain ⟨wg, wr', ws, we, wl, wm⟩ := was
                obtain ⟨hA2, hout⟩ := hstep
                cases had with
                | true =>
                  rw [if_pos rfl] at hb hout
                  unfold spC at hb
                  simp only at hb hout
                  have p0 := fun X => (cells6 ((Upd.alloc Non (w6.alloc (.cells #[.int .i64 xg, .int .i64 xr, .int .i64 xs, .int .i64 xe, .int .i64 xl, .int .i64 xm] 23)) X).heap hb fun h => h)).1
                  have p1 := fun X => (cells6 ((Upd.alloc Non (w6.alloc (.cells #[.int .i64 xg, .int .i64 xr, .int .i64 xs, .int .i64 xe, .int .i64 xl, .int .i64 xm] 23)) X).heap hb fun h => h)).2.1
                  have p2 := fun X => (cells6 ((Upd.alloc Non (w6.alloc (.cells #[.int .i64 xg, .int .i64 xr, .int .i64 xs, .int .i64 xe, .int .i64 xl, .int .i64 xm] 23)) X).heap hb fun h => h)).2.2.1
                  have p3 := fun X => (cells6 ((Upd.alloc Non (w6.alloc (.cells #[.int .i64 xg, .int .i64 xr, .int .i64 xs, .int .i64 xe, .int .i64 xl, .int .i64 xm] 23)) X).heap hb fun h => h)).2.2.2.1
                  have p4 := fun X => (cells6 ((Upd.alloc Non (w6.alloc (.cells #[.int .i64 xg, .int .i64 xr, .int .i64 xs, .int .i64 xe, .int .i64 xl, .int .i64 xm] 23)) X).heap hb fun h => h)).2.2.2.2.1
                  have p5 := fun X => (cells6 ((Upd.alloc Non (w6.alloc (.cells #[.int .i64 xg, .int .i64 xr, .int .i64 xs, .int .i64 xe, .int .i64 xl, .int .i64 xm] 23)) X).heap hb fun h => h)).2.2.2.2.2
                  have q0 := fun X => (cells6 ((Upd.alloc Non (w6.alloc (.cells #[.int .i64 xg, .int .i64 xr, .int .i64 xs, .int .i64 xe, .int .i64 xl, .int .i64 xm] 23)) X).heap hbq fun h => h)).1
                  have q1 := fun X => (cells6 ((Upd.alloc Non (w6.alloc (.cells #[.int .i64 xg, .int .i64 xr, .int .i64 xs, .int .i64 xe, .int .i64 xl, .int .i64 xm] 23)) X).heap hbq fun h => h)).2.1
                  have q2 := fun X => (cells6 ((Upd.alloc Non (w6.alloc (.cells #[.int .i64 xg, .int .i64 xr, .int .i64 xs, .int .i64 xe, .int .i64 xl, .int .i64 xm] 23)) X).heap hbq fun h => h)).2.2.1
                  have q3 := fun X => (cells6 ((Upd.alloc Non (w6.alloc (.cells #[.int .i64 xg, .int .i64 xr, .int .i64 xs, .int .i64 xe, .int .i64 xl, .int .i64 xm] 23)) X).heap hbq fun h => h)).2.2.2.1
                  have q4 := fun X => (cells6 ((Upd.alloc Non (w6.alloc (.cells #[.int .i64 xg, .int .i64 xr, .int .i64 xs, .int .i64 xe, .int .i64 xl, .int .i64 xm] 23)) X).heap hbq fun h => h)).2.2.2.2.1
                  have q5 := fun X => (cells6 ((Upd.alloc Non (w6.alloc (.cells #[.int .i64 xg, .int .i64 xr, .int .i64 xs, .int .i64 xe, .int .i64 xl, .int .i64 xm] 23)) X).heap hbq fun h => h)).2.2.2.2.2
                  have r0 := fun X => (cells6 ((Upd.alloc Non (w6.alloc (.cells #[.int .i64 xg, .int .i64 xr, .int .i64 xs, .int .i64 xe, .int .i64 xl, .int .i64 xm] 23)) X).heap hbX fun h => h)).1
                  have r1 := fun X => (cells6 ((Upd.alloc Non (w6.alloc (.cells #[.int .i64 xg, .int .i64 xr, .int .i64 xs, .int .i64 xe, .int .i64 xl, .int .i64 xm] 23)) X).heap hbX fun h => h)).2.1
                  have r2 := fun X => (cells6 ((Upd.alloc Non (w6.alloc (.cells #[.int .i64 xg, .int .i64 xr, .int .i64 xs, .int .i64 xe, .int .i64 xl, .int .i64 xm] 23)) X).heap hbX fun h => h)).2.2.1
                  have r3 := fun X => (cells6 ((Upd.alloc Non (w6.alloc (.cells #[.int .i64 xg, .int .i64 xr, .int .i64 xs, .int .i64 xe, .int .i64 xl, .int .i64 xm] 23)) X).heap hbX fun h => h)).2.2.2.1
                  have r4 := fun X => (cells6 ((Upd.alloc Non (w6.alloc (.cells #[.int .i64 xg, .int .i64 xr, .int .i64 xs, .int .i64 xe, .int .i64 xl, .int .i64 xm] 23)) X).heap hbX fun h => h)).2.2.2.2.1
                  have r5 := fun X => (cells6 ((Upd.alloc Non (w6.alloc (.cells #[.int .i64 xg, .int .i64 xr, .int .i64 xs, .int .i64 xe, .int .i64 xl, .int .i64 xm] 23)) X).heap hbX fun h => h)).2.2.2.2.2
                  have hwb : 0 ≤ wg ∧ wg ≤ (k : Int) := by
                    unfold Fd at hst
                    rw [if_pos rfl] at hst
                    have h1 := find_ok hst.1
                    rw [hst.2.1] at h1
                    exact ⟨h1.1.1, hst.2.2⟩
                  have hww : IntKind.i64.wrap (wg + 1) = wg + 1 := IntWalk.i64_in _ ⟨by omega, by omega⟩
                  rcases hout with ⟨eq, hx0, hxw, hgm⟩ | ⟨eq, ⟨hx0, hxw, hgm⟩ | ⟨hx0, hxw⟩⟩
                  · unfold Sp.at_ at eq hxw hgm
                    simp only [Prod.mk.injEq, Sp.mk.injEq] at eq hxw
                    obtain ⟨⟨h1, h2, h3, h4, h5, h6⟩, h7⟩ := eq
                    obtain ⟨g1, g2, g3, g4, g5, g6⟩ := hxw
                    subst h1 h2 h3 h4 h5 h6 h7 g1 g2 g3 g4 g5 g6 hx0
                    have hL7 := hL6.non (Upd.alloc Non _ (.cells #[.int .i64 (wg + 1), .int .i64 xr, .int .i64 xs, .int .i64 xe, .int .i64 xl, .int .i64 xm] 23))
                    have hb7 := (Upd.alloc Non _ (.cells #[.int .i64 (wg + 1), .int .i64 xr, .int .i64 xs, .int .i64 xe, .int .i64 xl, .int .i64 xm] 23)).heap hb fun h => h
                    go_wp2_with ((with_reducible (show wpList _ _ _ (⟨_, Op.store _ (Operand.tmp 9) _, _, _, _, _⟩ :: _) _ _)); go_must (refine storeB_list rfl 23 _ _ rfl gb #[.int .i64 (wg + 1), .int .i64 xr, .int .i64 xs, .int .i64 xe, .int .i64 xl, .int .i64 xm] _ _ rfl rfl hb7 rfl size_sp.out (by simp [Value.oneCell']) ?_))
                    intro w18 hb18 hu18
                    have hL18 := hL7.beside hu18 hF hz1
                    go_wp2_with fail
                    go_roundw
                    case rel => exact ⟨k + 1, d2, F5, true, ⟨(wg + 1), xr, xs, xe, xl, xm⟩, by omega, by go_num, rfl, hL18, hA2, fd_found (by rw [hfr]) (by rw [hfr]) (by show (wg + 1) ≤ ((k + 1 : Nat) : Int); omega), by rw [if_pos rfl]; exact hb18, hF⟩
                    case measure => simp [intOf]; omega
                  · unfold Sp.at_ at hxw hgm
                    unfold Sp.none at eq
                    simp only [Prod.mk.injEq, Sp.mk.injEq] at eq hxw
                    obtain ⟨⟨h1, h2, h3, h4, h5, h6⟩, h7⟩ := eq
                    obtain ⟨g1, g2, g3, g4, g5, g6⟩ := hxw
                    subst h1 h2 h3 h4 h5 h6 h7 g1 g2 g3 g4 g5 g6 hx0
                    have hL7 := hL6.non (Upd.alloc Non _ (.cells #[.int .i64 (wg + 1), .int .i64 xr, .int .i64 xs, .int .i64 xe, .int .i64 xl, .int .i64 xm] 23))
                    have hb7 := (Upd.alloc Non _ (.cells #[.int .i64 (wg + 1), .int .i64 xr, .int .i64 xs, .int .i64 xe, .int .i64 xl, .int .i64 xm] 23)).heap hb fun h => h
                    go_wp2_with ((with_reducible (show wpList _ _ _ (⟨_, Op.store _ (Operand.tmp 9) _, _, _, _, _⟩ :: _) _ _)); go_must (refine storeB_list rfl 23 _ _ rfl gb #[.int .i64 (wg + 1), .int .i64 xr, .int .i64 xs, .int .i64 xe, .int .i64 xl, .int .i64 xm] _ _ rfl rfl hb7 rfl size_sp.out (by simp [Value.oneCell']) ?_))
                    intro w18 hb18 hu18
                    have hL18 := hL7.beside hu18 hF hz1
                    go_wp2_with fail
                    go_roundw
                    case rel => exact ⟨k + 1, d2, F5, true, ⟨(wg + 1), xr, xs, xe, xl, xm⟩, by omega, by go_num, rfl, hL18, hA2, fd_found (by rw [hfr]) (by rw [hfr]) (by show (wg + 1) ≤ ((k + 1 : Nat) : Int); omega), by rw [if_pos rfl]; exact hb18, hF⟩
                    case measure => simp [intOf]; omega
                  · unfold Fd at hst
                    rw [if_pos rfl] at hst
                    rw [hst.1] at hx0
                    rw [hst.2.1] at hxw
                    unfold Sp.none at eq
                    simp only [Prod.mk.injEq, Sp.mk.injEq] at eq hxw
                    obtain ⟨⟨h1, h2, h3, h4, h5, h6⟩, h7⟩ := eq
                    obtain ⟨g1, g2, g3, g4, g5, g6⟩ := hxw
                    subst h1 h2 h3 h4 h5 h6 h7 g1 g2 g3 g4 g5 g6 hx0
                    have hL7 := hL6.non (Upd.alloc Non _ (.cells #[.int .i64 (xg + 1), .int .i64 sr, .int .i64 ss, .int .i64 se, .int .i64 sl, .int .i64 sm] 23))
                    have hb7 := (Upd.alloc Non _ (.cells #[.int .i64 (xg + 1), .int .i64 sr, .int .i64 ss, .int .i64 se, .int .i64 sl, .int .i64 sm] 23)).heap hb fun h => h
                    go_wp2_with ((with_reducible (show wpList _ _ _ (⟨_, Op.store _ (Operand.tmp 9) _, _, _, _, _⟩ :: _) _ _)); go_must (refine storeB_list rfl 23 _ _ rfl gb #[.int .i64 xg, .int .i64 xr, .int .i64 xs, .int .i64 xe, .int .i64 xl, .int .i64 xm] _ _ rfl rfl hb7 rfl size_sp.out (by simp [Value.oneCell']) ?_))
                    intro w18 hb18 hu18
                    have hL18 := hL7.beside hu18 hF hz1
                    go_wp2_with fail
                    go_roundw
                    case rel => exact ⟨k + 1, d2, F5, true, ⟨xg, xr, xs, xe, xl, xm⟩, by omega, by go_num, rfl, hL18, hA2, fd_found (by rw [hfr]) (by rw [hfr]) (by show xg ≤ ((k + 1 : Nat) : Int); omega), by rw [if_pos rfl]; exact hb18, hF⟩
                    case measure => simp [intOf]; omega
                | false =>
                  rw [if_neg (by decide)] at hb hout
                  unfold spC Sp.none at hb
                  simp only at hb hout
                  have p0 := fun X => (cells6 ((Upd.alloc Non (w6.alloc (.cells #[.int .i64 xg, .int .i64 xr, .int .i64 xs, .int .i64 xe, .int .i64 xl, .int .i64 xm] 23)) X).heap hb fun h => h)).1
                  have p1 := fun X => (cells6 ((Upd.alloc Non (w6.alloc (.cells #[.int .i64 xg, .int .i64 xr, .int .i64 xs, .int .i64 xe, .int .i64 xl, .int .i64 xm] 23)) X).heap hb fun h => h)).2.1
                  have p2 := fun X => (cells6 ((Upd.alloc Non (w6.alloc (.cells #[.int .i64 xg, .int .i64 xr, .int .i64 xs, .int .i64 xe, .int .i64 xl, .int .i64 xm] 23)) X).heap hb fun h => h)).2.2.1
                  have p3 := fun X => (cells6 ((Upd.alloc Non (w6.alloc (.cells #[.int .i64 xg, .int .i64 xr, .int .i64 xs, .int .i64 xe, .int .i64 xl, .int .i64 xm] 23)) X).heap hb fun h => h)).2.2.2.1
                  have p4 := fun X => (cells6 ((Upd.alloc Non (w6.alloc (.cells #[.int .i64 xg, .int .i64 xr, .int .i64 xs, .int .i64 xe, .int .i64 xl, .int .i64 xm] 23)) X).heap hb fun h => h)).2.2.2.2.1
                  have p5 := fun X => (cells6 ((Upd.alloc Non (w6.alloc (.cells #[.int .i64 xg, .int .i64 xr, .int .i64 xs, .int .i64 xe, .int .i64 xl, .int .i64 xm] 23)) X).heap hb fun h => h)).2.2.2.2.2
                  have q0 := fun X => (cells6 ((Upd.alloc Non (w6.alloc (.cells #[.int .i64 xg, .int .i64 xr, .int .i64 xs, .int .i64 xe, .int .i64 xl, .int .i64 xm] 23)) X).heap hbq fun h => h)).1
                  have q1 := fun X => (cells6 ((Upd.alloc Non (w6.alloc (.cells #[.int .i64 xg, .int .i64 xr, .int .i64 xs, .int .i64 xe, .int .i64 xl, .int .i64 xm] 23)) X).heap hbq fun h => h)).2.1
                  have q2 := fun X => (cells6 ((Upd.alloc Non (w6.alloc (.cells #[.int .i64 xg, .int .i64 xr, .int .i64 xs, .int .i64 xe, .int .i64 xl, .int .i64 xm] 23)) X).heap hbq fun h => h)).2.2.1
                  have q3 := fun X => (cells6 ((Upd.alloc Non (w6.alloc (.cells #[.int .i64 xg, .int .i64 xr, .int .i64 xs, .int .i64 xe, .int .i64 xl, .int .i64 xm] 23)) X).heap hbq fun h => h)).2.2.2.1
                  have q4 := fun X => (cells6 ((Upd.alloc Non (w6.alloc (.cells #[.int .i64 xg, .int .i64 xr, .int .i64 xs, .int .i64 xe, .int .i64 xl, .int .i64 xm] 23)) X).heap hbq fun h => h)).2.2.2.2.1
                  have q5 := fun X => (cells6 ((Upd.alloc Non (w6.alloc (.cells #[.int .i64 xg, .int .i64 xr, .int .i64 xs, .int .i64 xe, .int .i64 xl, .int .i64 xm] 23)) X).heap hbq fun h => h)).2.2.2.2.2
                  have r0 := fun X => (cells6 ((Upd.alloc Non (w6.alloc (.cells #[.int .i64 xg, .int .i64 xr, .int .i64 xs, .int .i64 xe, .int .i64 xl, .int .i64 xm] 23)) X).heap hbX fun h => h)).1
                  have r1 := fun X => (cells6 ((Upd.alloc Non (w6.alloc (.cells #[.int .i64 xg, .int .i64 xr, .int .i64 xs, .int .i64 xe, .int .i64 xl, .int .i64 xm] 23)) X).heap hbX fun h => h)).2.1
                  have r2 := fun X => (cells6 ((Upd.alloc Non (w6.alloc (.cells #[.int .i64 xg, .int .i64 xr, .int .i64 xs, .int .i64 xe, .int .i64 xl, .int .i64 xm] 23)) X).heap hbX fun h => h)).2.2.1
                  have r3 := fun X => (cells6 ((Upd.alloc Non (w6.alloc (.cells #[.int .i64 xg, .int .i64 xr, .int .i64 xs, .int .i64 xe, .int .i64 xl, .int .i64 xm] 23)) X).heap hbX fun h => h)).2.2.2.1
                  have r4 := fun X => (cells6 ((Upd.alloc Non (w6.alloc (.cells #[.int .i64 xg, .int .i64 xr, .int .i64 xs, .int .i64 xe, .int .i64 xl, .int .i64 xm] 23)) X).heap hbX fun h => h)).2.2.2.2.1
                  have r5 := fun X => (cells6 ((Upd.alloc Non (w6.alloc (.cells #[.int .i64 xg, .int .i64 xr, .int .i64 xs, .int .i64 xe, .int .i64 xl, .int .i64 xm] 23)) X).heap hbX fun h => h)).2.2.2.2.2
                  rcases hout with ⟨eq, hx0, hxw, hgm⟩ | ⟨eq, ⟨hx0, hxw, hgm⟩ | ⟨hx0, hxw⟩⟩
                  · unfold Sp.at_ at eq hxw hgm
                    simp only [Prod.mk.injEq, Sp.mk.injEq] at eq hxw
                    obtain ⟨⟨h1, h2, h3, h4, h5, h6⟩, h7⟩ := eq
                    obtain ⟨g1, g2, g3, g4, g5, g6⟩ := hxw
                    subst h1 h2 h3 h4 h5 h6 h7 g1 g2 g3 g4 g5 g6 hx0
                    have hL7 := hL6.non (Upd.alloc Non _ (.cells #[.int .i64 0, .int .i64 xr, .int .i64 xs, .int .i64 xe, .int .i64 xl, .int .i64 xm] 23))
                    have hb7 := (Upd.alloc Non _ (.cells #[.int .i64 0, .int .i64 xr, .int .i64 xs, .int .i64 xe, .int .i64 xl, .int .i64 xm] 23)).heap hb fun h => h
                    go_wp2_with ((with_reducible (show wpList _ _ _ (⟨_, Op.store _ (Operand.tmp 9) _, _, _, _, _⟩ :: _) _ _)); go_must (refine storeB_list rfl 23 _ _ rfl gb #[.int .i64 0, .int .i64 xr, .int .i64 xs, .int .i64 xe, .int .i64 xl, .int .i64 xm] _ _ rfl rfl hb7 rfl size_sp.out (by simp [Value.oneCell']) ?_))
                    intro w18 hb18 hu18
                    have hL18 := hL7.beside hu18 hF hz1
                    go_wp2_with fail
                    go_roundw
                    case rel => exact ⟨k + 1, d2, F5, true, ⟨0, xr, xs, xe, xl, xm⟩, by omega, by go_num, rfl, hL18, hA2, fd_found (by rw [hfr]) (by rw [hfr]) (by show 0 ≤ ((k + 1 : Nat) : Int); omega), by rw [if_pos rfl]; exact hb18, hF⟩
                    case measure => simp [intOf]; omega
                  · unfold Sp.at_ at hxw hgm
                    unfold Sp.none at eq
                    simp only [Prod.mk.injEq, Sp.mk.injEq] at eq hxw
                    obtain ⟨⟨h1, h2, h3, h4, h5, h6⟩, h7⟩ := eq
                    obtain ⟨g1, g2, g3, g4, g5, g6⟩ := hxw
                    subst h1 h2 h3 h4 h5 h6 h7 g1 g2 g3 g4 g5 g6 hx0
                    have hL7 := hL6.non (Upd.alloc Non _ (.cells #[.int .i64 0, .int .i64 xr, .int .i64 xs, .int .i64 xe, .int .i64 xl, .int .i64 xm] 23))
                    have hb7 := (Upd.alloc Non _ (.cells #[.int .i64 0, .int .i64 xr, .int .i64 xs, .int .i64 xe, .int .i64 xl, .int .i64 xm] 23)).heap hb fun h => h
                    go_wp2_with ((with_reducible (show wpList _ _ _ (⟨_, Op.store _ (Operand.tmp 9) _, _, _, _, _⟩ :: _) _ _)); go_must (refine storeB_list rfl 23 _ _ rfl gb #[.int .i64 0, .int .i64 xr, .int .i64 xs, .int .i64 xe, .int .i64 xl, .int .i64 xm] _ _ rfl rfl hb7 rfl size_sp.out (by simp [Value.oneCell']) ?_))
                    intro w18 hb18 hu18
                    have hL18 := hL7.beside hu18 hF hz1
                    go_wp2_with fail
                    go_roundw
                    case rel => exact ⟨k + 1, d2, F5, true, ⟨0, xr, xs, xe, xl, xm⟩, by omega, by go_num, rfl, hL18, hA2, fd_found (by rw [hfr]) (by rw [hfr]) (by show 0 ≤ ((k + 1 : Nat) : Int); omega), by rw [if_pos rfl]; exact hb18, hF⟩
                    case measure => simp [intOf]; omega
                  · unfold Fd at hst
                    rw [if_neg (by decide)] at hst
                    rw [hst] at hx0
                    unfold Sp.none at eq
                    simp only [Prod.mk.injEq, Sp.mk.injEq] at eq
                    obtain ⟨⟨h1, h2, h3, h4, h5, h6⟩, h7⟩ := eq
                    subst h1 h2 h3 h4 h5 h6 h7 hx0
                    have hL7 := hL6.non (Upd.alloc Non _ (.cells #[.int .i64 0, .int .i64 sr, .int .i64 ss, .int .i64 se, .int .i64 sl, .int .i64 sm] 23))
                    have hb7 := (Upd.alloc Non _ (.cells #[.int .i64 0, .int .i64 sr, .int .i64 ss, .int .i64 se, .int .i64 sl, .int .i64 sm] 23)).heap hb fun h => h
                    go_wp2_with fail
                    go_roundw
                    case rel => exact ⟨k + 1, d2, F5, false, Sp.none, by omega, by go_num, rfl, hL7, hA2, fd_none (by rw [hfr]), by rw [if_neg (by decide)]; exact hb7, hF⟩
                    case measure => simp [intOf]; omega
            · have hkkI : ¬ (k : Int) < (ks.length : Int) := by omega
              have hI4 : Ints (w4.alloc (.cells #[.int .i64 qg, .int .i64 qr, .int .i64 qs, .int .i64 qe, .int .i64 ql, .int .i64 qm] 23)) (.slice none 0 0) [] := Has.nil _ _
              have hV : 0 < ([] : List Int).length → ∀ j, At (.slice none 0 0) j → ¬ F4 j := fun h => absurd h (by decide)
              go_wp2_with fail
              refine (lvCrash hL4 (by omega) _ [] hI4 hV).mono ?_
              rintro en w5 ⟨rfl, F5, hL5, hK5⟩
              have hkb := keep_blk hK5 hb hF
              clear hb hF
              obtain ⟨hb, hF⟩ := hkb
              have hkb := keep_blk hK5 hbq hFq
              clear hbq hFq
              obtain ⟨hbq, hFq⟩ := hkb
              replace hstep := hstep.out []
              clear hL4 hK5
              generalize D1.crash [] = d2 at *
              have hfi := Lib.hid (yFind hL5.at_ (by rw [hstep.1.p]; decide))
              obtain ⟨⟨⟨xg, xr, xs, xe, xl, xm⟩, xat, xc⟩, hfr⟩ : ∃ r, findR d2 = r := ⟨_, rfl⟩
              rw [hfr] at hfi hstep
              unfold spV at hfi
              simp only at hfi hstep
              go_wp2_with fail
              refine hfi.out.mono ?_
              rintro en w6 ⟨rfl, hu⟩
              have hL6 := hL5.non (hu.then_alloc (.cells #[.int .i64 xg, .int .i64 xr, .int .i64 xs, .int .i64 xe, .int .i64 xl, .int .i64 xm] 23))
              have hbX := heap_alloc_new w6 (.cells #[.int .i64 xg, .int .i64 xr, .int .i64 xs, .int .i64 xe, .int .i64 xl, .int .i64 xm] 23)
              replace hb := (Upd.alloc Non w6 (.cells #[.int .i64 xg, .int .i64 xr, .int .i64 xs, .int .i64 xe, .int .i64 xl, .int .i64 xm] 23)).heap (hu.heap hb fun h => h) fun h => h
              replace hbq := (Upd.alloc Non w6 (.cells #[.int .i64 xg, .int .i64 xr, .int .i64 xs, .int .i64 xe, .int .i64 xl, .int .i64 xm] 23)).heap (hu.heap hbq fun h => h) fun h => h
              clear hu hL5 hfi
              obtain ⟨y0, y1, y2, y3, y4, y5⟩ := hyc.out _ hL6.upd
              obtain ⟨wg, wr', ws, we, wl, wm⟩ := was
              obtain ⟨hA2, hout⟩ := hstep
              cases had with
              | true =>
                rw [if_pos rfl] at hb hout
                unfold spC at hb
                simp only at hb hout
                have p0 := fun X => (cells6 ((Upd.alloc Non (w6.alloc (.cells #[.int .i64 xg, .int .i64 xr, .int .i64 xs, .int .i64 xe, .int .i64 xl, .int .i64 xm] 23)) X).heap hb fun h => h)).1
                have p1 := fun X => (cells6 ((Upd.alloc Non (w6.alloc (.cells #[.int .i64 xg, .int .i64 xr, .int .i64 xs, .int .i64 xe, .int .i64 xl, .int .i64 xm] 23)) X).heap hb fun h => h)).2.1
                have p2 := fun X => (cells6 ((Upd.alloc Non (w6.alloc (.cells #[.int .i64 xg, .int .i64 xr, .int .i64 xs, .int .i64 xe, .int .i64 xl, .int .i64 xm] 23)) X).heap hb fun h => h)).2.2.1
                have p3 := fun X => (cells6 ((Upd.alloc Non (w6.alloc (.cells #[.int .i64 xg, .int .i64 xr, .int .i64 xs, .int .i64 xe, .int .i64 xl, .int .i64 xm] 23)) X).heap hb fun h => h)).2.2.2.1
                have p4 := fun X => (cells6 ((Upd.alloc Non (w6.alloc (.cells #[.int .i64 xg, .int .i64 xr, .int .i64 xs, .int .i64 xe, .int .i64 xl, .int .i64 xm] 23)) X).heap hb fun h => h)).2.2.2.2.1
                have p5 := fun X => (cells6 ((Upd.alloc Non (w6.alloc (.cells #[.int .i64 xg, .int .i64 xr, .int .i64 xs, .int .i64 xe, .int .i64 xl, .int .i64 xm] 23)) X).heap hb fun h => h)).2.2.2.2.2
                have q0 := fun X => (cells6 ((Upd.alloc Non (w6.alloc (.cells #[.int .i64 xg, .int .i64 xr, .int .i64 xs, .int .i64 xe, .int .i64 xl, .int .i64 xm] 23)) X).heap hbq fun h => h)).1
                have q1 := fun X => (cells6 ((Upd.alloc Non (w6.alloc (.cells #[.int .i64 xg, .int .i64 xr, .int .i64 xs, .int .i64 xe, .int .i64 xl, .int .i64 xm] 23)) X).heap hbq fun h => h)).2.1
                have q2 := fun X => (cells6 ((Upd.alloc Non (w6.alloc (.cells #[.int .i64 xg, .int .i64 xr, .int .i64 xs, .int .i64 xe, .int .i64 xl, .int .i64 xm] 23)) X).heap hbq fun h => h)).2.2.1
                have q3 := fun X => (cells6 ((Upd.alloc Non (w6.alloc (.cells #[.int .i64 xg, .int .i64 xr, .int .i64 xs, .int .i64 xe, .int .i64 xl, .int .i64 xm] 23)) X).heap hbq fun h => h)).2.2.2.1
                have q4 := fun X => (cells6 ((Upd.alloc Non (w6.alloc (.cells #[.int .i64 xg, .int .i64 xr, .int .i64 xs, .int .i64 xe, .int .i64 xl, .int .i64 xm] 23)) X).heap hbq fun h => h)).2.2.2.2.1
                have q5 := fun X => (cells6 ((Upd.alloc Non (w6.alloc (.cells #[.int .i64 xg, .int .i64 xr, .int .i64 xs, .int .i64 xe, .int .i64 xl, .int .i64 xm] 23)) X).heap hbq fun h => h)).2.2.2.2.2
                have r0 := fun X => (cells6 ((Upd.alloc Non (w6.alloc (.cells #[.int .i64 xg, .int .i64 xr, .int .i64 xs, .int .i64 xe, .int .i64 xl, .int .i64 xm] 23)) X).heap hbX fun h => h)).1
                have r1 := fun X => (cells6 ((Upd.alloc Non (w6.alloc (.cells #[.int .i64 xg, .int .i64 xr, .int .i64 xs, .int .i64 xe, .int .i64 xl, .int .i64 xm] 23)) X).heap hbX fun h => h)).2.1
                have r2 := fun X => (cells6 ((Upd.alloc Non (w6.alloc (.cells #[.int .i64 xg, .int .i64 xr, .int .i64 xs, .int .i64 xe, .int .i64 xl, .int .i64 xm] 23)) X).heap hbX fun h => h)).2.2.1
                have r3 := fun X => (cells6 ((Upd.alloc Non (w6.alloc (.cells #[.int .i64 xg, .int .i64 xr, .int .i64 xs, .int .i64 xe, .int .i64 xl, .int .i64 xm] 23)) X).heap hbX fun h => h)).2.2.2.1
                have r4 := fun X => (cells6 ((Upd.alloc Non (w6.alloc (.cells #[.int .i64 xg, .int .i64 xr, .int .i64 xs, .int .i64 xe, .int .i64 xl, .int .i64 xm] 23)) X).heap hbX fun h => h)).2.2.2.2.1
                have r5 := fun X => (cells6 ((Upd.alloc Non (w6.alloc (.cells #[.int .i64 xg, .int .i64 xr, .int .i64 xs, .int .i64 xe, .int .i64 xl, .int .i64 xm] 23)) X).heap hbX fun h => h)).2.2.2.2.2
                have hwb : 0 ≤ wg ∧ wg ≤ (k : Int) := by
                  unfold Fd at hst
                  rw [if_pos rfl] at hst
                  have h1 := find_ok hst.1
                  rw [hst.2.1] at h1
                  exact ⟨h1.1.1, hst.2.2⟩
                have hww : IntKind.i64.wrap (wg + 1) = wg + 1 := IntWalk.i64_in _ ⟨by omega, by omega⟩
                rcases hout with ⟨eq, hx0, hxw, hgm⟩ | ⟨eq, ⟨hx0, hxw, hgm⟩ | ⟨hx0, hxw⟩⟩
                · unfold Sp.at_ at eq hxw hgm
                  simp only [Prod.mk.injEq, Sp.mk.injEq] at eq hxw
                  obtain ⟨⟨h1, h2, h3, h4, h5, h6⟩, h7⟩ := eq
                  obtain ⟨g1, g2, g3, g4, g5, g6⟩ := hxw
                  subst h1 h2 h3 h4 h5 h6 h7 g1 g2 g3 g4 g5 g6 hx0
                  have hL7 := hL6.non (Upd.alloc Non _ (.cells #[.int .i64 (wg + 1), .int .i64 xr, .int .i64 xs, .int .i64 xe, .int .i64 xl, .int .i64 xm] 23))
                  have hb7 := (Upd.alloc Non _ (.cells #[.int .i64 (wg + 1), .int .i64 xr, .int .i64 xs, .int .i64 xe, .int .i64 xl, .int .i64 xm] 23)).heap hb fun h => h
                  go_wp2_with ((with_reducible (show wpList _ _ _ (⟨_, Op.store _ (Operand.tmp 9) _, _, _, _, _⟩ :: _) _ _)); go_must (refine storeB_list rfl 23 _ _ rfl gb #[.int .i64 (wg + 1), .int .i64 xr, .int .i64 xs, .int .i64 xe, .int .i64 xl, .int .i64 xm] _ _ rfl rfl hb7 rfl size_sp.out (by simp [Value.oneCell']) ?_))
                  intro w18 hb18 hu18
                  have hL18 := hL7.beside hu18 hF hz1
                  go_wp2_with fail
                  go_roundw
                  case rel => exact ⟨k + 1, d2, F5, true, ⟨(wg + 1), xr, xs, xe, xl, xm⟩, by omega, by go_num, rfl, hL18, hA2, fd_found (by rw [hfr]) (by rw [hfr]) (by show (wg + 1) ≤ ((k + 1 : Nat) : Int); omega), by rw [if_pos rfl]; exact hb18, hF⟩
                  case measure => simp [intOf]; omega
                · unfold Sp.at_ at hxw hgm
                  unfold Sp.none at eq
                  simp only [Prod.mk.injEq, Sp.mk.injEq] at eq hxw
                  obtain ⟨⟨h1, h2, h3, h4, h5, h6⟩, h7⟩ := eq
                  obtain ⟨g1, g2, g3, g4, g5, g6⟩ := hxw
                  subst h1 h2 h3 h4 h5 h6 h7 g1 g2 g3 g4 g5 g6 hx0
                  have hL7 := hL6.non (Upd.alloc Non _ (.cells #[.int .i64 (wg + 1), .int .i64 xr, .int .i64 xs, .int .i64 xe, .int .i64 xl, .int .i64 xm] 23))
                  have hb7 := (Upd.alloc Non _ (.cells #[.int .i64 (wg + 1), .int .i64 xr, .int .i64 xs, .int .i64 xe, .int .i64 xl, .int .i64 xm] 23)).heap hb fun h => h
                  go_wp2_with ((with_reducible (show wpList _ _ _ (⟨_, Op.store _ (Operand.tmp 9) _, _, _, _, _⟩ :: _) _ _)); go_must (refine storeB_list rfl 23 _ _ rfl gb #[.int .i64 (wg + 1), .int .i64 xr, .int .i64 xs, .int .i64 xe, .int .i64 xl, .int .i64 xm] _ _ rfl rfl hb7 rfl size_sp.out (by simp [Value.oneCell']) ?_))
                  intro w18 hb18 hu18
                  have hL18 := hL7.beside hu18 hF hz1
                  go_wp2_with fail
                  go_roundw
                  case rel => exact ⟨k + 1, d2, F5, true, ⟨(wg + 1), xr, xs, xe, xl, xm⟩, by omega, by go_num, rfl, hL18, hA2, fd_found (by rw [hfr]) (by rw [hfr]) (by show (wg + 1) ≤ ((k + 1 : Nat) : Int); omega), by rw [if_pos rfl]; exact hb18, hF⟩
                  case measure => simp [intOf]; omega
                · unfold Fd at hst
                  rw [if_pos rfl] at hst
                  rw [hst.1] at hx0
                  rw [hst.2.1] at hxw
                  unfold Sp.none at eq
                  simp only [Prod.mk.injEq, Sp.mk.injEq] at eq hxw
                  obtain ⟨⟨h1, h2, h3, h4, h5, h6⟩, h7⟩ := eq
                  obtain ⟨g1, g2, g3, g4, g5, g6⟩ := hxw
                  subst h1 h2 h3 h4 h5 h6 h7 g1 g2 g3 g4 g5 g6 hx0
                  have hL7 := hL6.non (Upd.alloc Non _ (.cells #[.int .i64 (xg + 1), .int .i64 sr, .int .i64 ss, .int .i64 se, .int .i64 sl, .int .i64 sm] 23))
                  have hb7 := (Upd.alloc Non _ (.cells #[.int .i64 (xg + 1), .int .i64 sr, .int .i64 ss, .int .i64 se, .int .i64 sl, .int .i64 sm] 23)).heap hb fun h => h
                  go_wp2_with ((with_reducible (show wpList _ _ _ (⟨_, Op.store _ (Operand.tmp 9) _, _, _, _, _⟩ :: _) _ _)); go_must (refine storeB_list rfl 23 _ _ rfl gb #[.int .i64 xg, .int .i64 xr, .int .i64 xs, .int .i64 xe, .int .i64 xl, .int .i64 xm] _ _ rfl rfl hb7 rfl size_sp.out (by simp [Value.oneCell']) ?_))
                  intro w18 hb18 hu18
                  have hL18 := hL7.beside hu18 hF hz1
                  go_wp2_with fail
                  go_roundw
                  case rel => exact ⟨k + 1, d2, F5, true, ⟨xg, xr, xs, xe, xl, xm⟩, by omega, by go_num, rfl, hL18, hA2, fd_found (by rw [hfr]) (by rw [hfr]) (by show xg ≤ ((k + 1 : Nat) : Int); omega), by rw [if_pos rfl]; exact hb18, hF⟩
                  case measure => simp [intOf]; omega
              | false =>
                rw [if_neg (by decide)] at hb hout
                unfold spC Sp.none at hb
                simp only at hb hout
                have p0 := fun X => (cells6 ((Upd.alloc Non (w6.alloc (.cells #[.int .i64 xg, .int .i64 xr, .int .i64 xs, .int .i64 xe, .int .i64 xl, .int .i64 xm] 23)) X).heap hb fun h => h)).1
                have p1 := fun X => (cells6 ((Upd.alloc Non (w6.alloc (.cells #[.int .i64 xg, .int .i64 xr, .int .i64 xs, .int .i64 xe, .int .i64 xl, .int .i64 xm] 23)) X).heap hb fun h => h)).2.1
                have p2 := fun X => (cells6 ((Upd.alloc Non (w6.alloc (.cells #[.int .i64 xg, .int .i64 xr, .int .i64 xs, .int .i64 xe, .int .i64 xl, .int .i64 xm] 23)) X).heap hb fun h => h)).2.2.1
                have p3 := fun X => (cells6 ((Upd.alloc Non (w6.alloc (.cells #[.int .i64 xg, .int .i64 xr, .int .i64 xs, .int .i64 xe, .int .i64 xl, .int .i64 xm] 23)) X).heap hb fun h => h)).2.2.2.1
                have p4 := fun X => (cells6 ((Upd.alloc Non (w6.alloc (.cells #[.int .i64 xg, .int .i64 xr, .int .i64 xs, .int .i64 xe, .int .i64 xl, .int .i64 xm] 23)) X).heap hb fun h => h)).2.2.2.2.1
                have p5 := fun X => (cells6 ((Upd.alloc Non (w6.alloc (.cells #[.int .i64 xg, .int .i64 xr, .int .i64 xs, .int .i64 xe, .int .i64 xl, .int .i64 xm] 23)) X).heap hb fun h => h)).2.2.2.2.2
                have q0 := fun X => (cells6 ((Upd.alloc Non (w6.alloc (.cells #[.int .i64 xg, .int .i64 xr, .int .i64 xs, .int .i64 xe, .int .i64 xl, .int .i64 xm] 23)) X).heap hbq fun h => h)).1
                have q1 := fun X => (cells6 ((Upd.alloc Non (w6.alloc (.cells #[.int .i64 xg, .int .i64 xr, .int .i64 xs, .int .i64 xe, .int .i64 xl, .int .i64 xm] 23)) X).heap hbq fun h => h)).2.1
                have q2 := fun X => (cells6 ((Upd.alloc Non (w6.alloc (.cells #[.int .i64 xg, .int .i64 xr, .int .i64 xs, .int .i64 xe, .int .i64 xl, .int .i64 xm] 23)) X).heap hbq fun h => h)).2.2.1
                have q3 := fun X => (cells6 ((Upd.alloc Non (w6.alloc (.cells #[.int .i64 xg, .int .i64 xr, .int .i64 xs, .int .i64 xe, .int .i64 xl, .int .i64 xm] 23)) X).heap hbq fun h => h)).2.2.2.1
                have q4 := fun X => (cells6 ((Upd.alloc Non (w6.alloc (.cells #[.int .i64 xg, .int .i64 xr, .int .i64 xs, .int .i64 xe, .int .i64 xl, .int .i64 xm] 23)) X).heap hbq fun h => h)).2.2.2.2.1
                have q5 := fun X => (cells6 ((Upd.alloc Non (w6.alloc (.cells #[.int .i64 xg, .int .i64 xr, .int .i64 xs, .int .i64 xe, .int .i64 xl, .int .i64 xm] 23)) X).heap hbq fun h => h)).2.2.2.2.2
                have r0 := fun X => (cells6 ((Upd.alloc Non (w6.alloc (.cells #[.int .i64 xg, .int .i64 xr, .int .i64 xs, .int .i64 xe, .int .i64 xl, .int .i64 xm] 23)) X).heap hbX fun h => h)).1
                have r1 := fun X => (cells6 ((Upd.alloc Non (w6.alloc (.cells #[.int .i64 xg, .int .i64 xr, .int .i64 xs, .int .i64 xe, .int .i64 xl, .int .i64 xm] 23)) X).heap hbX fun h => h)).2.1
                have r2 := fun X => (cells6 ((Upd.alloc Non (w6.alloc (.cells #[.int .i64 xg, .int .i64 xr, .int .i64 xs, .int .i64 xe, .int .i64 xl, .int .i64 xm] 23)) X).heap hbX fun h => h)).2.2.1
                have r3 := fun X => (cells6 ((Upd.alloc Non (w6.alloc (.cells #[.int .i64 xg, .int .i64 xr, .int .i64 xs, .int .i64 xe, .int .i64 xl, .int .i64 xm] 23)) X).heap hbX fun h => h)).2.2.2.1
                have r4 := fun X => (cells6 ((Upd.alloc Non (w6.alloc (.cells #[.int .i64 xg, .int .i64 xr, .int .i64 xs, .int .i64 xe, .int .i64 xl, .int .i64 xm] 23)) X).heap hbX fun h => h)).2.2.2.2.1
                have r5 := fun X => (cells6 ((Upd.alloc Non (w6.alloc (.cells #[.int .i64 xg, .int .i64 xr, .int .i64 xs, .int .i64 xe, .int .i64 xl, .int .i64 xm] 23)) X).heap hbX fun h => h)).2.2.2.2.2
                rcases hout with ⟨eq, hx0, hxw, hgm⟩ | ⟨eq, ⟨hx0, hxw, hgm⟩ | ⟨hx0, hxw⟩⟩
                · unfold Sp.at_ at eq hxw hgm
                  simp only [Prod.mk.injEq, Sp.mk.injEq] at eq hxw
                  obtain ⟨⟨h1, h2, h3, h4, h5, h6⟩, h7⟩ := eq
                  obtain ⟨g1, g2, g3, g4, g5, g6⟩ := hxw
                  subst h1 h2 h3 h4 h5 h6 h7 g1 g2 g3 g4 g5 g6 hx0
                  have hL7 := hL6.non (Upd.alloc Non _ (.cells #[.int .i64 0, .int .i64 xr, .int .i64 xs, .int .i64 xe, .int .i64 xl, .int .i64 xm] 23))
                  have hb7 := (Upd.alloc Non _ (.cells #[.int .i64 0, .int .i64 xr, .int .i64 xs, .int .i64 xe, .int .i64 xl, .int .i64 xm] 23)).heap hb fun h => h
                  go_wp2_with ((with_reducible (show wpList _ _ _ (⟨_, Op.store _ (Operand.tmp 9) _, _, _, _, _⟩ :: _) _ _)); go_must (refine storeB_list rfl 23 _ _ rfl gb #[.int .i64 0, .int .i64 xr, .int .i64 xs, .int .i64 xe, .int .i64 xl, .int .i64 xm] _ _ rfl rfl hb7 rfl size_sp.out (by simp [Value.oneCell']) ?_))
                  intro w18 hb18 hu18
                  have hL18 := hL7.beside hu18 hF hz1
                  go_wp2_with fail
                  go_roundw
                  case rel => exact ⟨k + 1, d2, F5, true, ⟨0, xr, xs, xe, xl, xm⟩, by omega, by go_num, rfl, hL18, hA2, fd_found (by rw [hfr]) (by rw [hfr]) (by show 0 ≤ ((k + 1 : Nat) : Int); omega), by rw [if_pos rfl]; exact hb18, hF⟩
                  case measure => simp [intOf]; omega
                · unfold Sp.at_ at hxw hgm
                  unfold Sp.none at eq
                  simp only [Prod.mk.injEq, Sp.mk.injEq] at eq hxw
                  obtain ⟨⟨h1, h2, h3, h4, h5, h6⟩, h7⟩ := eq
                  obtain ⟨g1, g2, g3, g4, g5, g6⟩ := hxw
                  subst h1 h2 h3 h4 h5 h6 h7 g1 g2 g3 g4 g5 g6 hx0
                  have hL7 := hL6.non (Upd.alloc Non _ (.cells #[.int .i64 0, .int .i64 xr, .int .i64 xs, .int .i64 xe, .int .i64 xl, .int .i64 xm] 23))
                  have hb7 := (Upd.alloc Non _ (.cells #[.int .i64 0, .int .i64 xr, .int .i64 xs, .int .i64 xe, .int .i64 xl, .int .i64 xm] 23)).heap hb fun h => h
                  go_wp2_with ((with_reducible (show wpList _ _ _ (⟨_, Op.store _ (Operand.tmp 9) _, _, _, _, _⟩ :: _) _ _)); go_must (refine storeB_list rfl 23 _ _ rfl gb #[.int .i64 0, .int .i64 xr, .int .i64 xs, .int .i64 xe, .int .i64 xl, .int .i64 xm] _ _ rfl rfl hb7 rfl size_sp.out (by simp [Value.oneCell']) ?_))
                  intro w18 hb18 hu18
                  have hL18 := hL7.beside hu18 hF hz1
                  go_wp2_with fail
                  go_roundw
                  case rel => exact ⟨k + 1, d2, F5, true, ⟨0, xr, xs, xe, xl, xm⟩, by omega, by go_num, rfl, hL18, hA2, fd_found (by rw [hfr]) (by rw [hfr]) (by show 0 ≤ ((k + 1 : Nat) : Int); omega), by rw [if_pos rfl]; exact hb18, hF⟩
                  case measure => simp [intOf]; omega
                · unfold Fd at hst
                  rw [if_neg (by decide)] at hst
                  rw [hst] at hx0
                  unfold Sp.none at eq
                  simp only [Prod.mk.injEq, Sp.mk.injEq] at eq
                  obtain ⟨⟨h1, h2, h3, h4, h5, h6⟩, h7⟩ := eq
                  subst h1 h2 h3 h4 h5 h6 h7 hx0
                  have hL7 := hL6.non (Upd.alloc Non _ (.cells #[.int .i64 0, .int .i64 sr, .int .i64 ss, .int .i64 se, .int .i64 sl, .int .i64 sm] 23))
                  have hb7 := (Upd.alloc Non _ (.cells #[.int .i64 0, .int .i64 sr, .int .i64 ss, .int .i64 se, .int .i64 sl, .int .i64 sm] 23)).heap hb fun h => h
                  go_wp2_with fail
                  go_roundw
                  case rel => exact ⟨k + 1, d2, F5, false, Sp.none, by omega, by go_num, rfl, hL7, hA2, fd_none (by rw [hfr]), by rw [if_neg (by decide)]; exact hb7, hF⟩
                  case measure => simp [intOf]; omega
          · have hkI : ¬ (k : Int) < (fz.length : Int) := by omega
            obtain ⟨f3, hA3, hf3⟩ : ∃ f3, Al d f3 ∧ -1 ≤ f3 := ⟨-1, hA, by decide⟩
            clear hA
            obtain ⟨y0, y1, y2, y3, y4, y5⟩ := hyc.out _ hL.upd
            have hsv := Lib.hid (ySave hL (by rw [hA3.p]; decide) ⟨sg, sr, ss, se, sl, sm⟩)
            have hpl := save_P d ⟨sg, sr, ss, se, sl, sm⟩
            rw [hA3.p] at hpl
            replace hpl : (saveR d ⟨sg, sr, ss, se, sl, sm⟩).1.P.length ≤ 1 := hpl
            have hstep := Lib.hid (fun lst => either_step hA3 hf3 hst (by omega) (by omega) ⟨sg, sr, ss, se, sl, sm⟩ hok lst _ rfl)
            generalize saveR d ⟨sg, sr, ss, se, sl, sm⟩ = rr at *
            obtain ⟨D1, ⟨qg, qr, qs, qe, ql, qm⟩, e1⟩ := rr
            unfold SaveRet spV at hsv
            simp only at hsv hpl hstep
            go_wp2_with fail
            refine hsv.out.mono ?_
            rintro en w4 ⟨rfl, F4, hL4, hK4⟩
            have hkb := keep_blk hK4 hb hF
            clear hb hF
            obtain ⟨hb, hF⟩ := hkb
            replace hb := (Upd.alloc Non w4 (.cells #[.int .i64 qg, .int .i64 qr, .int .i64 qs, .int .i64 qe, .int .i64 ql, .int .i64 qm] 23)).heap hb fun h => h
            have hbq := heap_alloc_new w4 (.cells #[.int .i64 qg, .int .i64 qr, .int .i64 qs, .int .i64 qe, .int .i64 ql, .int .i64 qm] 23)
            have hFq : ¬ F4 w4.heap.size := fun e => by have := hL4.at_.lt _ e; omega
            replace hL4 := hL4.non (Upd.alloc Non w4 (.cells #[.int .i64 qg, .int .i64 qr, .int .i64 qs, .int .i64 qe, .int .i64 ql, .int .i64 qm] 23))
            clear hsv hL hK4 y0 y1 y2 y3 y4 y5
            by_cases hkk : k < ks.length
            · have hkkI : (k : Int) < (ks.length : Int) := by omega
              obtain ⟨g2, o2, ea, hcell, hI, hold⟩ := hkc.out k hkk
              obtain ⟨ka, kc, hke⟩ : ∃ a c, ks[k].1 = .slice a ks[k].2.length c := by
                obtain ⟨_, a, c, e, _⟩ := hI
                exact ⟨a, c, e⟩
              rw [hke] at hcell hI hold
              subst ea
              clear hke
              generalize ks[k].2 = lst at *
              have z0 := hL4.upd.cell hcell fun h => h
              clear hcell
              by_cases h100 : 100 < lst.length
              · have h100I : decide ((100 : Int) < (lst.length : Int)) = true := decide_eq_true (by omega)
                have hU := hL4.upd
                go_wp2_with fail
                refine (hlv.out _).mono ?_
                rintro en w9 ⟨rfl, hu⟩
                go_wp2_with fail
                go_ret
                exact ⟨rfl, hU.trans hu fun _ _ h => h⟩
              · have h100I : decide ((100 : Int) < (lst.length : Int)) = false := decide_eq_false (by omega)
                have hI4 := hI.upd hL4.upd fun _ _ h => h
                have hV : 0 < lst.length → ∀ j, At (.slice ka lst.length kc) j → ¬ F4 j := fun h0 j hj hF => by
                  have h1 := hold j hj h0
                  have h2 := hL4.own j hF
                  omega
                clear hold hI
                go_wp2_with fail
                refine (lvCrash hL4 (by omega) _ lst hI4 hV).mono ?_
                rintro en w5 ⟨rfl, F5, hL5, hK5⟩
                have hkb := keep_blk hK5 hb hF
                clear hb hF
                obtain ⟨hb, hF⟩ := hkb
                have hkb := keep_blk hK5 hbq hFq
                clear hbq hFq
                obtain ⟨hbq, hFq⟩ := hkb
                replace hstep := hstep.out lst
                clear hL4 hK5
                generalize D1.crash lst = d2 at *
                have hfi := Lib.hid (yFind hL5.at_ (by rw [hstep.1.p]; decide))
                obtain ⟨⟨⟨xg, xr, xs, xe, xl, xm⟩, xat, xc⟩, hfr⟩ : ∃ r, findR d2 = r := ⟨_, rfl⟩
                rw [hfr] at hfi hstep
                unfold spV at hfi
                simp only at hfi hstep
                go_wp2_with fail
                refine hfi.out.mono ?_
                rintro en w6 ⟨rfl, hu⟩
                have hL6 := hL5.non (hu.then_alloc (.cells #[.int .i64 xg, .int .i64 xr, .int .i64 xs, .int .i64 xe, .int .i64 xl, .int .i64 xm] 23))
                have hbX := heap_alloc_new w6 (.cells #[.int .i64 xg, .int .i64 xr, .int .i64 xs, .int .i64 xe, .int .i64 xl, .int .i64 xm] 23)
                replace hb := (Upd.alloc Non w6 (.cells #[.int .i64 xg, .int .i64 xr, .int .i64 xs, .int .i64 xe, .int .i64 xl, .int .i64 xm] 23)).heap (hu.heap hb fun h => h) fun h => h
                replace hbq := (Upd.alloc Non w6 (.cells #[.int .i64 xg, .int .i64 xr, .int .i64 xs, .int .i64 xe, .int .i64 xl, .int .i64 xm] 23)).heap (hu.heap hbq fun h => h) fun h => h
                clear hu hL5 hfi
                obtain ⟨y0, y1, y2, y3, y4, y5⟩ := hyc.out _ hL6.upd
                obtain ⟨wg, wr', ws, we, wl, wm⟩ := was
                obtain ⟨hA2, hout⟩ := hstep
                cases had with
                | true =>
                  rw [if_pos rfl] at hb hout
                  unfold spC at hb
                  simp only at hb hout
                  have p0 := fun X => (cells6 ((Upd.alloc Non (w6.alloc (.cells #[.int .i64 xg, .int .i64 xr, .int .i64 xs, .int .i64 xe, .int .i64 xl, .int .i64 xm] 23)) X).heap hb fun h => h)).1
                  have p1 := fun X => (cells6 ((Upd.alloc Non (w6.alloc (.cells #[.int .i64 xg, .int .i64 xr, .int .i64 xs, .int .i64 xe, .int .i64 xl, .int .i64 xm] 23)) X).heap hb fun h => h)).2.1
                  have p2 := fun X => (cells6 ((Upd.alloc Non (w6.alloc (.cells #[.int .i64 xg, .int .i64 xr, .int .i64 xs, .int .i64 xe, .int .i64 xl, .int .i64 xm] 23)) X).heap hb fun h => h)).2.2.1
                  have p3 := fun X => (cells6 ((Upd.alloc Non (w6.alloc (.cells #[.int .i64 xg, .int .i64 xr, .int .i64 xs, .int .i64 xe, .int .i64 xl, .int .i64 xm] 23)) X).heap hb fun h => h)).2.2.2.1
                  have p4 := fun X => (cells6 ((Upd.alloc Non (w6.alloc (.cells #[.int .i64 xg, .int .i64 xr, .int .i64 xs, .int .i64 xe, .int .i64 xl, .int .i64 xm] 23)) X).heap hb fun h => h)).2.2.2.2.1
                  have p5 := fun X => (cells6 ((Upd.alloc Non (w6.alloc (.cells #[.int .i64 xg, .int .i64 xr, .int .i64 xs, .int .i64 xe, .int .i64 xl, .int .i64 xm] 23)) X).heap hb fun h => h)).2.2.2.2.2
                  have q0 := fun X => (cells6 ((Upd.alloc Non (w6.alloc (.cells #[.int .i64 xg, .int .i64 xr, .int .i64 xs, .int .i64 xe, .int .i64 xl, .int .i64 xm] 23)) X).heap hbq fun h => h)).1
                  have q1 := fun X => (cells6 ((Upd.alloc Non (w6.alloc (.cells #[.int .i64 xg, .int .i64 xr, .int .i64 xs, .int .i64 xe, .int .i64 xl, .int .i64 xm] 23)) X).heap hbq fun h => h)).2.1
                  have q2 := fun X => (cells6 ((Upd.alloc Non (w6.alloc (.cells #[.int .i64 xg, .int .i64 xr, .int .i64 xs, .int .i64 xe, .int .i64 xl, .int .i64 xm] 23)) X).heap hbq fun h => h)).2.2.1
                  have q3 := fun X => (cells6 ((Upd.alloc Non (w6.alloc (.cells #[.int .i64 xg, .int .i64 xr, .int .i64 xs, .int .i64 xe, .int .i64 xl, .int .i64 xm] 23)) X).heap hbq fun h => h)).2.2.2.1
                  have q4 := fun X => (cells6 ((Upd.alloc Non (w6.alloc (.cells #[.int .i64 xg, .int .i64 xr, .int .i64 xs, .int .i64 xe, .int .i64 xl, .int .i64 xm] 23)) X).heap hbq fun h => h)).2.2.2.2.1
                  have q5 := fun X => (cells6 ((Upd.alloc Non (w6.alloc (.cells #[.int .i64 xg, .int .i64 xr, .int .i64 xs, .int .i64 xe, .int .i64 xl, .int .i64 xm] 23)) X).heap hbq fun h => h)).2.2.2.2.2
                  have r0 := fun X => (cells6 ((Upd.alloc Non (w6.alloc (.cells #[.int .i64 xg, .int .i64 xr, .int .i64 xs, .int .i64 xe, .int .i64 xl, .int .i64 xm] 23)) X).heap hbX fun h => h)).1
                  have r1 := fun X => (cells6 ((Upd.alloc Non (w6.alloc (.cells #[.int .i64 xg, .int .i64 xr, .int .i64 xs, .int .i64 xe, .int .i64 xl, .int .i64 xm] 23)) X).heap hbX fun h => h)).2.1
                  have r2 := fun X => (cells6 ((Upd.alloc Non (w6.alloc (.cells #[.int .i64 xg, .int .i64 xr, .int .i64 xs, .int .i64 xe, .int .i64 xl, .int .i64 xm] 23)) X).heap hbX fun h => h)).2.2.1
                  have r3 := fun X => (cells6 ((Upd.alloc Non (w6.alloc (.cells #[.int .i64 xg, .int .i64 xr, .int .i64 xs, .int .i64 xe, .int .i64 xl, .int .i64 xm] 23)) X).heap hbX fun h => h)).2.2.2.1
                  have r4 := fun X => (cells6 ((Upd.alloc Non (w6.alloc (.cells #[.int .i64 xg, .int .i64 xr, .int .i64 xs, .int .i64 xe, .int .i64 xl, .int .i64 xm] 23)) X).heap hbX fun h => h)).2.2.2.2.1
                  have r5 := fun X => (cells6 ((Upd.alloc Non (w6.alloc (.cells #[.int .i64 xg, .int .i64 xr, .int .i64 xs, .int .i64 xe, .int .i64 xl, .int .i64 xm] 23)) X).heap hbX fun h => h)).2.2.2.2.2
                  have hwb : 0 ≤ wg ∧ wg ≤ (k : Int) := by
                    unfold Fd at hst
                    rw [if_pos rfl] at hst
                    have h1 := find_ok hst.1
                    rw [hst.2.1] at h1
                    exact ⟨h1.1.1, hst.2.2⟩
                  have hww : IntKind.i64.wrap (wg + 1) = wg + 1 := IntWalk.i64_in _ ⟨by omega, by omega⟩
                  rcases hout with ⟨eq, hx0, hxw, hgm⟩ | ⟨eq, ⟨hx0, hxw, hgm⟩ | ⟨hx0, hxw⟩⟩
                  · unfold Sp.at_ at eq hxw hgm
                    simp only [Prod.mk.injEq, Sp.mk.injEq] at eq hxw
                    obtain ⟨⟨h1, h2, h3, h4, h5, h6⟩, h7⟩ := eq
                    obtain ⟨g1, g2, g3, g4, g5, g6⟩ := hxw
                    subst h1 h2 h3 h4 h5 h6 h7 g1 g2 g3 g4 g5 g6 hx0
                    have hL7 := hL6.non (Upd.alloc Non _ (.cells #[.int .i64 (wg + 1), .int .i64 xr, .int .i64 xs, .int .i64 xe, .int .i64 xl, .int .i64 xm] 23))
                    have hb7 := (Upd.alloc Non _ (.cells #[.int .i64 (wg + 1), .int .i64 xr, .int .i64 xs, .int .i64 xe, .int .i64 xl, .int .i64 xm] 23)).heap hb fun h => h
                    go_wp2_with ((with_reducible (show wpList _ _ _ (⟨_, Op.store _ (Operand.tmp 9) _, _, _, _, _⟩ :: _) _ _)); go_must (refine storeB_list rfl 23 _ _ rfl gb #[.int .i64 (wg + 1), .int .i64 xr, .int .i64 xs, .int .i64 xe, .int .i64 xl, .int .i64 xm] _ _ rfl rfl hb7 rfl size_sp.out (by simp [Value.oneCell']) ?_))
                    intro w18 hb18 hu18
                    have hL18 := hL7.beside hu18 hF hz1
                    go_wp2_with fail
                    go_roundw
                    case rel => exact ⟨k + 1, d2, F5, true, ⟨(wg + 1), xr, xs, xe, xl, xm⟩, by omega, by go_num, rfl, hL18, hA2, fd_found (by rw [hfr]) (by rw [hfr]) (by show (wg + 1) ≤ ((k + 1 : Nat) : Int); omega), by rw [if_pos rfl]; exact hb18, hF⟩
                    case measure => simp [intOf]; omega
                  · unfold Sp.at_ at hxw hgm
                    unfold Sp.none at eq
                    simp only [Prod.mk.injEq, Sp.mk.injEq] at eq hxw
                    obtain ⟨⟨h1, h2, h3, h4, h5, h6⟩, h7⟩ := eq
                    obtain ⟨g1, g2, g3, g4, g5, g6⟩ := hxw
                    subst h1 h2 h3 h4 h5 h6 h7 g1 g2 g3 g4 g5 g6 hx0
                    have hL7 := hL6.non (Upd.alloc Non _ (.cells #[.int .i64 (wg + 1), .int .i64 xr, .int .i64 xs, .int .i64 xe, .int .i64 xl, .int .i64 xm] 23))
                    have hb7 := (Upd.alloc Non _ (.cells #[.int .i64 (wg + 1), .int .i64 xr, .int .i64 xs, .int .i64 xe, .int .i64 xl, .int .i64 xm] 23)).heap hb fun h => h
                    go_wp2_with ((with_reducible (show wpList _ _ _ (⟨_, Op.store _ (Operand.tmp 9) _, _, _, _, _⟩ :: _) _ _)); go_must (refine storeB_list rfl 23 _ _ rfl gb #[.int .i64 (wg + 1), .int .i64 xr, .int .i64 xs, .int .i64 xe, .int .i64 xl, .int .i64 xm] _ _ rfl rfl hb7 rfl size_sp.out (by simp [Value.oneCell']) ?_))
                    intro w18 hb18 hu18
                    have hL18 := hL7.beside hu18 hF hz1
                    go_wp2_with fail
                    go_roundw
                    case rel => exact ⟨k + 1, d2, F5, true, ⟨(wg + 1), xr, xs, xe, xl, xm⟩, by omega, by go_num, rfl, hL18, hA2, fd_found (by rw [hfr]) (by rw [hfr]) (by show (wg + 1) ≤ ((k + 1 : Nat) : Int); omega), by rw [if_pos rfl]; exact hb18, hF⟩
                    case measure => simp [intOf]; omega
                  · unfold Fd at hst
                    rw [if_pos rfl] at hst
                    rw [hst.1] at hx0
                    rw [hst.2.1] at hxw
                    unfold Sp.none at eq
                    simp only [Prod.mk.injEq, Sp.mk.injEq] at eq hxw
                    obtain ⟨⟨h1, h2, h3, h4, h5, h6⟩, h7⟩ := eq
                    obtain ⟨g1, g2, g3, g4, g5, g6⟩ := hxw
                    subst h1 h2 h3 h4 h5 h6 h7 g1 g2 g3 g4 g5 g6 hx0
                    have hL7 := hL6.non (Upd.alloc Non _ (.cells #[.int .i64 (xg + 1), .int .i64 sr, .int .i64 ss, .int .i64 se, .int .i64 sl, .int .i64 sm] 23))
                    have hb7 := (Upd.alloc Non _ (.cells #[.int .i64 (xg + 1), .int .i64 sr, .int .i64 ss, .int .i64 se, .int .i64 sl, .int .i64 sm] 23)).heap hb fun h => h
                    go_wp2_with ((with_reducible (show wpList _ _ _ (⟨_, Op.store _ (Operand.tmp 9) _, _, _, _, _⟩ :: _) _ _)); go_must (refine storeB_list rfl 23 _ _ rfl gb #[.int .i64 xg, .int .i64 xr, .int .i64 xs, .int .i64 xe, .int .i64 xl, .int .i64 xm] _ _ rfl rfl hb7 rfl size_sp.out (by simp [Value.oneCell']) ?_))
                    intro w18 hb18 hu18
                    have hL18 := hL7.beside hu18 hF hz1
                    go_wp2_with fail
                    go_roundw
                    case rel => exact ⟨k + 1, d2, F5, true, ⟨xg, xr, xs, xe, xl, xm⟩, by omega, by go_num, rfl, hL18, hA2, fd_found (by rw [hfr]) (by rw [hfr]) (by show xg ≤ ((k + 1 : Nat) : Int); omega), by rw [if_pos rfl]; exact hb18, hF⟩
                    case measure => simp [intOf]; omega
                | false =>
                  rw [if_neg (by decide)] at hb hout
                  unfold spC Sp.none at hb
                  simp only at hb hout
                  have p0 := fun X => (cells6 ((Upd.alloc Non (w6.alloc (.cells #[.int .i64 xg, .int .i64 xr, .int .i64 xs, .int .i64 xe, .int .i64 xl, .int .i64 xm] 23)) X).heap hb fun h => h)).1
                  have p1 := fun X => (cells6 ((Upd.alloc Non (w6.alloc (.cells #[.int .i64 xg, .int .i64 xr, .int .i64 xs, .int .i64 xe, .int .i64 xl, .int .i64 xm] 23)) X).heap hb fun h => h)).2.1
                  have p2 := fun X => (cells6 ((Upd.alloc Non (w6.alloc (.cells #[.int .i64 xg, .int .i64 xr, .int .i64 xs, .int .i64 xe, .int .i64 xl, .int .i64 xm] 23)) X).heap hb fun h => h)).2.2.1
                  have p3 := fun X => (cells6 ((Upd.alloc Non (w6.alloc (.cells #[.int .i64 xg, .int .i64 xr, .int .i64 xs, .int .i64 xe, .int .i64 xl, .int .i64 xm] 23)) X).heap hb fun h => h)).2.2.2.1
                  have p4 := fun X => (cells6 ((Upd.alloc Non (w6.alloc (.cells #[.int .i64 xg, .int .i64 xr, .int .i64 xs, .int .i64 xe, .int .i64 xl, .int .i64 xm] 23)) X).heap hb fun h => h)).2.2.2.2.1
                  have p5 := fun X => (cells6 ((Upd.alloc Non (w6.alloc (.cells #[.int .i64 xg, .int .i64 xr, .int .i64 xs, .int .i64 xe, .int .i64 xl, .int .i64 xm] 23)) X).heap hb fun h => h)).2.2.2.2.2
                  have q0 := fun X => (cells6 ((Upd.alloc Non (w6.alloc (.cells #[.int .i64 xg, .int .i64 xr, .int .i64 xs, .int .i64 xe, .int .i64 xl, .int .i64 xm] 23)) X).heap hbq fun h => h)).1
                  have q1 := fun X => (cells6 ((Upd.alloc Non (w6.alloc (.cells #[.int .i64 xg, .int .i64 xr, .int .i64 xs, .int .i64 xe, .int .i64 xl, .int .i64 xm] 23)) X).heap hbq fun h => h)).2.1
                  have q2 := fun X => (cells6 ((Upd.alloc Non (w6.alloc (.cells #[.int .i64 xg, .int .i64 xr, .int .i64 xs, .int .i64 xe, .int .i64 xl, .int .i64 xm] 23)) X).heap hbq fun h => h)).2.2.1
                  have q3 := fun X => (cells6 ((Upd.alloc Non (w6.alloc (.cells #[.int .i64 xg, .int .i64 xr, .int .i64 xs, .int .i64 xe, .int .i64 xl, .int .i64 xm] 23)) X).heap hbq fun h => h)).2.2.2.1
                  have q4 := fun X => (cells6 ((Upd.alloc Non (w6.alloc (.cells #[.int .i64 xg, .int .i64 xr, .int .i64 xs, .int .i64 xe, .int .i64 xl, .int .i64 xm] 23)) X).heap hbq fun h => h)).2.2.2.2.1
                  have q5 := fun X => (cells6 ((Upd.alloc Non (w6.alloc (.cells #[.int .i64 xg, .int .i64 xr, .int .i64 xs, .int .i64 xe, .int .i64 xl, .int .i64 xm] 23)) X).heap hbq fun h => h)).2.2.2.2.2
                  have r0 := fun X => (cells6 ((Upd.alloc Non (w6.alloc (.cells #[.int .i64 xg, .int .i64 xr, .int .i64 xs, .int .i64 xe, .int .i64 xl, .int .i64 xm] 23)) X).heap hbX fun h => h)).1
                  have r1 := fun X => (cells6 ((Upd.alloc Non (w6.alloc (.cells #[.int .i64 xg, .int .i64 xr, .int .i64 xs, .int .i64 xe, .int .i64 xl, .int .i64 xm] 23)) X).heap hbX fun h => h)).2.1
                  have r2 := fun X => (cells6 ((Upd.alloc Non (w6.alloc (.cells #[.int .i64 xg, .int .i64 xr, .int .i64 xs, .int .i64 xe, .int .i64 xl, .int .i64 xm] 23)) X).heap hbX fun h => h)).2.2.1
                  have r3 := fun X => (cells6 ((Upd.alloc Non (w6.alloc (.cells #[.int .i64 xg, .int .i64 xr, .int .i64 xs, .int .i64 xe, .int .i64 xl, .int .i64 xm] 23)) X).heap hbX fun h => h)).2.2.2.1
                  have r4 := fun X => (cells6 ((Upd.alloc Non (w6.alloc (.cells #[.int .i64 xg, .int .i64 xr, .int .i64 xs, .int .i64 xe, .int .i64 xl, .int .i64 xm] 23)) X).heap hbX fun h => h)).2.2.2.2.1
                  have r5 := fun X => (cells6 ((Upd.alloc Non (w6.alloc (.cells #[.int .i64 xg, .int .i64 xr, .int .i64 xs, .int .i64 xe, .int .i64 xl, .int .i64 xm] 23)) X).heap hbX fun h => h)).2.2.2.2.2
                  rcases hout with ⟨eq, hx0, hxw, hgm⟩ | ⟨eq, ⟨hx0, hxw, hgm⟩ | ⟨hx0, hxw⟩⟩
                  · unfold Sp.at_ at eq hxw hgm
                    simp only [Prod.mk.injEq, Sp.mk.injEq] at eq hxw
                    obtain ⟨⟨h1, h2, h3, h4, h5, h6⟩, h7⟩ := eq
                    obtain ⟨g1, g2, g3, g4, g5, g6⟩ := hxw
                    subst h1 h2 h3 h4 h5 h6 h7 g1 g2 g3 g4 g5 g6 hx0
                    have hL7 := hL6.non (Upd.alloc Non _ (.cells #[.int .i64 0, .int .i64 xr, .int .i64 xs, .int .i64 xe, .int .i64 xl, .int .i64 xm] 23))
                    have hb7 := (Upd.alloc Non _ (.cells #[.int .i64 0, .int .i64 xr, .int .i64 xs, .int .i64 xe, .int .i64 xl, .int .i64 xm] 23)).heap hb fun h => h
                    go_wp2_with ((with_reducible (show wpList _ _ _ (⟨_, Op.store _ (Operand.tmp 9) _, _, _, _, _⟩ :: _) _ _)); go_must (refine storeB_list rfl 23 _ _ rfl gb #[.int .i64 0, .int .i64 xr, .int .i64 xs, .int .i64 xe, .int .i64 xl, .int .i64 xm] _ _ rfl rfl hb7 rfl size_sp.out (by simp [Value.oneCell']) ?_))
                    intro w18 hb18 hu18
                    have hL18 := hL7.beside hu18 hF hz1
                    go_wp2_with fail
                    go_roundw
                    case rel => exact ⟨k + 1, d2, F5, true, ⟨0, xr, xs, xe, xl, xm⟩, by omega, by go_num, rfl, hL18, hA2, fd_found (by rw [hfr]) (by rw [hfr]) (by show 0 ≤ ((k + 1 : Nat) : Int); omega), by rw [if_pos rfl]; exact hb18, hF⟩
                    case measure => simp [intOf]; omega
                  · unfold Sp.at_ at hxw hgm
                    unfold Sp.none at eq
                    simp only [Prod.mk.injEq, Sp.mk.injEq] at eq hxw
                    obtain ⟨⟨h1, h2, h3, h4, h5, h6⟩, h7⟩ := eq
                    obtain ⟨g1, g2, g3, g4, g5, g6⟩ := hxw
                    subst h1 h2 h3 h4 h5 h6 h7 g1 g2 g3 g4 g5 g6 hx0
                    have hL7 := hL6.non (Upd.alloc Non _ (.cells #[.int .i64 0, .int .i64 xr, .int .i64 xs, .int .i64 xe, .int .i64 xl, .int .i64 xm] 23))
                    have hb7 := (Upd.alloc Non _ (.cells #[.int .i64 0, .int .i64 xr, .int .i64 xs, .int .i64 xe, .int .i64 xl, .int .i64 xm] 23)).heap hb fun h => h
                    go_wp2_with ((with_reducible (show wpList _ _ _ (⟨_, Op.store _ (Operand.tmp 9) _, _, _, _, _⟩ :: _) _ _)); go_must (refine storeB_list rfl 23 _ _ rfl gb #[.int .i64 0, .int .i64 xr, .int .i64 xs, .int .i64 xe, .int .i64 xl, .int .i64 xm] _ _ rfl rfl hb7 rfl size_sp.out (by simp [Value.oneCell']) ?_))
                    intro w18 hb18 hu18
                    have hL18 := hL7.beside hu18 hF hz1
                    go_wp2_with fail
                    go_roundw
                    case rel => exact ⟨k + 1, d2, F5, true, ⟨0, xr, xs, xe, xl, xm⟩, by omega, by go_num, rfl, hL18, hA2, fd_found (by rw [hfr]) (by rw [hfr]) (by show 0 ≤ ((k + 1 : Nat) : Int); omega), by rw [if_pos rfl]; exact hb18, hF⟩
                    case measure => simp [intOf]; omega
                  · unfold Fd at hst
                    rw [if_neg (by decide)] at hst
                    rw [hst] at hx0
                    unfold Sp.none at eq
                    simp only [Prod.mk.injEq, Sp.mk.injEq] at eq
                    obtain ⟨⟨h1, h2, h3, h4, h5, h6⟩, h7⟩ := eq
                    subst h1 h2 h3 h4 h5 h6 h7 hx0
                    have hL7 := hL6.non (Upd.alloc Non _ (.cells #[.int .i64 0, .int .i64 sr, .int .i64 ss, .int .i64 se, .int .i64 sl, .int .i64 sm] 23))
                    have hb7 := (Upd.alloc Non _ (.cells #[.int .i64 0, .int .i64 sr, .int .i64 ss, .int .i64 se, .int .i64 sl, .int .i64 sm] 23)).heap hb fun h => h
                    go_wp2_with fail
                    go_roundw
                    case rel => exact ⟨k + 1, d2, F5, false, Sp.none, by omega, by go_num, rfl, hL7, hA2, fd_none (by rw [hfr]), by rw [if_neg (by decide)]; exact hb7, hF⟩
                    case measure => simp [intOf]; omega
            · have hkkI : ¬ (k : Int) < (ks.length : Int) := by omega
              have hI4 : Ints (w4.alloc (.cells #[.int .i64 qg, .int .i64 qr, .int .i64 qs, .int .i64 qe, .int .i64 ql, .int .i64 qm] 23)) (.slice none 0 0) [] := Has.nil _ _
              have hV : 0 < ([] : List Int).length → ∀ j, At (.slice none 0 0) j → ¬ F4 j := fun h => absurd h (by decide)
              go_wp2_with fail
              refine (lvCrash hL4 (by omega) _ [] hI4 hV).mono ?_
              rintro en w5 ⟨rfl, F5, hL5, hK5⟩
              have hkb := keep_blk hK5 hb hF
              clear hb hF
              obtain ⟨hb, hF⟩ := hkb
              have hkb := keep_blk hK5 hbq hFq
              clear hbq hFq
              obtain ⟨hbq, hFq⟩ := hkb
              replace hstep := hstep.out []
              clear hL4 hK5
              generalize D1.crash [] = d2 at *
              have hfi := Lib.hid (yFind hL5.at_ (by rw [hstep.1.p]; decide))
              obtain ⟨⟨⟨xg, xr, xs, xe, xl, xm⟩, xat, xc⟩, hfr⟩ : ∃ r, findR d2 = r := ⟨_, rfl⟩
              rw [hfr] at hfi hstep
              unfold spV at hfi
              simp only at hfi hstep
              go_wp2_with fail
              refine hfi.out.mono ?_
              rintro en w6 ⟨rfl, hu⟩
              have hL6 := hL5.non (hu.then_alloc (.cells #[.int .i64 xg, .int .i64 xr, .int .i64 xs, .int .i64 xe, .int .i64 xl, .int .i64 xm] 23))
              have hbX := heap_alloc_new w6 (.cells #[.int .i64 xg, .int .i64 xr, .int .i64 xs, .int .i64 xe, .int .i64 xl, .int .i64 xm] 23)
              replace hb := (Upd.alloc Non w6 (.cells #[.int .i64 xg, .int .i64 xr, .int .i64 xs, .int .i64 xe, .int .i64 xl, .int .i64 xm] 23)).heap (hu.heap hb fun h => h) fun h => h
              replace hbq := (Upd.alloc Non w6 (.cells #[.int .i64 xg, .int .i64 xr, .int .i64 xs, .int .i64 xe, .int .i64 xl, .int .i64 xm] 23)).heap (hu.heap hbq fun h => h) fun h => h
              clear hu hL5 hfi
              obtain ⟨y0, y1, y2, y3, y4, y5⟩ := hyc.out _ hL6.upd
              obtain ⟨wg, wr', ws, we, wl, wm⟩ := was
              obtain ⟨hA2, hout⟩ := hstep
              cases had with
              | true =>
                rw [if_pos rfl] at hb hout
                unfold spC at hb
                simp only at hb hout
                have p0 := fun X => (cells6 ((Upd.alloc Non (w6.alloc (.cells #[.int .i64 xg, .int .i64 xr, .int .i64 xs, .int .i64 xe, .int .i64 xl, .int .i64 xm] 23)) X).heap hb fun h => h)).1
                have p1 := fun X => (cells6 ((Upd.alloc Non (w6.alloc (.cells #[.int .i64 xg, .int .i64 xr, .int .i64 xs, .int .i64 xe, .int .i64 xl, .int .i64 xm] 23)) X).heap hb fun h => h)).2.1
                have p2 := fun X => (cells6 ((Upd.alloc Non (w6.alloc (.cells #[.int .i64 xg, .int .i64 xr, .int .i64 xs, .int .i64 xe, .int .i64 xl, .int .i64 xm] 23)) X).heap hb fun h => h)).2.2.1
                have p3 := fun X => (cells6 ((Upd.alloc Non (w6.alloc (.cells #[.int .i64 xg, .int .i64 xr, .int .i64 xs, .int .i64 xe, .int .i64 xl, .int .i64 xm] 23)) X).heap hb fun h => h)).2.2.2.1
                have p4 := fun X => (cells6 ((Upd.alloc Non (w6.alloc (.cells #[.int .i64 xg, .int .i64 xr, .int .i64 xs, .int .i64 xe, .int .i64 xl, .int .i64 xm] 23)) X).heap hb fun h => h)).2.2.2.2.1
                have p5 := fun X => (cells6 ((Upd.alloc Non (w6.alloc (.cells #[.int .i64 xg, .int .i64 xr, .int .i64 xs, .int .i64 xe, .int .i64 xl, .int .i64 xm] 23)) X).heap hb fun h => h)).2.2.2.2.2
                have q0 := fun X => (cells6 ((Upd.alloc Non (w6.alloc (.cells #[.int .i64 xg, .int .i64 xr, .int .i64 xs, .int .i64 xe, .int .i64 xl, .int .i64 xm] 23)) X).heap hbq fun h => h)).1
                have q1 := fun X => (cells6 ((Upd.alloc Non (w6.alloc (.cells #[.int .i64 xg, .int .i64 xr, .int .i64 xs, .int .i64 xe, .int .i64 xl, .int .i64 xm] 23)) X).heap hbq fun h => h)).2.1
                have q2 := fun X => (cells6 ((Upd.alloc Non (w6.alloc (.cells #[.int .i64 xg, .int .i64 xr, .int .i64 xs, .int .i64 xe, .int .i64 xl, .int .i64 xm] 23)) X).heap hbq fun h => h)).2.2.1
                have q3 := fun X => (cells6 ((Upd.alloc Non (w6.alloc (.cells #[.int .i64 xg, .int .i64 xr, .int .i64 xs, .int .i64 xe, .int .i64 xl, .int .i64 xm] 23)) X).heap hbq fun h => h)).2.2.2.1
                have q4 := fun X => (cells6 ((Upd.alloc Non (w6.alloc (.cells #[.int .i64 xg, .int .i64 xr, .int .i64 xs, .int .i64 xe, .int .i64 xl, .int .i64 xm] 23)) X).heap hbq fun h => h)).2.2.2.2.1
                have q5 := fun X => (cells6 ((Upd.alloc Non (w6.alloc (.cells #[.int .i64 xg, .int .i64 xr, .int .i64 xs, .int .i64 xe, .int .i64 xl, .int .i64 xm] 23)) X).heap hbq fun h => h)).2.2.2.2.2
                have r0 := fun X => (cells6 ((Upd.alloc Non (w6.alloc (.cells #[.int .i64 xg, .int .i64 xr, .int .i64 xs, .int .i64 xe, .int .i64 xl, .int .i64 xm] 23)) X).heap hbX fun h => h)).1
                have r1 := fun X => (cells6 ((Upd.alloc Non (w6.alloc (.cells #[.int .i64 xg, .int .i64 xr, .int .i64 xs, .int .i64 xe, .int .i64 xl, .int .i64 xm] 23)) X).heap hbX fun h => h)).2.1
                have r2 := fun X => (cells6 ((Upd.alloc Non (w6.alloc (.cells #[.int .i64 xg, .int .i64 xr, .int .i64 xs, .int .i64 xe, .int .i64 xl, .int .i64 xm] 23)) X).heap hbX fun h => h)).2.2.1
                have r3 := fun X => (cells6 ((Upd.alloc Non (w6.alloc (.cells #[.int .i64 xg, .int .i64 xr, .int .i64 xs, .int .i64 xe, .int .i64 xl, .int .i64 xm] 23)) X).heap hbX fun h => h)).2.2.2.1
                have r4 := fun X => (cells6 ((Upd.alloc Non (w6.alloc (.cells #[.int .i64 xg, .int .i64 xr, .int .i64 xs, .int .i64 xe, .int .i64 xl, .int .i64 xm] 23)) X).heap hbX fun h => h)).2.2.2.2.1
                have r5 := fun X => (cells6 ((Upd.alloc Non (w6.alloc (.cells #[.int .i64 xg, .int .i64 xr, .int .i64 xs, .int .i64 xe, .int .i64 xl, .int .i64 xm] 23)) X).heap hbX fun h => h)).2.2.2.2.2
                have hwb : 0 ≤ wg ∧ wg ≤ (k : Int) := by
                  unfold Fd at hst
                  rw [if_pos rfl] at hst
                  have h1 := find_ok hst.1
                  rw [hst.2.1] at h1
                  exact ⟨h1.1.1, hst.2.2⟩
                have hww : IntKind.i64.wrap (wg + 1) = wg + 1 := IntWalk.i64_in _ ⟨by omega, by omega⟩
                rcases hout with ⟨eq, hx0, hxw, hgm⟩ | ⟨eq, ⟨hx0, hxw, hgm⟩ | ⟨hx0, hxw⟩⟩
                · unfold Sp.at_ at eq hxw hgm
                  simp only [Prod.mk.injEq, Sp.mk.injEq] at eq hxw
                  obtain ⟨⟨h1, h2, h3, h4, h5, h6⟩, h7⟩ := eq
                  obtain ⟨g1, g2, g3, g4, g5, g6⟩ := hxw
                  subst h1 h2 h3 h4 h5 h6 h7 g1 g2 g3 g4 g5 g6 hx0
                  have hL7 := hL6.non (Upd.alloc Non _ (.cells #[.int .i64 (wg + 1), .int .i64 xr, .int .i64 xs, .int .i64 xe, .int .i64 xl, .int .i64 xm] 23))
                  have hb7 := (Upd.alloc Non _ (.cells #[.int .i64 (wg + 1), .int .i64 xr, .int .i64 xs, .int .i64 xe, .int .i64 xl, .int .i64 xm] 23)).heap hb fun h => h
                  go_wp2_with ((with_reducible (show wpList _ _ _ (⟨_, Op.store _ (Operand.tmp 9) _, _, _, _, _⟩ :: _) _ _)); go_must (refine storeB_list rfl 23 _ _ rfl gb #[.int .i64 (wg + 1), .int .i64 xr, .int .i64 xs, .int .i64 xe, .int .i64 xl, .int .i64 xm] _ _ rfl rfl hb7 rfl size_sp.out (by simp [Value.oneCell']) ?_))
                  intro w18 hb18 hu18
                  have hL18 := hL7.beside hu18 hF hz1
                  go_wp2_with fail
                  go_roundw
                  case rel => exact ⟨k + 1, d2, F5, true, ⟨(wg + 1), xr, xs, xe, xl, xm⟩, by omega, by go_num, rfl, hL18, hA2, fd_found (by rw [hfr]) (by rw [hfr]) (by show (wg + 1) ≤ ((k + 1 : Nat) : Int); omega), by rw [if_pos rfl]; exact hb18, hF⟩
                  case measure => simp [intOf]; omega
                · unfold Sp.at_ at hxw hgm
                  unfold Sp.none at eq
                  simp only [Prod.mk.injEq, Sp.mk.injEq] at eq hxw
                  obtain ⟨⟨h1, h2, h3, h4, h5, h6⟩, h7⟩ := eq
                  obtain ⟨g1, g2, g3, g4, g5, g6⟩ := hxw
                  subst h1 h2 h3 h4 h5 h6 h7 g1 g2 g3 g4 g5 g6 hx0
                  have hL7 := hL6.non (Upd.alloc Non _ (.cells #[.int .i64 (wg + 1), .int .i64 xr, .int .i64 xs, .int .i64 xe, .int .i64 xl, .int .i64 xm] 23))
                  have hb7 := (Upd.alloc Non _ (.cells #[.int .i64 (wg + 1), .int .i64 xr, .int .i64 xs, .int .i64 xe, .int .i64 xl, .int .i64 xm] 23)).heap hb fun h => h
                  go_wp2_with ((with_reducible (show wpList _ _ _ (⟨_, Op.store _ (Operand.tmp 9) _, _, _, _, _⟩ :: _) _ _)); go_must (refine storeB_list rfl 23 _ _ rfl gb #[.int .i64 (wg + 1), .int .i64 xr, .int .i64 xs, .int .i64 xe, .int .i64 xl, .int .i64 xm] _ _ rfl rfl hb7 rfl size_sp.out (by simp [Value.oneCell']) ?_))
                  intro w18 hb18 hu18
                  have hL18 := hL7.beside hu18 hF hz1
                  go_wp2_with fail
                  go_roundw
                  case rel => exact ⟨k + 1, d2, F5, true, ⟨(wg + 1), xr, xs, xe, xl, xm⟩, by omega, by go_num, rfl, hL18, hA2, fd_found (by rw [hfr]) (by rw [hfr]) (by show (wg + 1) ≤ ((k + 1 : Nat) : Int); omega), by rw [if_pos rfl]; exact hb18, hF⟩
                  case measure => simp [intOf]; omega
                · unfold Fd at hst
                  rw [if_pos rfl] at hst
                  rw [hst.1] at hx0
                  rw [hst.2.1] at hxw
                  unfold Sp.none at eq
                  simp only [Prod.mk.injEq, Sp.mk.injEq] at eq hxw
                  obtain ⟨⟨h1, h2, h3, h4, h5, h6⟩, h7⟩ := eq
                  obtain ⟨g1, g2, g3, g4, g5, g6⟩ := hxw
                  subst h1 h2 h3 h4 h5 h6 h7 g1 g2 g3 g4 g5 g6 hx0
                  have hL7 := hL6.non (Upd.alloc Non _ (.cells #[.int .i64 (xg + 1), .int .i64 sr, .int .i64 ss, .int .i64 se, .int .i64 sl, .int .i64 sm] 23))
                  have hb7 := (Upd.alloc Non _ (.cells #[.int .i64 (xg + 1), .int .i64 sr, .int .i64 ss, .int .i64 se, .int .i64 sl, .int .i64 sm] 23)).heap hb fun h => h
                  go_wp2_with ((with_reducible (show wpList _ _ _ (⟨_, Op.store _ (Operand.tmp 9) _, _, _, _, _⟩ :: _) _ _)); go_must (refine storeB_list rfl 23 _ _ rfl gb #[.int .i64 xg, .int .i64 xr, .int .i64 xs, .int .i64 xe, .int .i64 xl, .int .i64 xm] _ _ rfl rfl hb7 rfl size_sp.out (by simp [Value.oneCell']) ?_))
                  intro w18 hb18 hu18
                  have hL18 := hL7.beside hu18 hF hz1
                  go_wp2_with fail
                  go_roundw
                  case rel => exact ⟨k + 1, d2, F5, true, ⟨xg, xr, xs, xe, xl, xm⟩, by omega, by go_num, rfl, hL18, hA2, fd_found (by rw [hfr]) (by rw [hfr]) (by show xg ≤ ((k + 1 : Nat) : Int); omega), by rw [if_pos rfl]; exact hb18, hF⟩
                  case measure => simp [intOf]; omega
              | false =>
                rw [if_neg (by decide)] at hb hout
                unfold spC Sp.none at hb
                simp only at hb hout
                have p0 := fun X => (cells6 ((Upd.alloc Non (w6.alloc (.cells #[.int .i64 xg, .int .i64 xr, .int .i64 xs, .int .i64 xe, .int .i64 xl, .int .i64 xm] 23)) X).heap hb fun h => h)).1
                have p1 := fun X => (cells6 ((Upd.alloc Non (w6.alloc (.cells #[.int .i64 xg, .int .i64 xr, .int .i64 xs, .int .i64 xe, .int .i64 xl, .int .i64 xm] 23)) X).heap hb fun h => h)).2.1
                have p2 := fun X => (cells6 ((Upd.alloc Non (w6.alloc (.cells #[.int .i64 xg, .int .i64 xr, .int .i64 xs, .int .i64 xe, .int .i64 xl, .int .i64 xm] 23)) X).heap hb fun h => h)).2.2.1
                have p3 := fun X => (cells6 ((Upd.alloc Non (w6.alloc (.cells #[.int .i64 xg, .int .i64 xr, .int .i64 xs, .int .i64 xe, .int .i64 xl, .int .i64 xm] 23)) X).heap hb fun h => h)).2.2.2.1
                have p4 := fun X => (cells6 ((Upd.alloc Non (w6.alloc (.cells #[.int .i64 xg, .int .i64 xr, .int .i64 xs, .int .i64 xe, .int .i64 xl, .int .i64 xm] 23)) X).heap hb fun h => h)).2.2.2.2.1
                have p5 := fun X => (cells6 ((Upd.alloc Non (w6.alloc (.cells #[.int .i64 xg, .int .i64 xr, .int .i64 xs, .int .i64 xe, .int .i64 xl, .int .i64 xm] 23)) X).heap hb fun h => h)).2.2.2.2.2
                have q0 := fun X => (cells6 ((Upd.alloc Non (w6.alloc (.cells #[.int .i64 xg, .int .i64 xr, .int .i64 xs, .int .i64 xe, .int .i64 xl, .int .i64 xm] 23)) X).heap hbq fun h => h)).1
                have q1 := fun X => (cells6 ((Upd.alloc Non (w6.alloc (.cells #[.int .i64 xg, .int .i64 xr, .int .i64 xs, .int .i64 xe, .int .i64 xl, .int .i64 xm] 23)) X).heap hbq fun h => h)).2.1
                have q2 := fun X => (cells6 ((Upd.alloc Non (w6.alloc (.cells #[.int .i64 xg, .int .i64 xr, .int .i64 xs, .int .i64 xe, .int .i64 xl, .int .i64 xm] 23)) X).heap hbq fun h => h)).2.2.1
                have q3 := fun X => (cells6 ((Upd.alloc Non (w6.alloc (.cells #[.int .i64 xg, .int .i64 xr, .int .i64 xs, .int .i64 xe, .int .i64 xl, .int .i64 xm] 23)) X).heap hbq fun h => h)).2.2.2.1
                have q4 := fun X => (cells6 ((Upd.alloc Non (w6.alloc (.cells #[.int .i64 xg, .int .i64 xr, .int .i64 xs, .int .i64 xe, .int .i64 xl, .int .i64 xm] 23)) X).heap hbq fun h => h)).2.2.2.2.1
                have q5 := fun X => (cells6 ((Upd.alloc Non (w6.alloc (.cells #[.int .i64 xg, .int .i64 xr, .int .i64 xs, .int .i64 xe, .int .i64 xl, .int .i64 xm] 23)) X).heap hbq fun h => h)).2.2.2.2.2
                have r0 := fun X => (cells6 ((Upd.alloc Non (w6.alloc (.cells #[.int .i64 xg, .int .i64 xr, .int .i64 xs, .int .i64 xe, .int .i64 xl, .int .i64 xm] 23)) X).heap hbX fun h => h)).1
                have r1 := fun X => (cells6 ((Upd.alloc Non (w6.alloc (.cells #[.int .i64 xg, .int .i64 xr, .int .i64 xs, .int .i64 xe, .int .i64 xl, .int .i64 xm] 23)) X).heap hbX fun h => h)).2.1
                have r2 := fun X => (cells6 ((Upd.alloc Non (w6.alloc (.cells #[.int .i64 xg, .int .i64 xr, .int .i64 xs, .int .i64 xe, .int .i64 xl, .int .i64 xm] 23)) X).heap hbX fun h => h)).2.2.1
                have r3 := fun X => (cells6 ((Upd.alloc Non (w6.alloc (.cells #[.int .i64 xg, .int .i64 xr, .int .i64 xs, .int .i64 xe, .int .i64 xl, .int .i64 xm] 23)) X).heap hbX fun h => h)).2.2.2.1
                have r4 := fun X => (cells6 ((Upd.alloc Non (w6.alloc (.cells #[.int .i64 xg, .int .i64 xr, .int .i64 xs, .int .i64 xe, .int .i64 xl, .int .i64 xm] 23)) X).heap hbX fun h => h)).2.2.2.2.1
                have r5 := fun X => (cells6 ((Upd.alloc Non (w6.alloc (.cells #[.int .i64 xg, .int .i64 xr, .int .i64 xs, .int .i64 xe, .int .i64 xl, .int .i64 xm] 23)) X).heap hbX fun h => h)).2.2.2.2.2
                rcases hout with ⟨eq, hx0, hxw, hgm⟩ | ⟨eq, ⟨hx0, hxw, hgm⟩ | ⟨hx0, hxw⟩⟩
                · unfold Sp.at_ at eq hxw hgm
                  simp only [Prod.mk.injEq, Sp.mk.injEq] at eq hxw
                  obtain ⟨⟨h1, h2, h3, h4, h5, h6⟩, h7⟩ := eq
                  obtain ⟨g1, g2, g3, g4, g5, g6⟩ := hxw
                  subst h1 h2 h3 h4 h5 h6 h7 g1 g2 g3 g4 g5 g6 hx0
                  have hL7 := hL6.non (Upd.alloc Non _ (.cells #[.int .i64 0, .int .i64 xr, .int .i64 xs, .int .i64 xe, .int .i64 xl, .int .i64 xm] 23))
                  have hb7 := (Upd.alloc Non _ (.cells #[.int .i64 0, .int .i64 xr, .int .i64 xs, .int .i64 xe, .int .i64 xl, .int .i64 xm] 23)).heap hb fun h => h
                  go_wp2_with ((with_reducible (show wpList _ _ _ (⟨_, Op.store _ (Operand.tmp 9) _, _, _, _, _⟩ :: _) _ _)); go_must (refine storeB_list rfl 23 _ _ rfl gb #[.int .i64 0, .int .i64 xr, .int .i64 xs, .int .i64 xe, .int .i64 xl, .int .i64 xm] _ _ rfl rfl hb7 rfl size_sp.out (by simp [Value.oneCell']) ?_))
                  intro w18 hb18 hu18
                  have hL18 := hL7.beside hu18 hF hz1
                  go_wp2_with fail
                  go_roundw
                  case rel => exact ⟨k + 1, d2, F5, true, ⟨0, xr, xs, xe, xl, xm⟩, by omega, by go_num, rfl, hL18, hA2, fd_found (by rw [hfr]) (by rw [hfr]) (by show 0 ≤ ((k + 1 : Nat) : Int); omega), by rw [if_pos rfl]; exact hb18, hF⟩
                  case measure => simp [intOf]; omega
                · unfold Sp.at_ at hxw hgm
                  unfold Sp.none at eq
                  simp only [Prod.mk.injEq, Sp.mk.injEq] at eq hxw
                  obtain ⟨⟨h1, h2, h3, h4, h5, h6⟩, h7⟩ := eq
                  obtain ⟨g1, g2, g3, g4, g5, g6⟩ := hxw
                  subst h1 h2 h3 h4 h5 h6 h7 g1 g2 g3 g4 g5 g6 hx0
                  have hL7 := hL6.non (Upd.alloc Non _ (.cells #[.int .i64 0, .int .i64 xr, .int .i64 xs, .int .i64 xe, .int .i64 xl, .int .i64 xm] 23))
                  have hb7 := (Upd.alloc Non _ (.cells #[.int .i64 0, .int .i64 xr, .int .i64 xs, .int .i64 xe, .int .i64 xl, .int .i64 xm] 23)).heap hb fun h => h
                  go_wp2_with ((with_reducible (show wpList _ _ _ (⟨_, Op.store _ (Operand.tmp 9) _, _, _, _, _⟩ :: _) _ _)); go_must (refine storeB_list rfl 23 _ _ rfl gb #[.int .i64 0, .int .i64 xr, .int .i64 xs, .int .i64 xe, .int .i64 xl, .int .i64 xm] _ _ rfl rfl hb7 rfl size_sp.out (by simp [Value.oneCell']) ?_))
                  intro w18 hb18 hu18
                  have hL18 := hL7.beside hu18 hF hz1
                  go_wp2_with fail
                  go_roundw
                  case rel => exact ⟨k + 1, d2, F5, true, ⟨0, xr, xs, xe, xl, xm⟩, by omega, by go_num, rfl, hL18, hA2, fd_found (by rw [hfr]) (by rw [hfr]) (by show 0 ≤ ((k + 1 : Nat) : Int); omega), by rw [if_pos rfl]; exact hb18, hF⟩
                  case measure => simp [intOf]; omega
                · unfold Fd at hst
                  rw [if_neg (by decide)] at hst
                  rw [hst] at hx0
                  unfold Sp.none at eq
                  simp only [Prod.mk.injEq, Sp.mk.injEq] at eq
                  obtain ⟨⟨h1, h2, h3, h4, h5, h6⟩, h7⟩ := eq
                  subst h1 h2 h3 h4 h5 h6 h7 hx0
                  have hL7 := hL6.non (Upd.alloc Non _ (.cells #[.int .i64 0, .int .i64 sr, .int .i64 ss, .int .i64 se, .int .i64 sl, .int .i64 sm] 23))
                  have hb7 := (Upd.alloc Non _ (.cells #[.int .i64 0, .int .i64 sr, .int .i64 ss, .int .i64 se, .int .i64 sl, .int .i64 sm] 23)).heap hb fun h => h
                  go_wp2_with fail
                  go_roundw
                  case rel => exact ⟨k + 1, d2, F5, false, Sp.none, by omega, by go_num, rfl, hL7, hA2, fd_none (by rw [hfr]), by rw [if_neg (by decide)]; exact hb7, hF⟩
                  case measure => simp [intOf]; omega
        · rw [hc0] at hck
          go_wp2_with fail
          refine (hck.out _).mono ?_
          rintro en w2 ⟨rfl, hu⟩
          replace hL := hL.non hu
          replace hb := hu.heap hb fun h => h
          clear hu
          go_wp2_with fail
          go_roundw
          case rel => exact ⟨k + 1, d, F, had, was, by omega, by go_num, rfl, hL, hA, fd_mono hst (by omega), hb, hF⟩
          case measure => simp [intOf]; omega
      · have hlI : ¬ (k : Int) < (l.length : Int) := by omega
        have hU := hL.upd
        go_wp2_with fail
        refine (hlv.out _).mono ?_
        rintro en w9 ⟨rfl, hu⟩
        go_wp2_with fail
        go_ret
        exact ⟨rfl, hU.trans hu fun _ _ h => h⟩
end Go.Proofs.Ytgdkgnolkepgdaa
