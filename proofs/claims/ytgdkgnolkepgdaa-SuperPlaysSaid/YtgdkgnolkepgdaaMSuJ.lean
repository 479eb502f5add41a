/- The walk over super.Save. -/
import Derived.Test.YtgdkgnolkepgdaaMSuI
import Derived.Test.YtgdkgnolkepgdaaMBlP
namespace Go.Proofs.Ytgdkgnolkepgdaa
set_option maxRecDepth 100000
open Go.RowKit Go.Amb Go.Shelf
set_option linter.unusedVariables false
set_option linter.unusedSimpArgs false
attribute [local go_sem ↓] Go.wp_at_zero Go.wp_at_succ

theorem full_full {p : List UInt8} (h : p.length ≤ 128) : full (full p) = full p := by
  have := full_length h
  show full p ++ List.replicate (128 - (full p).length) 0 = full p
  rw [this]
  simp
theorem write_full (d : Dk) (i : Int) {p : List UInt8} (h : p.length ≤ 128) : d.write i (full p) = d.write i p := by
  unfold Dk.write
  rw [full_full h, full_length h]
  have h1 : ¬ 128 < p.length := by omega
  simp [h1]
theorem find_ok {d : Dk} (h : (findR d).2.2 = 0) : SpOk (findR d).1 := by
  unfold findR at h ⊢
  by_cases h0 : d.within 0 = 0
  · by_cases h1 : d.within 1 = 0
    · rw [if_neg (by simp [h0]), if_neg (by simp [h1])] at h ⊢
      by_cases ha : (readR (d.has 0)).2 = 0
      · by_cases hb : (readR (d.has 1)).2 = 0
        · rw [if_neg (fun e => e.1 ha)]
          split
          · exact read_ok hb
          · exact read_ok ha
        · rw [if_neg (fun e => e.1 ha), if_neg (fun e => e.elim (fun e => e ha) (fun e => hb e.1))]
          exact read_ok ha
      · by_cases hb : (readR (d.has 1)).2 = 0
        · rw [if_neg (fun e => e.2 hb), if_pos (.inl ha)]
          exact read_ok hb
        · rw [if_pos ⟨ha, hb⟩] at h
          cases h
    · rw [if_neg (by simp [h0]), if_pos h1] at h
      exact absurd h h1
  · rw [if_pos h0] at h
    exact absurd h h0
section
variable {d : Dk} {s : Sp} {G : Int} (hne : ¬ ((findR d).2.2 ≠ 0 ∧ (findR d).2.2 ≠ 4)) (hG : nextG d = G)
include hne hG
theorem save_time (h : 1152921504606846976 < G) : saveR d s = (d, Sp.none, 18) := by
  unfold saveR
  rw [if_neg hne, hG, if_pos h]
theorem save_arg (h : ¬ 1152921504606846976 < G) (h2 : ¬ SpOk (s.at_ G)) : saveR d s = (d, Sp.none, 2) := by
  unfold saveR
  rw [if_neg hne, hG, if_neg h, if_pos h2]
theorem save_w (h : ¬ 1152921504606846976 < G) (h2 : SpOk (s.at_ G)) (h3 : (d.write (G % 2) (putS (s.at_ G))).2 ≠ 0) : saveR d s = ((d.write (G % 2) (putS (s.at_ G))).1, Sp.none, (d.write (G % 2) (putS (s.at_ G))).2) := by
  unfold saveR
  rw [if_neg hne, hG, if_neg h, if_neg (fun e => e h2), if_pos h3]
theorem save_f (h : ¬ 1152921504606846976 < G) (h2 : SpOk (s.at_ G)) (h3 : (d.write (G % 2) (putS (s.at_ G))).2 = 0) (h4 : (d.write (G % 2) (putS (s.at_ G))).1.flush.2 ≠ 0) :
    saveR d s = ((d.write (G % 2) (putS (s.at_ G))).1.flush.1, Sp.none, (d.write (G % 2) (putS (s.at_ G))).1.flush.2) := by
  unfold saveR
  rw [if_neg hne, hG, if_neg h, if_neg (fun e => e h2), if_neg (fun e => e h3), if_pos h4]
theorem save_ok (h : ¬ 1152921504606846976 < G) (h2 : SpOk (s.at_ G)) (h3 : (d.write (G % 2) (putS (s.at_ G))).2 = 0) (h4 : (d.write (G % 2) (putS (s.at_ G))).1.flush.2 = 0) :
    saveR d s = ((d.write (G % 2) (putS (s.at_ G))).1.flush.1, s.at_ G, 0) := by
  unfold saveR
  rw [if_neg hne, hG, if_neg h, if_neg (fun e => e h2), if_neg (fun e => e h3), if_neg (fun e => e h4)]
end
/-- A super, and an error, are answered; the disk is another then. -/
def SaveRet (r : Dk × Sp × Int) (w0 : World) (D : Nat) (w : World) (F : Nat → Prop) : Ending → World → Prop := fun en w' => en = .returned (.tuple #[spV r.2.1, .int .i64 r.2.2]) ∧ ∃ F', Lv w0 D w' F' r.1 ∧ Kp w F w' F'
/-- The disk lives on where a block that is none of its own is written. -/
theorem Lv.beside {w0 w w' : World} {D b : Nat} {F : Nat → Prop} {d : Dk} (h : Lv w0 D w F d) (hu : Upd (fun k => k = b) w w') (hb : ¬ F b) (hb0 : w0.heap.size ≤ b) : Lv w0 D w' F d :=
  ⟨h.at_.upd hu fun k hk e => hb (e ▸ hk), h.upd.trans hu fun j hj e => by (have : j = b := e); omega, h.own⟩
set_option maxHeartbeats 4000000 in
theorem ySave {w0 w : World} {D : Nat} {F : Nat → Prop} {d : Dk} (h : Lv w0 D w F d) (hn : d.P.length ≤ 999999) (s : Sp) :
    Calls Try.prog 19 #[.pointer (some ⟨D, 0, none⟩), spV s] w (SaveRet (saveR d s) w0 D w F) := by
  have hfi := Lib.hid (fun w' (hu : Upd Non w w') => yFind (h.at_.non hu) (by omega))
  have hok := @find_ok d
  have hsz0 := h.upd.size
  have hFlt := h.at_.lt
  obtain ⟨⟨xs, xat, xe⟩, hfr⟩ : ∃ fr, findR d = fr := ⟨_, rfl⟩
  rw [hfr] at hfi hok
  simp only at hfi hok
  obtain ⟨xg, xr, xst, xep, xl, xm⟩ := xs
  obtain ⟨g, r, st, ep, la, ma⟩ := s
  unfold spV at *
  simp only at hfi
  by_cases he0 : xe = 0
  · subst he0
    have hxo := hok rfl
    have hG : Hid (nextG d = xg + 1) := Lib.hid (by unfold nextG; rw [hfr]; rfl)
    have hx0 := hxo.1.1
    have hx1 := hxo.1.2
    simp only at hx0 hx1
    have hw : IntKind.i64.wrap (xg + 1) = xg + 1 := IntWalk.i64_in _ ⟨by omega, by omega⟩
    have hGb : 0 ≤ xg + 1 ∧ xg + 1 ≤ 1152921504606846977 := ⟨by omega, by omega⟩
    clear hok hxo
    generalize hGe : xg + 1 = G at *
    by_cases hgm : (1152921504606846976 : Int) < G
    · have hres : Hid (saveR d ⟨g, r, st, ep, la, ma⟩ = (d, Sp.none, 18)) := Lib.hid (save_time (by rw [hfr]; simp) hG.out hgm)
      clear hfr
      go_enter Try.func19, Try.ntmps19
      go_wp2_with fail
      refine (hfi.out _ (((Upd.refl Non w).then_alloc _).then_alloc _)).mono ?_
      rintro en w1 ⟨rfl, hX⟩
      have hbA := (Upd.alloc Non w1 (.cells #[.int .i64 xg, .int .i64 xr, .int .i64 xst, .int .i64 xep, .int .i64 xl, .int .i64 xm] 23)).heap (hX.heap (heap_alloc2_old w (.cells #[.int .i64 g, .int .i64 r, .int .i64 st, .int .i64 ep, .int .i64 la, .int .i64 ma] 23) (.cells #[.int .i64 0, .int .i64 0, .int .i64 0, .int .i64 0, .int .i64 0, .int .i64 0] 23)) fun h => h) fun h => h
      have hbB := (Upd.alloc Non w1 (.cells #[.int .i64 xg, .int .i64 xr, .int .i64 xst, .int .i64 xep, .int .i64 xl, .int .i64 xm] 23)).heap (hX.heap (heap_alloc2_new w (.cells #[.int .i64 g, .int .i64 r, .int .i64 st, .int .i64 ep, .int .i64 la, .int .i64 ma] 23) (.cells #[.int .i64 0, .int .i64 0, .int .i64 0, .int .i64 0, .int .i64 0, .int .i64 0] 23)) fun h => h) fun h => h
      have hU : Upd Non w (w1.alloc (.cells #[.int .i64 xg, .int .i64 xr, .int .i64 xst, .int .i64 xep, .int .i64 xl, .int .i64 xm] 23)) := ((((Upd.refl Non w).then_alloc _).then_alloc _).trans hX fun _ _ h => h).then_alloc _
      have hz1 : w.heap.size + 2 ≤ w1.heap.size := by have := hX.size; simp at this; omega
      have hnF : ¬ F (w.heap.size + 1) := fun e => by have := hFlt _ e; omega
      have hnA : ¬ F w.heap.size := fun e => by have := hFlt _ e; omega
      clear hX hfi
      have zf := (cells_of hbA).2 0
      have zc := (cells_of hbA).1 0
      have hbS := set_blk (j := 0) hbA (.int .i64 G)
      have hUS : Upd Non w ((w1.alloc (.cells #[.int .i64 xg, .int .i64 xr, .int .i64 xst, .int .i64 xep, .int .i64 xl, .int .i64 xm] 23)).setCell ⟨w.heap.size, 0, none⟩ (.int .i64 G)) := hU.then_setCell (fun h => absurd h (by show ¬ w.heap.size < w.heap.size; omega)) _
      have hBS := (Upd.setCell (S := fun k => k = w.heap.size) (a := ⟨w.heap.size, 0, none⟩) (w1.alloc (.cells #[.int .i64 xg, .int .i64 xr, .int .i64 xst, .int .i64 xep, .int .i64 xl, .int .i64 xm] 23)) rfl (.int .i64 G)).heap hbB (fun e => by (have : w.heap.size + 1 = w.heap.size := e); omega)
      obtain ⟨y0, y1, y2, y3, y4, y5⟩ := cells6 hbS
      clear hbA hbB hU
      obtain ⟨hbA, hbB, hU⟩ := And.intro hbS (And.intro hBS hUS)
      clear hbS hBS hUS
      have hL := h.non hU
      have hK : Kp w F _ F := Kp.non hU
      go_wp2_with ((with_reducible (show wpList _ _ _ (⟨_, Op.store _ _ _, _, _, _, _⟩ :: _) _ _)); refine storeB_list rfl 23 _ _ rfl (w.heap.size + 1) #[.int .i64 0, .int .i64 0, .int .i64 0, .int .i64 0, .int .i64 0, .int .i64 0] _ _ rfl rfl hbB rfl size_sp.out (by simp [Value.oneCell']) ?_)
      intro w18 hb18 hu18
      obtain ⟨x0, x1, x2, x3, x4, x5⟩ := cells6 hb18
      have hL18 := hL.beside hu18 hnF (by omega)
      have hK18 : Kp w F w18 _ := ⟨hK.upd.trans hu18 (fun j hj e => by (have : j = w.heap.size + 1 := e); omega), hK.own⟩
      clear hL hK hbB hu18 hb18
      go_wp2_with fail
      refine bodyPost_ret (v := .tuple #[.agg #[.int .i64 0, .int .i64 0, .int .i64 0, .int .i64 0, .int .i64 0, .int .i64 0], .int .i64 18]) (by simp [results, Try.results19, go_sem, x0, x1, x2, x3, x4, x5]; try rfl) rfl ⟨by rw [hres.out]; rfl, _, by rw [hres.out]; exact hL18, hK18⟩
    · have hgm2 : decide ((1152921504606846976 : Int) < G) = false := decide_eq_false hgm
      have hby := Lib.hid (fun w' => yBytes ⟨G, r, st, ep, la, ma⟩ w')
      by_cases hsp : SpOk ⟨G, r, st, ep, la, ma⟩
      · have hsw : Hid ((d.write (G % 2) (putS ⟨G, r, st, ep, la, ma⟩)).2 ≠ 0 → saveR d ⟨g, r, st, ep, la, ma⟩ = _) := Lib.hid (fun h3 => save_w (s := ⟨g, r, st, ep, la, ma⟩) (by rw [hfr]; simp) hG.out hgm hsp h3)
        have hsf : Hid ((d.write (G % 2) (putS ⟨G, r, st, ep, la, ma⟩)).2 = 0 → (d.write (G % 2) (putS ⟨G, r, st, ep, la, ma⟩)).1.flush.2 ≠ 0 → saveR d ⟨g, r, st, ep, la, ma⟩ = _) := Lib.hid (fun h3 h4 => save_f (s := ⟨g, r, st, ep, la, ma⟩) (by rw [hfr]; simp) hG.out hgm hsp h3 h4)
        have hso : Hid ((d.write (G % 2) (putS ⟨G, r, st, ep, la, ma⟩)).2 = 0 → (d.write (G % 2) (putS ⟨G, r, st, ep, la, ma⟩)).1.flush.2 = 0 → saveR d ⟨g, r, st, ep, la, ma⟩ = _) := Lib.hid (fun h3 h4 => save_ok (s := ⟨g, r, st, ep, la, ma⟩) (by rw [hfr]; simp) hG.out hgm hsp h3 h4)
        rw [bytesR_yes hsp] at hby
        have hwf := write_full d (G % 2) (p := putS ⟨G, r, st, ep, la, ma⟩) (by rw [putS_length]; decide)
        have hwP := write_P d (G % 2) (putS ⟨G, r, st, ep, la, ma⟩)
        unfold Sp.at_ at hsw hsf hso
        unfold spV at hby
        simp only at hby hsw hsf hso
        try simp only [show ((0 : Int) % 2) = 0 from rfl] at hsw hsf hso
        clear hfr hsp
        replace hgm := Lib.hid hgm
        go_enter Try.func19, Try.ntmps19
        go_wp2_with fail
        refine (hfi.out _ (((Upd.refl Non w).then_alloc _).then_alloc _)).mono ?_
        rintro en w1 ⟨rfl, hX⟩
        have hbA := (Upd.alloc Non w1 (.cells #[.int .i64 xg, .int .i64 xr, .int .i64 xst, .int .i64 xep, .int .i64 xl, .int .i64 xm] 23)).heap (hX.heap (heap_alloc2_old w (.cells #[.int .i64 g, .int .i64 r, .int .i64 st, .int .i64 ep, .int .i64 la, .int .i64 ma] 23) (.cells #[.int .i64 0, .int .i64 0, .int .i64 0, .int .i64 0, .int .i64 0, .int .i64 0] 23)) fun h => h) fun h => h
        have hbB := (Upd.alloc Non w1 (.cells #[.int .i64 xg, .int .i64 xr, .int .i64 xst, .int .i64 xep, .int .i64 xl, .int .i64 xm] 23)).heap (hX.heap (heap_alloc2_new w (.cells #[.int .i64 g, .int .i64 r, .int .i64 st, .int .i64 ep, .int .i64 la, .int .i64 ma] 23) (.cells #[.int .i64 0, .int .i64 0, .int .i64 0, .int .i64 0, .int .i64 0, .int .i64 0] 23)) fun h => h) fun h => h
        have hU : Upd Non w (w1.alloc (.cells #[.int .i64 xg, .int .i64 xr, .int .i64 xst, .int .i64 xep, .int .i64 xl, .int .i64 xm] 23)) := ((((Upd.refl Non w).then_alloc _).then_alloc _).trans hX fun _ _ h => h).then_alloc _
        have hz1 : w.heap.size + 2 ≤ w1.heap.size := by have := hX.size; simp at this; omega
        have hnF : ¬ F (w.heap.size + 1) := fun e => by have := hFlt _ e; omega
        have hnA : ¬ F w.heap.size := fun e => by have := hFlt _ e; omega
        clear hX hfi
        have zf := (cells_of hbA).2 0
        have zc := (cells_of hbA).1 0
        have hbS := set_blk (j := 0) hbA (.int .i64 G)
        have hUS : Upd Non w ((w1.alloc (.cells #[.int .i64 xg, .int .i64 xr, .int .i64 xst, .int .i64 xep, .int .i64 xl, .int .i64 xm] 23)).setCell ⟨w.heap.size, 0, none⟩ (.int .i64 G)) := hU.then_setCell (fun h => absurd h (by show ¬ w.heap.size < w.heap.size; omega)) _
        have hBS := (Upd.setCell (S := fun k => k = w.heap.size) (a := ⟨w.heap.size, 0, none⟩) (w1.alloc (.cells #[.int .i64 xg, .int .i64 xr, .int .i64 xst, .int .i64 xep, .int .i64 xl, .int .i64 xm] 23)) rfl (.int .i64 G)).heap hbB (fun e => by (have : w.heap.size + 1 = w.heap.size := e); omega)
        obtain ⟨y0, y1, y2, y3, y4, y5⟩ := cells6 hbS
        go_wp2_with fail
        refine (hby.out _).mono ?_
        rintro en w3 ⟨v, rfl, hB, hv, hu⟩
        clear hbA hbB hU
        obtain ⟨hbA, hbB, hU⟩ := And.intro hbS (And.intro hBS hUS)
        clear hbS hBS hUS
        have hL := h.non hU
        have hK : Kp w F _ F := Kp.non hU
        replace hbA := hu.heap hbA fun h => h
        replace hbB := hu.heap hbB fun h => h
        replace hL := hL.non hu
        replace hK := hK.trans (Kp.non hu)
        have hzS : w.heap.size + 2 ≤ w3.heap.size := by have := hu.size; simp at this; omega
        have hvF : ∀ k, At v k → ¬ F k := fun k hk hF => by have h1 := hv k hk; have h2 := hFlt k hF; simp at h1; omega
        obtain ⟨va, vn, vc, rfl⟩ : ∃ a n c, v = .slice a n c := by obtain ⟨a, c, e⟩ := bytes_form hB; exact ⟨_, _, _, e⟩
        clear hu y0 y1 y2 y3 y4 y5 zf zc hv
        obtain ⟨y0, y1, y2, y3, y4, y5⟩ := cells6 hbA
        go_wp2_with fail
        refine (lvWrite hL (by omega) (G % 2) _ _ hB hvF).mono ?_
        rintro en w4 ⟨rfl, F4, hL4, hK4⟩
        rw [hwf] at hL4 ⊢
        clear hwf hL hB hvF
        generalize d.write (G % 2) (putS ⟨G, r, st, ep, la, ma⟩) = wr at *
        obtain ⟨d4, e4⟩ := wr
        simp only at hsw hsf hso hL4 hwP
        replace hbA := hK4.upd.heap hbA hnA
        replace hbB := hK4.upd.heap hbB hnF
        have hnF4 : ¬ F4 (w.heap.size + 1) := fun e => (hK4.own _ e).elim hnF (fun h => by omega)
        have hnA4 : ¬ F4 w.heap.size := fun e => (hK4.own _ e).elim hnA (fun h => by omega)
        have hz4 := hK4.upd.size
        replace hK := hK.trans hK4
        clear y0 y1 y2 y3 y4 y5 hK4 hnF hnA
        obtain ⟨y0, y1, y2, y3, y4, y5⟩ := cells6 hbA
        by_cases he4 : e4 = 0
        · subst he4
          replace hsf := Lib.hid (hsf.out rfl)
          replace hso := Lib.hid (hso.out rfl)
          clear hsw
          go_wp2_with fail
          refine (lvFlush hL4 (by omega)).mono ?_
          rintro en w5 ⟨rfl, F5, hL5, hK5⟩
          clear hL4
          generalize d4.flush = fr at *
          obtain ⟨d5, e5⟩ := fr
          simp only at hsf hso hL5
          replace hbA := hK5.upd.heap hbA hnA4
          replace hbB := hK5.upd.heap hbB hnF4
          have hnF : ¬ F5 (w.heap.size + 1) := fun e => (hK5.own _ e).elim hnF4 (fun h => by omega)
          replace hK := hK.trans hK5
          have hL := hL5
          clear y0 y1 y2 y3 y4 y5 hK5 hnF4 hnA4 hL5
          obtain ⟨y0, y1, y2, y3, y4, y5⟩ := cells6 hbA
          by_cases he5 : e5 = 0
          · subst he5
            have hres := Lib.hid (hso.out rfl)
            clear hso hsf
            go_wp2_with ((with_reducible (show wpList _ _ _ (⟨_, Op.store _ _ _, _, _, _, _⟩ :: _) _ _)); refine storeB_list rfl 23 _ _ rfl (w.heap.size + 1) #[.int .i64 G, .int .i64 r, .int .i64 st, .int .i64 ep, .int .i64 la, .int .i64 ma] _ _ rfl rfl hbB rfl size_sp.out (by simp [Value.oneCell']) ?_)
            intro w18 hb18 hu18
            obtain ⟨x0, x1, x2, x3, x4, x5⟩ := cells6 hb18
            have hL18 := hL.beside hu18 hnF (by omega)
            have hK18 : Kp w F w18 _ := ⟨hK.upd.trans hu18 (fun j hj e => by (have : j = w.heap.size + 1 := e); omega), hK.own⟩
            clear hL hK hbB hu18 hb18
            go_wp2_with fail
            refine bodyPost_ret (v := .tuple #[.agg #[.int .i64 G, .int .i64 r, .int .i64 st, .int .i64 ep, .int .i64 la, .int .i64 ma], .int .i64 0]) (by simp [results, Try.results19, go_sem, x0, x1, x2, x3, x4, x5]; try rfl) rfl ⟨by rw [hres.out]; rfl, _, by rw [hres.out]; exact hL18, hK18⟩
          · have hres := Lib.hid (hsf.out he5)
            have he52 : (e5 != 0) = true := by simp [he5]
            replace he5 := Lib.hid he5
            clear hso hsf
            go_wp2_with ((with_reducible (show wpList _ _ _ (⟨_, Op.store _ _ _, _, _, _, _⟩ :: _) _ _)); refine storeB_list rfl 23 _ _ rfl (w.heap.size + 1) #[.int .i64 0, .int .i64 0, .int .i64 0, .int .i64 0, .int .i64 0, .int .i64 0] _ _ rfl rfl hbB rfl size_sp.out (by simp [Value.oneCell']) ?_)
            intro w18 hb18 hu18
            obtain ⟨x0, x1, x2, x3, x4, x5⟩ := cells6 hb18
            have hL18 := hL.beside hu18 hnF (by omega)
            have hK18 : Kp w F w18 _ := ⟨hK.upd.trans hu18 (fun j hj e => by (have : j = w.heap.size + 1 := e); omega), hK.own⟩
            clear hL hK hbB hu18 hb18
            go_wp2_with fail
            refine bodyPost_ret (v := .tuple #[.agg #[.int .i64 0, .int .i64 0, .int .i64 0, .int .i64 0, .int .i64 0, .int .i64 0], .int .i64 e5]) (by simp [results, Try.results19, go_sem, x0, x1, x2, x3, x4, x5]; try rfl) rfl ⟨by rw [hres.out]; rfl, _, by rw [hres.out]; exact hL18, hK18⟩
        · have hres := Lib.hid (hsw.out he4)
          have he42 : (e4 == 0) = false := by simp [he4]
          have he43 : (e4 != 0) = true := by simp [he4]
          replace he4 := Lib.hid he4
          have hL := hL4
          have hnF := hnF4
          clear hsw hsf hso hL4
          go_wp2_with ((with_reducible (show wpList _ _ _ (⟨_, Op.store _ _ _, _, _, _, _⟩ :: _) _ _)); refine storeB_list rfl 23 _ _ rfl (w.heap.size + 1) #[.int .i64 0, .int .i64 0, .int .i64 0, .int .i64 0, .int .i64 0, .int .i64 0] _ _ rfl rfl hbB rfl size_sp.out (by simp [Value.oneCell']) ?_)
          intro w18 hb18 hu18
          obtain ⟨x0, x1, x2, x3, x4, x5⟩ := cells6 hb18
          have hL18 := hL.beside hu18 hnF (by omega)
          have hK18 : Kp w F w18 _ := ⟨hK.upd.trans hu18 (fun j hj e => by (have : j = w.heap.size + 1 := e); omega), hK.own⟩
          clear hL hK hbB hu18 hb18
          go_wp2_with fail
          refine bodyPost_ret (v := .tuple #[.agg #[.int .i64 0, .int .i64 0, .int .i64 0, .int .i64 0, .int .i64 0, .int .i64 0], .int .i64 e4]) (by simp [results, Try.results19, go_sem, x0, x1, x2, x3, x4, x5]; try rfl) rfl ⟨by rw [hres.out]; rfl, _, by rw [hres.out]; exact hL18, hK18⟩
      · have hres : Hid (saveR d ⟨g, r, st, ep, la, ma⟩ = (d, Sp.none, 2)) := Lib.hid (save_arg (by rw [hfr]; simp) hG.out hgm hsp)
        rw [bytesR_no hsp] at hby
        unfold spV at hby
        simp only at hby
        clear hfr hsp
        replace hgm := Lib.hid hgm
        go_enter Try.func19, Try.ntmps19
        go_wp2_with fail
        refine (hfi.out _ (((Upd.refl Non w).then_alloc _).then_alloc _)).mono ?_
        rintro en w1 ⟨rfl, hX⟩
        have hbA := (Upd.alloc Non w1 (.cells #[.int .i64 xg, .int .i64 xr, .int .i64 xst, .int .i64 xep, .int .i64 xl, .int .i64 xm] 23)).heap (hX.heap (heap_alloc2_old w (.cells #[.int .i64 g, .int .i64 r, .int .i64 st, .int .i64 ep, .int .i64 la, .int .i64 ma] 23) (.cells #[.int .i64 0, .int .i64 0, .int .i64 0, .int .i64 0, .int .i64 0, .int .i64 0] 23)) fun h => h) fun h => h
        have hbB := (Upd.alloc Non w1 (.cells #[.int .i64 xg, .int .i64 xr, .int .i64 xst, .int .i64 xep, .int .i64 xl, .int .i64 xm] 23)).heap (hX.heap (heap_alloc2_new w (.cells #[.int .i64 g, .int .i64 r, .int .i64 st, .int .i64 ep, .int .i64 la, .int .i64 ma] 23) (.cells #[.int .i64 0, .int .i64 0, .int .i64 0, .int .i64 0, .int .i64 0, .int .i64 0] 23)) fun h => h) fun h => h
        have hU : Upd Non w (w1.alloc (.cells #[.int .i64 xg, .int .i64 xr, .int .i64 xst, .int .i64 xep, .int .i64 xl, .int .i64 xm] 23)) := ((((Upd.refl Non w).then_alloc _).then_alloc _).trans hX fun _ _ h => h).then_alloc _
        have hz1 : w.heap.size + 2 ≤ w1.heap.size := by have := hX.size; simp at this; omega
        have hnF : ¬ F (w.heap.size + 1) := fun e => by have := hFlt _ e; omega
        have hnA : ¬ F w.heap.size := fun e => by have := hFlt _ e; omega
        clear hX hfi
        have zf := (cells_of hbA).2 0
        have zc := (cells_of hbA).1 0
        have hbS := set_blk (j := 0) hbA (.int .i64 G)
        have hUS : Upd Non w ((w1.alloc (.cells #[.int .i64 xg, .int .i64 xr, .int .i64 xst, .int .i64 xep, .int .i64 xl, .int .i64 xm] 23)).setCell ⟨w.heap.size, 0, none⟩ (.int .i64 G)) := hU.then_setCell (fun h => absurd h (by show ¬ w.heap.size < w.heap.size; omega)) _
        have hBS := (Upd.setCell (S := fun k => k = w.heap.size) (a := ⟨w.heap.size, 0, none⟩) (w1.alloc (.cells #[.int .i64 xg, .int .i64 xr, .int .i64 xst, .int .i64 xep, .int .i64 xl, .int .i64 xm] 23)) rfl (.int .i64 G)).heap hbB (fun e => by (have : w.heap.size + 1 = w.heap.size := e); omega)
        obtain ⟨y0, y1, y2, y3, y4, y5⟩ := cells6 hbS
        go_wp2_with fail
        refine (hby.out _).mono ?_
        rintro en w3 ⟨v, rfl, hB, hv, hu⟩
        clear hbA hbB hU
        obtain ⟨hbA, hbB, hU⟩ := And.intro hbS (And.intro hBS hUS)
        clear hbS hBS hUS
        have hL := h.non hU
        have hK : Kp w F _ F := Kp.non hU
        replace hbA := hu.heap hbA fun h => h
        replace hbB := hu.heap hbB fun h => h
        replace hL := hL.non hu
        replace hK := hK.trans (Kp.non hu)
        obtain ⟨va, vn, vc, rfl⟩ : ∃ a n c, v = .slice a n c := by obtain ⟨a, c, e⟩ := bytes_form hB; exact ⟨_, _, _, e⟩
        clear hu hB hv y0 y1 y2 y3 y4 y5
        go_wp2_with ((with_reducible (show wpList _ _ _ (⟨_, Op.store _ _ _, _, _, _, _⟩ :: _) _ _)); refine storeB_list rfl 23 _ _ rfl (w.heap.size + 1) #[.int .i64 0, .int .i64 0, .int .i64 0, .int .i64 0, .int .i64 0, .int .i64 0] _ _ rfl rfl hbB rfl size_sp.out (by simp [Value.oneCell']) ?_)
        intro w18 hb18 hu18
        obtain ⟨x0, x1, x2, x3, x4, x5⟩ := cells6 hb18
        have hL18 := hL.beside hu18 hnF (by omega)
        have hK18 : Kp w F w18 _ := ⟨hK.upd.trans hu18 (fun j hj e => by (have : j = w.heap.size + 1 := e); omega), hK.own⟩
        clear hL hK hbB hu18 hb18
        go_wp2_with fail
        refine bodyPost_ret (v := .tuple #[.agg #[.int .i64 0, .int .i64 0, .int .i64 0, .int .i64 0, .int .i64 0, .int .i64 0], .int .i64 2]) (by simp [results, Try.results19, go_sem, x0, x1, x2, x3, x4, x5]; try rfl) rfl ⟨by rw [hres.out]; rfl, _, by rw [hres.out]; exact hL18, hK18⟩
  · by_cases he4 : xe = 4
    · subst he4
      have hG : Hid (nextG d = 0) := Lib.hid (by unfold nextG; rw [hfr]; rfl)
      have hGb : (0 : Int) ≤ 0 ∧ (0 : Int) ≤ 1152921504606846977 := by decide
      clear hok he0
      have hgm : ¬ (1152921504606846976 : Int) < 0 := by decide
      have hgm2 : decide ((1152921504606846976 : Int) < 0) = false := decide_eq_false hgm
      have hby := Lib.hid (fun w' => yBytes ⟨0, r, st, ep, la, ma⟩ w')
      by_cases hsp : SpOk ⟨0, r, st, ep, la, ma⟩
      · have hsw : Hid ((d.write 0 (putS ⟨0, r, st, ep, la, ma⟩)).2 ≠ 0 → saveR d ⟨g, r, st, ep, la, ma⟩ = _) := Lib.hid (fun h3 => save_w (s := ⟨g, r, st, ep, la, ma⟩) (by rw [hfr]; simp) hG.out hgm hsp h3)
        have hsf : Hid ((d.write 0 (putS ⟨0, r, st, ep, la, ma⟩)).2 = 0 → (d.write 0 (putS ⟨0, r, st, ep, la, ma⟩)).1.flush.2 ≠ 0 → saveR d ⟨g, r, st, ep, la, ma⟩ = _) := Lib.hid (fun h3 h4 => save_f (s := ⟨g, r, st, ep, la, ma⟩) (by rw [hfr]; simp) hG.out hgm hsp h3 h4)
        have hso : Hid ((d.write 0 (putS ⟨0, r, st, ep, la, ma⟩)).2 = 0 → (d.write 0 (putS ⟨0, r, st, ep, la, ma⟩)).1.flush.2 = 0 → saveR d ⟨g, r, st, ep, la, ma⟩ = _) := Lib.hid (fun h3 h4 => save_ok (s := ⟨g, r, st, ep, la, ma⟩) (by rw [hfr]; simp) hG.out hgm hsp h3 h4)
        rw [bytesR_yes hsp] at hby
        have hwf := write_full d 0 (p := putS ⟨0, r, st, ep, la, ma⟩) (by rw [putS_length]; decide)
        have hwP := write_P d 0 (putS ⟨0, r, st, ep, la, ma⟩)
        unfold Sp.at_ at hsw hsf hso
        unfold spV at hby
        simp only at hby hsw hsf hso
        try simp only [show ((0 : Int) % 2) = 0 from rfl] at hsw hsf hso
        clear hfr hsp
        replace hgm := Lib.hid hgm
        go_enter Try.func19, Try.ntmps19
        go_wp2_with fail
        refine (hfi.out _ (((Upd.refl Non w).then_alloc _).then_alloc _)).mono ?_
        rintro en w1 ⟨rfl, hX⟩
        have hbA := (Upd.alloc Non w1 (.cells #[.int .i64 xg, .int .i64 xr, .int .i64 xst, .int .i64 xep, .int .i64 xl, .int .i64 xm] 23)).heap (hX.heap (heap_alloc2_old w (.cells #[.int .i64 g, .int .i64 r, .int .i64 st, .int .i64 ep, .int .i64 la, .int .i64 ma] 23) (.cells #[.int .i64 0, .int .i64 0, .int .i64 0, .int .i64 0, .int .i64 0, .int .i64 0] 23)) fun h => h) fun h => h
        have hbB := (Upd.alloc Non w1 (.cells #[.int .i64 xg, .int .i64 xr, .int .i64 xst, .int .i64 xep, .int .i64 xl, .int .i64 xm] 23)).heap (hX.heap (heap_alloc2_new w (.cells #[.int .i64 g, .int .i64 r, .int .i64 st, .int .i64 ep, .int .i64 la, .int .i64 ma] 23) (.cells #[.int .i64 0, .int .i64 0, .int .i64 0, .int .i64 0, .int .i64 0, .int .i64 0] 23)) fun h => h) fun h => h
        have hU : Upd Non w (w1.alloc (.cells #[.int .i64 xg, .int .i64 xr, .int .i64 xst, .int .i64 xep, .int .i64 xl, .int .i64 xm] 23)) := ((((Upd.refl Non w).then_alloc _).then_alloc _).trans hX fun _ _ h => h).then_alloc _
        have hz1 : w.heap.size + 2 ≤ w1.heap.size := by have := hX.size; simp at this; omega
        have hnF : ¬ F (w.heap.size + 1) := fun e => by have := hFlt _ e; omega
        have hnA : ¬ F w.heap.size := fun e => by have := hFlt _ e; omega
        clear hX hfi
        have zf := (cells_of hbA).2 0
        have zc := (cells_of hbA).1 0
        have hbS := set_blk (j := 0) hbA (.int .i64 0)
        have hUS : Upd Non w ((w1.alloc (.cells #[.int .i64 xg, .int .i64 xr, .int .i64 xst, .int .i64 xep, .int .i64 xl, .int .i64 xm] 23)).setCell ⟨w.heap.size, 0, none⟩ (.int .i64 0)) := hU.then_setCell (fun h => absurd h (by show ¬ w.heap.size < w.heap.size; omega)) _
        have hBS := (Upd.setCell (S := fun k => k = w.heap.size) (a := ⟨w.heap.size, 0, none⟩) (w1.alloc (.cells #[.int .i64 xg, .int .i64 xr, .int .i64 xst, .int .i64 xep, .int .i64 xl, .int .i64 xm] 23)) rfl (.int .i64 0)).heap hbB (fun e => by (have : w.heap.size + 1 = w.heap.size := e); omega)
        obtain ⟨y0, y1, y2, y3, y4, y5⟩ := cells6 hbS
        go_wp2_with fail
        refine (hby.out _).mono ?_
        rintro en w3 ⟨v, rfl, hB, hv, hu⟩
        clear hbA hbB hU
        obtain ⟨hbA, hbB, hU⟩ := And.intro hbS (And.intro hBS hUS)
        clear hbS hBS hUS
        have hL := h.non hU
        have hK : Kp w F _ F := Kp.non hU
        replace hbA := hu.heap hbA fun h => h
        replace hbB := hu.heap hbB fun h => h
        replace hL := hL.non hu
        replace hK := hK.trans (Kp.non hu)
        have hzS : w.heap.size + 2 ≤ w3.heap.size := by have := hu.size; simp at this; omega
        have hvF : ∀ k, At v k → ¬ F k := fun k hk hF => by have h1 := hv k hk; have h2 := hFlt k hF; simp at h1; omega
        obtain ⟨va, vn, vc, rfl⟩ : ∃ a n c, v = .slice a n c := by obtain ⟨a, c, e⟩ := bytes_form hB; exact ⟨_, _, _, e⟩
        clear hu y0 y1 y2 y3 y4 y5 zf zc hv
        obtain ⟨y0, y1, y2, y3, y4, y5⟩ := cells6 hbA
        go_wp2_with fail
        refine (lvWrite hL (by omega) 0 _ _ hB hvF).mono ?_
        rintro en w4 ⟨rfl, F4, hL4, hK4⟩
        rw [hwf] at hL4 ⊢
        clear hwf hL hB hvF
        generalize d.write 0 (putS ⟨0, r, st, ep, la, ma⟩) = wr at *
        obtain ⟨d4, e4⟩ := wr
        simp only at hsw hsf hso hL4 hwP
        replace hbA := hK4.upd.heap hbA hnA
        replace hbB := hK4.upd.heap hbB hnF
        have hnF4 : ¬ F4 (w.heap.size + 1) := fun e => (hK4.own _ e).elim hnF (fun h => by omega)
        have hnA4 : ¬ F4 w.heap.size := fun e => (hK4.own _ e).elim hnA (fun h => by omega)
        have hz4 := hK4.upd.size
        replace hK := hK.trans hK4
        clear y0 y1 y2 y3 y4 y5 hK4 hnF hnA
        obtain ⟨y0, y1, y2, y3, y4, y5⟩ := cells6 hbA
        by_cases he4 : e4 = 0
        · subst he4
          replace hsf := Lib.hid (hsf.out rfl)
          replace hso := Lib.hid (hso.out rfl)
          clear hsw
          go_wp2_with fail
          refine (lvFlush hL4 (by omega)).mono ?_
          rintro en w5 ⟨rfl, F5, hL5, hK5⟩
          clear hL4
          generalize d4.flush = fr at *
          obtain ⟨d5, e5⟩ := fr
          simp only at hsf hso hL5
          replace hbA := hK5.upd.heap hbA hnA4
          replace hbB := hK5.upd.heap hbB hnF4
          have hnF : ¬ F5 (w.heap.size + 1) := fun e => (hK5.own _ e).elim hnF4 (fun h => by omega)
          replace hK := hK.trans hK5
          have hL := hL5
          clear y0 y1 y2 y3 y4 y5 hK5 hnF4 hnA4 hL5
          obtain ⟨y0, y1, y2, y3, y4, y5⟩ := cells6 hbA
          by_cases he5 : e5 = 0
          · subst he5
            have hres := Lib.hid (hso.out rfl)
            clear hso hsf
            go_wp2_with ((with_reducible (show wpList _ _ _ (⟨_, Op.store _ _ _, _, _, _, _⟩ :: _) _ _)); refine storeB_list rfl 23 _ _ rfl (w.heap.size + 1) #[.int .i64 0, .int .i64 r, .int .i64 st, .int .i64 ep, .int .i64 la, .int .i64 ma] _ _ rfl rfl hbB rfl size_sp.out (by simp [Value.oneCell']) ?_)
            intro w18 hb18 hu18
            obtain ⟨x0, x1, x2, x3, x4, x5⟩ := cells6 hb18
            have hL18 := hL.beside hu18 hnF (by omega)
            have hK18 : Kp w F w18 _ := ⟨hK.upd.trans hu18 (fun j hj e => by (have : j = w.heap.size + 1 := e); omega), hK.own⟩
            clear hL hK hbB hu18 hb18
            go_wp2_with fail
            refine bodyPost_ret (v := .tuple #[.agg #[.int .i64 0, .int .i64 r, .int .i64 st, .int .i64 ep, .int .i64 la, .int .i64 ma], .int .i64 0]) (by simp [results, Try.results19, go_sem, x0, x1, x2, x3, x4, x5]; try rfl) rfl ⟨by rw [hres.out]; rfl, _, by rw [hres.out]; exact hL18, hK18⟩
          · have hres := Lib.hid (hsf.out he5)
            have he52 : (e5 != 0) = true := by simp [he5]
            replace he5 := Lib.hid he5
            clear hso hsf
            go_wp2_with ((with_reducible (show wpList _ _ _ (⟨_, Op.store _ _ _, _, _, _, _⟩ :: _) _ _)); refine storeB_list rfl 23 _ _ rfl (w.heap.size + 1) #[.int .i64 0, .int .i64 0, .int .i64 0, .int .i64 0, .int .i64 0, .int .i64 0] _ _ rfl rfl hbB rfl size_sp.out (by simp [Value.oneCell']) ?_)
            intro w18 hb18 hu18
            obtain ⟨x0, x1, x2, x3, x4, x5⟩ := cells6 hb18
            have hL18 := hL.beside hu18 hnF (by omega)
            have hK18 : Kp w F w18 _ := ⟨hK.upd.trans hu18 (fun j hj e => by (have : j = w.heap.size + 1 := e); omega), hK.own⟩
            clear hL hK hbB hu18 hb18
            go_wp2_with fail
            refine bodyPost_ret (v := .tuple #[.agg #[.int .i64 0, .int .i64 0, .int .i64 0, .int .i64 0, .int .i64 0, .int .i64 0], .int .i64 e5]) (by simp [results, Try.results19, go_sem, x0, x1, x2, x3, x4, x5]; try rfl) rfl ⟨by rw [hres.out]; rfl, _, by rw [hres.out]; exact hL18, hK18⟩
        · have hres := Lib.hid (hsw.out he4)
          have he42 : (e4 == 0) = false := by simp [he4]
          have he43 : (e4 != 0) = true := by simp [he4]
          replace he4 := Lib.hid he4
          have hL := hL4
          have hnF := hnF4
          clear hsw hsf hso hL4
          go_wp2_with ((with_reducible (show wpList _ _ _ (⟨_, Op.store _ _ _, _, _, _, _⟩ :: _) _ _)); refine storeB_list rfl 23 _ _ rfl (w.heap.size + 1) #[.int .i64 0, .int .i64 0, .int .i64 0, .int .i64 0, .int .i64 0, .int .i64 0] _ _ rfl rfl hbB rfl size_sp.out (by simp [Value.oneCell']) ?_)
          intro w18 hb18 hu18
          obtain ⟨x0, x1, x2, x3, x4, x5⟩ := cells6 hb18
          have hL18 := hL.beside hu18 hnF (by omega)
          have hK18 : Kp w F w18 _ := ⟨hK.upd.trans hu18 (fun j hj e => by (have : j = w.heap.size + 1 := e); omega), hK.own⟩
          clear hL hK hbB hu18 hb18
          go_wp2_with fail
          refine bodyPost_ret (v := .tuple #[.agg #[.int .i64 0, .int .i64 0, .int .i64 0, .int .i64 0, .int .i64 0, .int .i64 0], .int .i64 e4]) (by simp [results, Try.results19, go_sem, x0, x1, x2, x3, x4, x5]; try rfl) rfl ⟨by rw [hres.out]; rfl, _, by rw [hres.out]; exact hL18, hK18⟩
      · have hres : Hid (saveR d ⟨g, r, st, ep, la, ma⟩ = (d, Sp.none, 2)) := Lib.hid (save_arg (by rw [hfr]; simp) hG.out hgm hsp)
        rw [bytesR_no hsp] at hby
        unfold spV at hby
        simp only at hby
        clear hfr hsp
        replace hgm := Lib.hid hgm
        go_enter Try.func19, Try.ntmps19
        go_wp2_with fail
        refine (hfi.out _ (((Upd.refl Non w).then_alloc _).then_alloc _)).mono ?_
        rintro en w1 ⟨rfl, hX⟩
        have hbA := (Upd.alloc Non w1 (.cells #[.int .i64 xg, .int .i64 xr, .int .i64 xst, .int .i64 xep, .int .i64 xl, .int .i64 xm] 23)).heap (hX.heap (heap_alloc2_old w (.cells #[.int .i64 g, .int .i64 r, .int .i64 st, .int .i64 ep, .int .i64 la, .int .i64 ma] 23) (.cells #[.int .i64 0, .int .i64 0, .int .i64 0, .int .i64 0, .int .i64 0, .int .i64 0] 23)) fun h => h) fun h => h
        have hbB := (Upd.alloc Non w1 (.cells #[.int .i64 xg, .int .i64 xr, .int .i64 xst, .int .i64 xep, .int .i64 xl, .int .i64 xm] 23)).heap (hX.heap (heap_alloc2_new w (.cells #[.int .i64 g, .int .i64 r, .int .i64 st, .int .i64 ep, .int .i64 la, .int .i64 ma] 23) (.cells #[.int .i64 0, .int .i64 0, .int .i64 0, .int .i64 0, .int .i64 0, .int .i64 0] 23)) fun h => h) fun h => h
        have hU : Upd Non w (w1.alloc (.cells #[.int .i64 xg, .int .i64 xr, .int .i64 xst, .int .i64 xep, .int .i64 xl, .int .i64 xm] 23)) := ((((Upd.refl Non w).then_alloc _).then_alloc _).trans hX fun _ _ h => h).then_alloc _
        have hz1 : w.heap.size + 2 ≤ w1.heap.size := by have := hX.size; simp at this; omega
        have hnF : ¬ F (w.heap.size + 1) := fun e => by have := hFlt _ e; omega
        have hnA : ¬ F w.heap.size := fun e => by have := hFlt _ e; omega
        clear hX hfi
        have zf := (cells_of hbA).2 0
        have zc := (cells_of hbA).1 0
        have hbS := set_blk (j := 0) hbA (.int .i64 0)
        have hUS : Upd Non w ((w1.alloc (.cells #[.int .i64 xg, .int .i64 xr, .int .i64 xst, .int .i64 xep, .int .i64 xl, .int .i64 xm] 23)).setCell ⟨w.heap.size, 0, none⟩ (.int .i64 0)) := hU.then_setCell (fun h => absurd h (by show ¬ w.heap.size < w.heap.size; omega)) _
        have hBS := (Upd.setCell (S := fun k => k = w.heap.size) (a := ⟨w.heap.size, 0, none⟩) (w1.alloc (.cells #[.int .i64 xg, .int .i64 xr, .int .i64 xst, .int .i64 xep, .int .i64 xl, .int .i64 xm] 23)) rfl (.int .i64 0)).heap hbB (fun e => by (have : w.heap.size + 1 = w.heap.size := e); omega)
        obtain ⟨y0, y1, y2, y3, y4, y5⟩ := cells6 hbS
        go_wp2_with fail
        refine (hby.out _).mono ?_
        rintro en w3 ⟨v, rfl, hB, hv, hu⟩
        clear hbA hbB hU
        obtain ⟨hbA, hbB, hU⟩ := And.intro hbS (And.intro hBS hUS)
        clear hbS hBS hUS
        have hL := h.non hU
        have hK : Kp w F _ F := Kp.non hU
        replace hbA := hu.heap hbA fun h => h
        replace hbB := hu.heap hbB fun h => h
        replace hL := hL.non hu
        replace hK := hK.trans (Kp.non hu)
        obtain ⟨va, vn, vc, rfl⟩ : ∃ a n c, v = .slice a n c := by obtain ⟨a, c, e⟩ := bytes_form hB; exact ⟨_, _, _, e⟩
        clear hu hB hv y0 y1 y2 y3 y4 y5
        go_wp2_with ((with_reducible (show wpList _ _ _ (⟨_, Op.store _ _ _, _, _, _, _⟩ :: _) _ _)); refine storeB_list rfl 23 _ _ rfl (w.heap.size + 1) #[.int .i64 0, .int .i64 0, .int .i64 0, .int .i64 0, .int .i64 0, .int .i64 0] _ _ rfl rfl hbB rfl size_sp.out (by simp [Value.oneCell']) ?_)
        intro w18 hb18 hu18
        obtain ⟨x0, x1, x2, x3, x4, x5⟩ := cells6 hb18
        have hL18 := hL.beside hu18 hnF (by omega)
        have hK18 : Kp w F w18 _ := ⟨hK.upd.trans hu18 (fun j hj e => by (have : j = w.heap.size + 1 := e); omega), hK.own⟩
        clear hL hK hbB hu18 hb18
        go_wp2_with fail
        refine bodyPost_ret (v := .tuple #[.agg #[.int .i64 0, .int .i64 0, .int .i64 0, .int .i64 0, .int .i64 0, .int .i64 0], .int .i64 2]) (by simp [results, Try.results19, go_sem, x0, x1, x2, x3, x4, x5]; try rfl) rfl ⟨by rw [hres.out]; rfl, _, by rw [hres.out]; exact hL18, hK18⟩
    · have hres : Hid (saveR d ⟨g, r, st, ep, la, ma⟩ = (d, Sp.none, xe)) := Lib.hid (by unfold saveR; rw [hfr, if_pos ⟨he0, he4⟩])
      have hb0 : (xe == 0) = false := by simp [he0]
      have hb4 : (xe == 4) = false := by simp [he4]
      clear hok hfr he0 he4
      go_enter Try.func19, Try.ntmps19
      go_wp2_with fail
      refine (hfi.out _ (((Upd.refl Non w).then_alloc _).then_alloc _)).mono ?_
      rintro en w1 ⟨rfl, hX⟩
      have hbA := (Upd.alloc Non w1 (.cells #[.int .i64 xg, .int .i64 xr, .int .i64 xst, .int .i64 xep, .int .i64 xl, .int .i64 xm] 23)).heap (hX.heap (heap_alloc2_old w (.cells #[.int .i64 g, .int .i64 r, .int .i64 st, .int .i64 ep, .int .i64 la, .int .i64 ma] 23) (.cells #[.int .i64 0, .int .i64 0, .int .i64 0, .int .i64 0, .int .i64 0, .int .i64 0] 23)) fun h => h) fun h => h
      have hbB := (Upd.alloc Non w1 (.cells #[.int .i64 xg, .int .i64 xr, .int .i64 xst, .int .i64 xep, .int .i64 xl, .int .i64 xm] 23)).heap (hX.heap (heap_alloc2_new w (.cells #[.int .i64 g, .int .i64 r, .int .i64 st, .int .i64 ep, .int .i64 la, .int .i64 ma] 23) (.cells #[.int .i64 0, .int .i64 0, .int .i64 0, .int .i64 0, .int .i64 0, .int .i64 0] 23)) fun h => h) fun h => h
      have hU : Upd Non w (w1.alloc (.cells #[.int .i64 xg, .int .i64 xr, .int .i64 xst, .int .i64 xep, .int .i64 xl, .int .i64 xm] 23)) := ((((Upd.refl Non w).then_alloc _).then_alloc _).trans hX fun _ _ h => h).then_alloc _
      have hz1 : w.heap.size + 2 ≤ w1.heap.size := by have := hX.size; simp at this; omega
      have hnF : ¬ F (w.heap.size + 1) := fun e => by have := hFlt _ e; omega
      have hnA : ¬ F w.heap.size := fun e => by have := hFlt _ e; omega
      clear hX hfi
      have hL := h.non hU
      have hK : Kp w F _ F := Kp.non hU
      clear hbA
      go_wp2_with ((with_reducible (show wpList _ _ _ (⟨_, Op.store _ _ _, _, _, _, _⟩ :: _) _ _)); refine storeB_list rfl 23 _ _ rfl (w.heap.size + 1) #[.int .i64 0, .int .i64 0, .int .i64 0, .int .i64 0, .int .i64 0, .int .i64 0] _ _ rfl rfl hbB rfl size_sp.out (by simp [Value.oneCell']) ?_)
      intro w18 hb18 hu18
      obtain ⟨x0, x1, x2, x3, x4, x5⟩ := cells6 hb18
      have hL18 := hL.beside hu18 hnF (by omega)
      have hK18 : Kp w F w18 _ := ⟨hK.upd.trans hu18 (fun j hj e => by (have : j = w.heap.size + 1 := e); omega), hK.own⟩
      clear hL hK hbB hu18 hb18
      go_wp2_with fail
      refine bodyPost_ret (v := .tuple #[.agg #[.int .i64 0, .int .i64 0, .int .i64 0, .int .i64 0, .int .i64 0, .int .i64 0], .int .i64 xe]) (by simp [results, Try.results19, go_sem, x0, x1, x2, x3, x4, x5]; try rfl) rfl ⟨by rw [hres.out]; rfl, _, by rw [hres.out]; exact hL18, hK18⟩
end Go.Proofs.Ytgdkgnolkepgdaa
