/- The walk over SuperPlays (printed by gen/mkplays11.py). -/
import Derived.Test.YtgdkgnolkepgdaaMSuX
namespace Go.Proofs.Ytgdkgnolkepgdaa
open Go.RowKit Go.Amb Go.Shelf
set_option linter.unusedVariables false
set_option linter.unusedSimpArgs false
set_option maxRecDepth 100000
attribute [local go_sem ↓] Go.wp_at_zero Go.wp_at_succ
theorem lit_pn {w : World} {r : Dk} {kv : Value} {a : Option Addr} {n c : Nat} (h : RAt w r kv (.slice a n c)) : n = r.P.length := by
  obtain ⟨_, a', c', e, -⟩ := h.p
  injection e
theorem lit_dd {r : Dk} {kv pv : Value} {x0 x1 x2 x3 : Value} {dd : Bool} (h : rfv r kv pv = .agg #[x0, x1, x2, x3, .bool dd]) : dd = r.dd := by
  unfold rfv at h
  have := Value.agg.inj h
  simp at this
  exact this.2.2.2.2.symm
theorem playsOut (n : Int) (va : Option Addr) (q vc : Nat) (w : World) (h : n < 1 ∨ 20 < n ∨ 100 < q) : Calls Try.prog 9 #[.int .i64 n, .slice va q vc] w (Ret (.bool true) w) := by
  have hlv := Lib.hid lives11
  have hU := Upd.refl Non w
  by_cases h1 : n < 1
  · clear h
    go_enter Try.func9, Try.ntmps9
    go_wp2_with fail
    refine (hlv.out _).mono ?_
    rintro en w9 ⟨rfl, hu⟩
    go_wp2_with fail
    go_ret
    exact ⟨rfl, hU.trans hu fun _ _ h => h⟩
  · have h1b : decide (n < 1) = false := decide_eq_false h1
    by_cases h2 : 20 < n
    · clear h
      go_enter Try.func9, Try.ntmps9
      go_wp2_with fail
      refine (hlv.out _).mono ?_
      rintro en w9 ⟨rfl, hu⟩
      go_wp2_with fail
      go_ret
      exact ⟨rfl, hU.trans hu fun _ _ h => h⟩
    · have h2b : decide (20 < n) = false := decide_eq_false h2
      have h3 : (100 : Int) < (q : Int) := by omega
      clear h
      go_enter Try.func9, Try.ntmps9
      go_wp2_with fail
      refine (hlv.out _).mono ?_
      rintro en w9 ⟨rfl, hu⟩
      go_wp2_with fail
      go_ret
      exact ⟨rfl, hU.trans hu fun _ _ h => h⟩
set_option maxHeartbeats 8000000 in
theorem playsIn (n : Nat) (h1 : 1 ≤ n) (h2 : n ≤ 20) (v : Value) (l : List Ac) (w : World) (hA : Acs w v l) (hl : l.length ≤ 100) : Calls Try.prog 9 #[.int .i64 (n : Int), v] w (Ret (.bool true) w) := by
  have hlv := Lib.hid lives11
  have hneq := sup_neqG
  have hgn := sup_guard .neq
  have hs5 := Lib.hid size_disk5
  have hi8 : Hid ((Try.prog.info? 3).map (fun i => (i.zero, i.size, i.bytes)) = some (some (.int .i64 0), 1, 8)) := Lib.hid (by kernel_rfl)
  obtain ⟨va0, vc0, rfl, hlm, hlc⟩ := hA.form
  clear hA hlm
  replace hlc := Lib.hid hlc
  have h1b : decide ((n : Int) < 1) = false := decide_eq_false (by omega)
  have h2b : decide ((20 : Int) < (n : Int)) = false := decide_eq_false (by omega)
  have h3b : decide ((100 : Int) < (l.length : Int)) = false := decide_eq_false (by omega)
  go_enter Try.func9, Try.ntmps9
  go_wp2_with fail
  refine (lvNew n h1 (by omega) w).mono ?_
  rintro en w1 ⟨D, F1, rfl, hL⟩
  have cN := Lib.hid (bthNew n h1 (by omega) hL)
  go_wp2_with fail
  refine cN.out.mono ?_
  rintro en w2 ⟨m0, ka0, kn0, kc0, pa0, pn0, pc0, f0, dd0, rfl, hlit, hB2, hu⟩
  replace hB2 := Lib.hid hB2
  replace hlit := Lib.hid hlit
  clear hu cN hL
  go_wp2_with ((with_reducible (show wpList _ _ _ (⟨_, Op.store _ _ _, _, _, _, _⟩ :: _) _ _)); refine storeB_list rfl 64 _ _ rfl w2.heap.size #[.int .i64 m0, .slice ka0 kn0 kc0, .slice pa0 pn0 pc0, .int .i64 f0, .bool dd0] _ _ rfl rfl (heap_alloc_new w2 (.cells #[.int .i64 0, .slice none 0 0, .slice none 0 0, .int .i64 0, .bool false] 64)) rfl hs5.out (by simp [Value.oneCell']) ?_)
  intro w3 hX hu
  have hA2 := Upd.alloc Non w2 (.cells #[.int .i64 0, .slice none 0 0, .slice none 0 0, .int .i64 0, .bool false] 64)
  have hB3 : Bth (fun q => q = w2.heap.size) w w3 D F1 (Dk.new n) ⟨List.replicate n [], [], -1, false⟩ (.slice ka0 kn0 kc0) (.slice pa0 pn0 pc0) := ((hB2.out.grow hA2).upd hu (fun k hk => by subst hk; exact .inr ⟨Nat.le_refl _, by simp⟩)).sub (fun k hk => by subst hk; exact .inr ⟨Nat.le_refl _, by simp⟩)
  have hsame := same_new n
  have hP0 : (Dk.new n).P.length ≤ 0 := Nat.le_refl _
  clear hB2 hA2 hu h1b h2b h3b
  generalize w2.heap.size = M at *
  go_wp2_with fail
  go_loopw [9] (fun i wr => ∃ (k : Nat) (F : Nat → Prop) (d r : Dk) (kv pv : Value), i = .int .i64 (k : Int) ∧ k ≤ l.length ∧ Bth (fun q => q = M) w wr D F d r kv pv ∧ Same d r ∧ wr.heap[M]? = some (.cells (rc r kv pv) 64 (0, 0)) ∧ d.P.length ≤ k) (fun i _ => l.length - (intOf i).toNat)
  case atStart => exact ⟨0, F1, _, _, _, _, rfl, Nat.zero_le _, hB3, hsame, by rw [hX, ← Value.agg.inj hlit.out]; rfl, hP0⟩
  case round =>
    clear hB3 hsame hX hlit hP0
    obtain ⟨k, F, d, r, kv, pv, rfl, hk, hB, hS, hX, hP⟩ := hrel
    obtain ⟨m, ka, kn, kc, pa, pn, pc, f, dd, hlit, -, -⟩ := rfv_lit2 hB.rat
    have hkv : kv = .slice ka kn kc ∧ pv = .slice pa pn pc := by have := Value.agg.inj hlit; simp at this; exact ⟨this.2.1, this.2.2.1⟩
    obtain ⟨rfl, rfl⟩ := hkv
    rw [show rc r (.slice ka kn kc) (.slice pa pn pc) = #[.int .i64 m, .slice ka kn kc, .slice pa pn pc, .int .i64 f, .bool dd] from Value.agg.inj hlit] at hX
    by_cases hlt : k < l.length
    · have hkI : (k : Int) < (l.length : Int) := by omega
      obtain ⟨hgood, g, off, ea, hc⟩ := hlc.out k hlt
      subst ea
      have x0 : wr.cell? ⟨g, off + k * 10 + 0, none⟩ = some (.int .i64 l[k].kind) := hB.lv.upd.cell (hc 0 _ rfl) fun h => h
      have x1 : wr.cell? ⟨g, off + k * 10 + 1, none⟩ = some (.int .i64 l[k].i) := hB.lv.upd.cell (hc 1 _ rfl) fun h => h
      have x2 : wr.cell? ⟨g, off + k * 10 + 2, none⟩ = some (.string ⟨l[k].s.toArray⟩) := hB.lv.upd.cell (hc 2 _ rfl) fun h => h
      have x3 : wr.cell? ⟨g, off + k * 10 + 3, none⟩ = some (l[k].v) := hB.lv.upd.cell (hc 3 _ rfl) fun h => h
      have x4 : wr.cell? ⟨g, off + k * 10 + 4, none⟩ = some (.int .i64 l[k].p.gen) := hB.lv.upd.cell (hc 4 _ rfl) fun h => h
      have x5 : wr.cell? ⟨g, off + k * 10 + 5, none⟩ = some (.int .i64 l[k].p.root) := hB.lv.upd.cell (hc 5 _ rfl) fun h => h
      have x6 : wr.cell? ⟨g, off + k * 10 + 6, none⟩ = some (.int .i64 l[k].p.start) := hB.lv.upd.cell (hc 6 _ rfl) fun h => h
      have x7 : wr.cell? ⟨g, off + k * 10 + 7, none⟩ = some (.int .i64 l[k].p.epoch) := hB.lv.upd.cell (hc 7 _ rfl) fun h => h
      have x8 : wr.cell? ⟨g, off + k * 10 + 8, none⟩ = some (.int .i64 l[k].p.last) := hB.lv.upd.cell (hc 8 _ rfl) fun h => h
      have x9 : wr.cell? ⟨g, off + k * 10 + 9, none⟩ = some (.int .i64 l[k].p.mark) := hB.lv.upd.cell (hc 9 _ rfl) fun h => h
      clear hc
      generalize l[k] = a at *
      obtain ⟨kind, i9, s, v9, keep, ⟨sg, sr, ss, se, sl, sm⟩⟩ := a
      obtain ⟨hi, hI, hold⟩ := hgood
      simp only at hi hI hold
      obtain ⟨_, va, vc, rfl, -⟩ := id hI
      simp only at x0 x1 x2 x3 x4 x5 x6 x7 x8 x9
      simp only [Nat.add_zero] at x0
      skip
      try simp only [Nat.add_zero] at x0 x1 x2 x3 x4 x5 x6 x7 x8 x9
      clear hold
      replace hI : Hid (∀ w', Upd Non w w' → Ints w' (.slice va keep.length vc) keep) := Lib.hid (fun w' hu => hI.non hu)
      have hok := hB.lv.at_.ok
      have hAl := Upd.alloc Non wr (.cells #[.int .i64 kind, .int .i64 i9, .string ⟨s.toArray⟩, .slice va keep.length vc, .int .i64 sg, .int .i64 sr, .int .i64 ss, .int .i64 se, .int .i64 sl, .int .i64 sm] 68)
      have hzM := heap_lt hX
      have hBA : Bth (fun q => q = M ∨ q = wr.heap.size) w (wr.alloc (.cells #[.int .i64 kind, .int .i64 i9, .string ⟨s.toArray⟩, .slice va keep.length vc, .int .i64 sg, .int .i64 sr, .int .i64 ss, .int .i64 se, .int .i64 sl, .int .i64 sm] 68)) D F d r (.slice ka kn kc) (.slice pa pn pc) := (hB.grow hAl).sub (fun q hq => hq.elim .inl (fun e => .inr ⟨by omega, by simp; omega⟩))
      replace hX := hAl.heap hX fun h => h
      have hA := heap_alloc_new wr (.cells #[.int .i64 kind, .int .i64 i9, .string ⟨s.toArray⟩, .slice va keep.length vc, .int .i64 sg, .int .i64 sr, .int .i64 ss, .int .i64 se, .int .i64 sl, .int .i64 sm] 68)
      have hP6 : d.P.length ≤ 1000000 := by omega
      clear hB hAl
      obtain ⟨y0, y1, y2, y3, y4, y5, y6, y7, y8, y9⟩ := cells10 hA
      obtain ⟨c0, f0⟩ := cells_of hX
      by_cases h500 : 500 < s.length
      · have h500b : decide ((500 : Int) < (s.length : Int)) = true := decide_eq_true (by omega)
        have hU := hBA.lv.upd
        clear c0 f0
        go_wp2_with fail
        refine (hlv.out _).mono ?_
        rintro en w9 ⟨rfl, hu⟩
        go_wp2_with fail
        go_ret
        exact ⟨rfl, hU.trans hu fun _ _ h => h⟩
      have h500b : decide ((500 : Int) < (s.length : Int)) = false := decide_eq_false (by omega)
      by_cases h100 : 100 < keep.length
      · have h100b : decide ((100 : Int) < (keep.length : Int)) = true := decide_eq_true (by omega)
        have hU := hBA.lv.upd
        clear c0 f0
        go_wp2_with fail
        refine (hlv.out _).mono ?_
        rintro en w9 ⟨rfl, hu⟩
        go_wp2_with fail
        go_ret
        exact ⟨rfl, hU.trans hu fun _ _ h => h⟩
      have h100b : decide ((100 : Int) < (keep.length : Int)) = false := decide_eq_false (by omega)
      by_cases h1 : kind = 1
      · skip
        subst h1
        have cW := bthWrite hBA hS hok hP6 i9 s (by omega)
        rw [hlit] at cW
        have hS' := (hS.write i9 s).1
        have HPl : (d.write i9 s).1.P.length ≤ k + 1 := by have := write_P d i9 s; omega
        replace cW := Lib.hid cW
        go_wp2_with fail
        refine cW.out.mono ?_
        rintro en w5 ⟨m1, ka1, kn1, kc1, pa1, pn1, pc1, f1, dd1, rfl, HL, hB5, hu⟩
        replace hX := hu.heap hX fun h => h
        replace hA := hu.heap hA fun h => h
        have hFl : ∀ q, F q → q < w5.heap.size := hB5.lv.at_.lt
        have hzA : wr.heap.size < w5.heap.size := heap_lt hA
        have hzM : M < w5.heap.size := heap_lt hX
        replace hB5 := Lib.hid hB5
        replace HL := Lib.hid HL
        clear hu cW hBA
        clear y0 y1 y2 y3 y4 y5 y6 y7 y8 y9 c0 f0
        obtain ⟨y0, y1, y2, y3, y4, y5, y6, y7, y8, y9⟩ := cells10 hA
        obtain ⟨c0, f0⟩ := cells_of hX
        go_wp2_with ((with_reducible (show wpList _ _ _ (⟨_, Op.store _ _ _, _, _, _, _⟩ :: _) _ _)); refine storeB_list rfl 64 _ _ rfl w5.heap.size #[.int .i64 m1, .slice ka1 kn1 kc1, .slice pa1 pn1 pc1, .int .i64 f1, .bool dd1] _ _ rfl rfl (heap_alloc_new w5 (.cells #[.int .i64 0, .slice none 0 0, .slice none 0 0, .int .i64 0, .bool false] 64)) rfl hs5.out (by simp [Value.oneCell']) ?_)
        intro w6 hY hu
        have hN6 : Upd Non w5 w6 := (Upd.alloc Non w5 _).trans hu fun q hq h => by (have : q = w5.heap.size := h); omega
        replace hX := hN6.heap hX fun h => h
        replace hA := hN6.heap hA fun h => h
        have hB6 := hB5.out.non hN6
        have hz6 := hN6.size
        clear hu hB5 hN6
        clear y0 y1 y2 y3 y4 y5 y6 y7 y8 y9 c0 f0
        obtain ⟨y0, y1, y2, y3, y4, y5, y6, y7, y8, y9⟩ := cells10 hA
        obtain ⟨c0, f0⟩ := cells_of hX
        obtain ⟨c8, w8, hr8, hm8⟩ := run_tobytes (P := Try.prog) w6 9 24 5 Try.underlying9 Try.underlying24 Try.underlying5 s (by unfold maxLen; omega)
        have hv8 := hm8.bytes
        have hu8 := hm8.upd
        replace hX := hu8.heap hX fun h => h
        replace hA := hu8.heap hA fun h => h
        replace hY := hu8.heap hY fun h => h
        have cD := Lib.hid (dWrite (hB6.non hu8) hP6 i9 s _ hv8 (fun q hq hF => by have := hFl q hF; have := at_of hq; omega))
        have hMF := (hB6.bs M (.inl rfl)).1
        have hAF := (hB6.bs wr.heap.size (.inr rfl)).1
        have hYF : ¬ F w5.heap.size := fun e => by have := hFl _ e; omega
        clear hv8 hu8 hm8 hB6
        go_wp2_with fail
        refine cD.out.mono ?_
        rintro en w9 ⟨rfl, F9, hB9, hu⟩
        replace hX := hu.heap hX hMF
        replace hA := hu.heap hA hAF
        replace hY := hu.heap hY hYF
        replace hB9 := Lib.hid hB9
        clear hu cD hr8
        obtain ⟨v0, v1⟩ := cells_of hY
        obtain ⟨e9, he9⟩ : ∃ e9, (d.write i9 s).2 = e9 := ⟨_, rfl⟩
        simp only [he9]
        clear he9
        clear y0 y1 y2 y3 y4 y5 y6 y7 y8 y9 c0 f0
        go_wp2_with ((with_reducible (show wpList _ _ _ (⟨_, Op.store _ _ _, _, _, _, _⟩ :: _) _ _)); refine storeB_list rfl 64 _ _ rfl M #[.int .i64 m1, .slice ka1 kn1 kc1, .slice pa1 pn1 pc1, .int .i64 f1, .bool dd1] _ _ rfl rfl hX rfl hs5.out (by simp [Value.oneCell']) ?_)
        intro w10 HX hu
        have HB := hB9.out.upd hu fun q hq => .inl hq
        have HS := hS'
        replace HL := HL.out
        clear hu hX hA hY v0 v1 hB9 hS'
        have hpn : pn1 = ((d.write i9 s).1).P.length := by have := lit_pn HB.rat; rw [this, HS.p]
        have hdd : dd1 = ((d.write i9 s).1).dd := by have := lit_dd HL; rw [this, HS.dd]
        have cP : Hid (∀ w', Upd Non w10 w' → Calls Try.prog 29 #[.pointer (some ⟨D, 0, none⟩)] w' (Ret (.int .i64 (pn1 : Int)) w')) := Lib.hid (fun w' hu => by have := lPending (HB.non hu).lv.at_; rw [← hpn] at this; exact this)
        have cE : Hid (∀ w', Upd Non w10 w' → Calls Try.prog 30 #[.pointer (some ⟨D, 0, none⟩)] w' (Ret (.bool dd1) w')) := Lib.hid (fun w' hu => by have := lDead (HB.non hu).lv.at_; rw [← hdd] at this; exact this)
        replace HB := Lib.hid HB
        replace HS := Lib.hid HS
        replace HL := Lib.hid HL
        clear hpn hdd
        go_wp2_with fail
        refine wp_region_held_drew (S := (fun w' => w'.heap[M]? = some (.cells #[.int .i64 m1, .slice ka1 kn1 kc1, .slice pa1 pn1 pc1, .int .i64 f1, .bool dd1] 64 (0, 0)))) (by kernel_rfl) (by exact HX) (fun hHeld => ?_)
        (refine wpAnyH_take (i := 0) (oi := ?oi_eb1) (v := ?v_eb1) ?ho_eb1 ?hs_eb1 ?hf_eb1 ?hr_eb1 ?hQ_eb1 ?hy_eb1 ?hS_eb1 ?rest_eb1; (case hr_eb1 => kernel_rfl); (case hf_eb1 => kernel_rfl); (case hs_eb1 => kernel_rfl); (case ho_eb1 => (simp only [List.getElem?_toArray, List.getElem?_cons_succ, List.getElem?_cons_zero]; rfl)); (case hS_eb1 => assumption); (case hQ_eb1 => exact fun _ _ _ h => h); (case hy_eb1 => (refine Or.inl ⟨by rfl, ?_⟩; (intro w hSw; obtain ⟨e0, g0⟩ := cells_of hSw; go_simp) <;> with_reducible rfl)); (try simp only [Act.put, List.setIfInBounds_toArray, List.set_cons_zero, List.set_cons_succ]))
        (refine wpAnyH_take (i := 2) (oi := ?oi_eb2) (v := ?v_eb2) ?ho_eb2 ?hs_eb2 ?hf_eb2 ?hr_eb2 ?hQ_eb2 ?hy_eb2 ?hS_eb2 ?rest_eb2; (case hr_eb2 => kernel_rfl); (case hf_eb2 => kernel_rfl); (case hs_eb2 => kernel_rfl); (case ho_eb2 => (simp only [List.getElem?_toArray, List.getElem?_cons_succ, List.getElem?_cons_zero]; rfl)); (case hS_eb2 => assumption); (case hQ_eb2 => exact fun _ _ _ h => h); (case hy_eb2 => (refine Or.inl ⟨by rfl, ?_⟩; (intro w hSw; obtain ⟨e0, g0⟩ := cells_of hSw; go_simp) <;> with_reducible rfl)); (try simp only [Act.put, List.setIfInBounds_toArray, List.set_cons_zero, List.set_cons_succ]))
        (refine wpAnyH_take (i := 3) (oi := ?oi_eb3) (v := ?v_eb3) ?ho_eb3 ?hs_eb3 ?hf_eb3 ?hr_eb3 ?hQ_eb3 ?hy_eb3 ?hS_eb3 ?rest_eb3; (case hr_eb3 => kernel_rfl); (case hf_eb3 => kernel_rfl); (case hs_eb3 => kernel_rfl); (case ho_eb3 => (simp only [List.getElem?_toArray, List.getElem?_cons_succ, List.getElem?_cons_zero]; rfl)); (case hS_eb3 => assumption); (case hQ_eb3 => exact fun _ _ _ h => h); (case hy_eb3 => (refine Or.inl ⟨by rfl, ?_⟩; (intro w hSw; obtain ⟨e0, g0⟩ := cells_of hSw; go_simp) <;> with_reducible rfl)); (try simp only [Act.put, List.setIfInBounds_toArray, List.set_cons_zero, List.set_cons_succ]))
        (refine wpAnyH_take (i := 4) (oi := ?oi_eb4) (v := ?v_eb4) ?ho_eb4 ?hs_eb4 ?hf_eb4 ?hr_eb4 ?hQ_eb4 ?hy_eb4 ?hS_eb4 ?rest_eb4; (case hr_eb4 => kernel_rfl); (case hf_eb4 => kernel_rfl); (case hs_eb4 => kernel_rfl); (case ho_eb4 => (simp only [List.getElem?_toArray, List.getElem?_cons_succ, List.getElem?_cons_zero]; rfl)); (case hS_eb4 => assumption); (case hQ_eb4 => exact fun _ _ _ h => h); (case hy_eb4 => (refine Or.inl ⟨by rfl, ?_⟩; (intro w hSw; obtain ⟨e0, g0⟩ := cells_of hSw; go_simp) <;> with_reducible rfl)); (try simp only [Act.put, List.setIfInBounds_toArray, List.set_cons_zero, List.set_cons_succ]))
        refine wpAnyH_ready (rs := [1]) (by kernel_rfl) (by simp) ?_
        refine (AllReadyH.cons (o := ?ooeb5_0) ?hoeb5_0 ?hseb5_0 AllReadyH.nil)
        case hoeb5_0 => (simp only [List.getElem?_toArray, List.getElem?_cons_succ, List.getElem?_cons_zero]; rfl)
        case hseb5_0 =>
          intro K hK
          go_simp
          go_at_call 29
          refine (cP.out _ (Upd.drew Non _)).mono ?_
          rintro en w20 ⟨rfl, hu⟩
          have hN20 : Upd Non w10 w20 := (Upd.drew Non _).trans hu fun _ _ h => h
          have hX20 := hN20.heap HX fun h => h
          clear hu cP
          try go_wp2_with fail
          refine hK.out _ _ (by exact hX20) (fun hHeld => ?_)
          clear hK K
          try simp only [Act.put, List.setIfInBounds_toArray, List.set_cons_zero, List.set_cons_succ]
          (refine wpAnyH_take (i := 5) (oi := ?oi_eb6) (v := ?v_eb6) ?ho_eb6 ?hs_eb6 ?hf_eb6 ?hr_eb6 ?hQ_eb6 ?hy_eb6 ?hS_eb6 ?rest_eb6; (case hr_eb6 => kernel_rfl); (case hf_eb6 => kernel_rfl); (case hs_eb6 => kernel_rfl); (case ho_eb6 => (simp only [List.getElem?_toArray, List.getElem?_cons_succ, List.getElem?_cons_zero]; rfl)); (case hS_eb6 => assumption); (case hQ_eb6 => exact fun _ _ _ h => h); (case hy_eb6 => (refine Or.inl ⟨by rfl, ?_⟩; (intro w hSw; obtain ⟨e0, g0⟩ := cells_of hSw; go_simp) <;> with_reducible rfl)); (try simp only [Act.put, List.setIfInBounds_toArray, List.set_cons_zero, List.set_cons_succ]))
          (refine wpAnyH_take (i := 6) (oi := ?oi_eb7) (v := ?v_eb7) ?ho_eb7 ?hs_eb7 ?hf_eb7 ?hr_eb7 ?hQ_eb7 ?hy_eb7 ?hS_eb7 ?rest_eb7; (case hr_eb7 => kernel_rfl); (case hf_eb7 => kernel_rfl); (case hs_eb7 => kernel_rfl); (case ho_eb7 => (simp only [List.getElem?_toArray, List.getElem?_cons_succ, List.getElem?_cons_zero]; rfl)); (case hS_eb7 => assumption); (case hQ_eb7 => exact fun _ _ _ h => h); (case hy_eb7 => (refine Or.inl ⟨by rfl, ?_⟩; (intro w hSw; obtain ⟨e0, g0⟩ := cells_of hSw; go_simp) <;> with_reducible rfl)); (try simp only [Act.put, List.setIfInBounds_toArray, List.set_cons_zero, List.set_cons_succ]))
          (refine wpAnyH_take (i := 7) (oi := ?oi_eb8) (v := ?v_eb8) ?ho_eb8 ?hs_eb8 ?hf_eb8 ?hr_eb8 ?hQ_eb8 ?hy_eb8 ?hS_eb8 ?rest_eb8; (case hr_eb8 => kernel_rfl); (case hf_eb8 => kernel_rfl); (case hs_eb8 => kernel_rfl); (case ho_eb8 => (simp only [List.getElem?_toArray, List.getElem?_cons_succ, List.getElem?_cons_zero]; rfl)); (case hS_eb8 => assumption); (case hQ_eb8 => exact fun _ _ _ h => h); (case hy_eb8 => (refine Or.inl ⟨by rfl, ?_⟩; (intro w hSw; obtain ⟨e0, g0⟩ := cells_of hSw; go_simp) <;> with_reducible rfl)); (try simp only [Act.put, List.setIfInBounds_toArray, List.set_cons_zero, List.set_cons_succ]))
          (refine wpAnyH_take (i := 9) (oi := ?oi_eb9) (v := ?v_eb9) ?ho_eb9 ?hs_eb9 ?hf_eb9 ?hr_eb9 ?hQ_eb9 ?hy_eb9 ?hS_eb9 ?rest_eb9; (case hr_eb9 => kernel_rfl); (case hf_eb9 => kernel_rfl); (case hs_eb9 => kernel_rfl); (case ho_eb9 => (simp only [List.getElem?_toArray, List.getElem?_cons_succ, List.getElem?_cons_zero]; rfl)); (case hS_eb9 => assumption); (case hQ_eb9 => exact fun _ _ _ h => h); (case hy_eb9 => (refine Or.inl ⟨by rfl, ?_⟩; (intro w hSw; obtain ⟨e0, g0⟩ := cells_of hSw; go_simp) <;> with_reducible rfl)); (try simp only [Act.put, List.setIfInBounds_toArray, List.set_cons_zero, List.set_cons_succ]))
          (refine wpAnyH_take (i := 10) (oi := ?oi_eb10) (v := ?v_eb10) ?ho_eb10 ?hs_eb10 ?hf_eb10 ?hr_eb10 ?hQ_eb10 ?hy_eb10 ?hS_eb10 ?rest_eb10; (case hr_eb10 => kernel_rfl); (case hf_eb10 => kernel_rfl); (case hs_eb10 => kernel_rfl); (case ho_eb10 => (simp only [List.getElem?_toArray, List.getElem?_cons_succ, List.getElem?_cons_zero]; rfl)); (case hS_eb10 => assumption); (case hQ_eb10 => exact fun _ _ _ h => h); (case hy_eb10 => (refine Or.inl ⟨by rfl, ?_⟩; (intro w hSw; obtain ⟨e0, g0⟩ := cells_of hSw; go_simp) <;> with_reducible rfl)); (try simp only [Act.put, List.setIfInBounds_toArray, List.set_cons_zero, List.set_cons_succ]))
          refine wpAnyH_ready (rs := [8]) (by kernel_rfl) (by simp) ?_
          refine (AllReadyH.cons (o := ?ooeb11_0) ?hoeb11_0 ?hseb11_0 AllReadyH.nil)
          case hoeb11_0 => (simp only [List.getElem?_toArray, List.getElem?_cons_succ, List.getElem?_cons_zero]; rfl)
          case hseb11_0 =>
            intro K hK
            go_simp
            go_at_call 30
            refine (cE.out _ hN20).mono ?_
            rintro en w21 ⟨rfl, hu⟩
            have hN21 : Upd Non w10 w21 := hN20.trans hu fun _ _ h => h
            have hX21 := hN21.heap HX fun h => h
            clear hu cE
            try go_wp2_with fail
            refine hK.out _ _ (by exact hX21) (fun hHeld => ?_)
            clear hK K
            try simp only [Act.put, List.setIfInBounds_toArray, List.set_cons_zero, List.set_cons_succ]
            (refine wpAnyH_take (i := 11) (oi := ?oi_eb12) (v := ?v_eb12) ?ho_eb12 ?hs_eb12 ?hf_eb12 ?hr_eb12 ?hQ_eb12 ?hy_eb12 ?hS_eb12 ?rest_eb12; (case hr_eb12 => kernel_rfl); (case hf_eb12 => kernel_rfl); (case hs_eb12 => kernel_rfl); (case ho_eb12 => (simp only [List.getElem?_toArray, List.getElem?_cons_succ, List.getElem?_cons_zero]; rfl)); (case hS_eb12 => assumption); (case hQ_eb12 => exact fun _ _ _ h => h); (case hy_eb12 => (refine Or.inl ⟨by rfl, ?_⟩; (intro w hSw; obtain ⟨e0, g0⟩ := cells_of hSw; go_simp) <;> with_reducible rfl)); (try simp only [Act.put, List.setIfInBounds_toArray, List.set_cons_zero, List.set_cons_succ]))
            (refine wpAnyH_take (i := 12) (oi := ?oi_eb13) (v := ?v_eb13) ?ho_eb13 ?hs_eb13 ?hf_eb13 ?hr_eb13 ?hQ_eb13 ?hy_eb13 ?hS_eb13 ?rest_eb13; (case hr_eb13 => kernel_rfl); (case hf_eb13 => kernel_rfl); (case hs_eb13 => kernel_rfl); (case ho_eb13 => (simp only [List.getElem?_toArray, List.getElem?_cons_succ, List.getElem?_cons_zero]; rfl)); (case hS_eb13 => assumption); (case hQ_eb13 => exact fun _ _ _ h => h); (case hy_eb13 => (refine Or.inl ⟨by rfl, ?_⟩; (intro w hSw; obtain ⟨e0, g0⟩ := cells_of hSw; go_simp) <;> with_reducible rfl)); (try simp only [Act.put, List.setIfInBounds_toArray, List.set_cons_zero, List.set_cons_succ]))
            refine wpAnyH_done (by kernel_rfl) ?_ _
            clear hHeld
            go_wp2_with fail
            go_roundw
            case rel => exact ⟨k + 1, F9, (d.write i9 s).1, (r.write i9 s).1, _, _, by go_num, by omega, (HB.out.non hN21).sub fun q hq => .inl hq, HS.out, by rw [show rc ((r.write i9 s).1) (.slice ka1 kn1 kc1) (.slice pa1 pn1 pc1) = #[.int .i64 m1, .slice ka1 kn1 kc1, .slice pa1 pn1 pc1, .int .i64 f1, .bool dd1] from Value.agg.inj HL.out]; exact hX21, HPl⟩
            case measure => simp [intOf]; omega
      by_cases h2 : kind = 2
      · skip
        subst h2
        have cC := bthCrash hBA hS hok hP6 _ keep (hI.out _ hBA.lv.upd)
        rw [hlit] at cC
        have hS' := hS.crash hok keep
        have HPl : (d.crash keep).P.length ≤ k + 1 := by rw [crash_P]; omega
        replace cC := Lib.hid cC
        go_wp2_with fail
        refine cC.out.mono ?_
        rintro en w5 ⟨m1, ka1, kn1, kc1, pa1, pn1, pc1, f1, dd1, rfl, HL, hB5, hu⟩
        replace hX := hu.heap hX fun h => h
        replace hA := hu.heap hA fun h => h
        replace hB5 := Lib.hid hB5
        replace HL := Lib.hid HL
        clear hu cC hBA
        clear y0 y1 y2 y3 y4 y5 y6 y7 y8 y9 c0 f0
        obtain ⟨y0, y1, y2, y3, y4, y5, y6, y7, y8, y9⟩ := cells10 hA
        obtain ⟨c0, f0⟩ := cells_of hX
        go_wp2_with ((with_reducible (show wpList _ _ _ (⟨_, Op.store _ _ _, _, _, _, _⟩ :: _) _ _)); refine storeB_list rfl 64 _ _ rfl M #[.int .i64 m1, .slice ka1 kn1 kc1, .slice pa1 pn1 pc1, .int .i64 f1, .bool dd1] _ _ rfl rfl hX rfl hs5.out (by simp [Value.oneCell']) ?_)
        intro w6 hX6 hu
        have hB6 := hB5.out.upd hu fun q hq => .inl hq
        replace hA := hu.heap hA (fun e => by (have : wr.heap.size = M := e); omega)
        clear hX hB5 hu
        clear y0 y1 y2 y3 y4 y5 y6 y7 y8 y9 c0 f0
        obtain ⟨y0, y1, y2, y3, y4, y5, y6, y7, y8, y9⟩ := cells10 hA
        obtain ⟨c0, f0⟩ := cells_of hX6
        have y3a := (Upd.alloc Non w6 (.cells #[] 3)).cell y3 fun h => h
        have hI6 := hI.out _ (hB6.lv.upd.then_alloc (.cells #[] 3))
        go_wp2_with (at_builtin; go_must (refine wpList_app rfl _ _ 50 50 rfl w6.heap.size 3 (.int .i64 0) 1 8 Try.underlying50 hi8.out rfl _ 0 [] rfl (World.ownsRow_lit (size := 1) w6 #[] 0 (Nat.le_refl _) (Nat.zero_le _) rfl) _ keep.length (keep.map (.int .i64)) rfl (Src.ofHas Try.underlying50 hI6 (by intro u hu; obtain ⟨x, -, rfl⟩ := List.mem_map.1 hu; rfl)) (by unfold maxLen; omega) (by omega) (by simp) ?_))
        intro v7 w7 ho7 hu7 hf7
        have hU7 : Upd Non w6 w7 := (Upd.alloc Non w6 _).trans hu7 (fun j hj h => by simp [At, Value.ownBlock] at h; omega)
        have hI7 : Ints w7 v7 keep := by have := has_of_owns ho7; simpa using this
        have hg7 : ∀ q, At v7 q → w6.heap.size ≤ q := fun q hq => own_ge ho7 hq
        have cD := Lib.hid (dCrash (hB6.non hU7) hP6 _ keep hI7 (fun _ q hq hF => by have := hB6.lv.at_.lt q hF; have := hg7 q hq; omega))
        have hMF := (hB6.bs M (.inl rfl)).1
        replace hX6 := hU7.heap hX6 fun h => h
        obtain ⟨_, a7, q7, rfl, -⟩ := id hI7
        clear ho7 hu7 hf7 y3a hI6 hI7 hg7 hU7 hB6 hA
        clear y0 y1 y2 y3 y4 y5 y6 y7 y8 y9 c0 f0
        go_wp2_with fail
        refine cD.out.mono ?_
        rintro en w8 ⟨rfl, F8, HB, hu⟩
        have HX := hu.heap hX6 hMF
        have HS := hS'
        replace HL := HL.out
        clear hu hX6 hMF cD hS'
        have hpn : pn1 = (d.crash keep).P.length := by have := lit_pn HB.rat; rw [this, HS.p]
        have hdd : dd1 = (d.crash keep).dd := by have := lit_dd HL; rw [this, HS.dd]
        have cP : Hid (∀ w', Upd Non w8 w' → Calls Try.prog 29 #[.pointer (some ⟨D, 0, none⟩)] w' (Ret (.int .i64 (pn1 : Int)) w')) := Lib.hid (fun w' hu => by have := lPending (HB.non hu).lv.at_; rw [← hpn] at this; exact this)
        have cE : Hid (∀ w', Upd Non w8 w' → Calls Try.prog 30 #[.pointer (some ⟨D, 0, none⟩)] w' (Ret (.bool dd1) w')) := Lib.hid (fun w' hu => by have := lDead (HB.non hu).lv.at_; rw [← hdd] at this; exact this)
        replace HB := Lib.hid HB
        replace HS := Lib.hid HS
        replace HL := Lib.hid HL
        clear hpn hdd
        go_wp2_with fail
        refine wp_region_held_drew (S := (fun w' => w'.heap[M]? = some (.cells #[.int .i64 m1, .slice ka1 kn1 kc1, .slice pa1 pn1 pc1, .int .i64 f1, .bool dd1] 64 (0, 0)))) (by kernel_rfl) (by exact HX) (fun hHeld => ?_)
        (refine wpAnyH_take (i := 0) (oi := ?oi_ec1) (v := ?v_ec1) ?ho_ec1 ?hs_ec1 ?hf_ec1 ?hr_ec1 ?hQ_ec1 ?hy_ec1 ?hS_ec1 ?rest_ec1; (case hr_ec1 => kernel_rfl); (case hf_ec1 => kernel_rfl); (case hs_ec1 => kernel_rfl); (case ho_ec1 => (simp only [List.getElem?_toArray, List.getElem?_cons_succ, List.getElem?_cons_zero]; rfl)); (case hS_ec1 => assumption); (case hQ_ec1 => exact fun _ _ _ h => h); (case hy_ec1 => (refine Or.inl ⟨by rfl, ?_⟩; (intro w hSw; obtain ⟨e0, g0⟩ := cells_of hSw; go_simp) <;> with_reducible rfl)); (try simp only [Act.put, List.setIfInBounds_toArray, List.set_cons_zero, List.set_cons_succ]))
        (refine wpAnyH_take (i := 2) (oi := ?oi_ec2) (v := ?v_ec2) ?ho_ec2 ?hs_ec2 ?hf_ec2 ?hr_ec2 ?hQ_ec2 ?hy_ec2 ?hS_ec2 ?rest_ec2; (case hr_ec2 => kernel_rfl); (case hf_ec2 => kernel_rfl); (case hs_ec2 => kernel_rfl); (case ho_ec2 => (simp only [List.getElem?_toArray, List.getElem?_cons_succ, List.getElem?_cons_zero]; rfl)); (case hS_ec2 => assumption); (case hQ_ec2 => exact fun _ _ _ h => h); (case hy_ec2 => (refine Or.inl ⟨by rfl, ?_⟩; (intro w hSw; obtain ⟨e0, g0⟩ := cells_of hSw; go_simp) <;> with_reducible rfl)); (try simp only [Act.put, List.setIfInBounds_toArray, List.set_cons_zero, List.set_cons_succ]))
        (refine wpAnyH_take (i := 3) (oi := ?oi_ec3) (v := ?v_ec3) ?ho_ec3 ?hs_ec3 ?hf_ec3 ?hr_ec3 ?hQ_ec3 ?hy_ec3 ?hS_ec3 ?rest_ec3; (case hr_ec3 => kernel_rfl); (case hf_ec3 => kernel_rfl); (case hs_ec3 => kernel_rfl); (case ho_ec3 => (simp only [List.getElem?_toArray, List.getElem?_cons_succ, List.getElem?_cons_zero]; rfl)); (case hS_ec3 => assumption); (case hQ_ec3 => exact fun _ _ _ h => h); (case hy_ec3 => (refine Or.inl ⟨by rfl, ?_⟩; (intro w hSw; obtain ⟨e0, g0⟩ := cells_of hSw; go_simp) <;> with_reducible rfl)); (try simp only [Act.put, List.setIfInBounds_toArray, List.set_cons_zero, List.set_cons_succ]))
        (refine wpAnyH_take (i := 4) (oi := ?oi_ec4) (v := ?v_ec4) ?ho_ec4 ?hs_ec4 ?hf_ec4 ?hr_ec4 ?hQ_ec4 ?hy_ec4 ?hS_ec4 ?rest_ec4; (case hr_ec4 => kernel_rfl); (case hf_ec4 => kernel_rfl); (case hs_ec4 => kernel_rfl); (case ho_ec4 => (simp only [List.getElem?_toArray, List.getElem?_cons_succ, List.getElem?_cons_zero]; rfl)); (case hS_ec4 => assumption); (case hQ_ec4 => exact fun _ _ _ h => h); (case hy_ec4 => (refine Or.inl ⟨by rfl, ?_⟩; (intro w hSw; obtain ⟨e0, g0⟩ := cells_of hSw; go_simp) <;> with_reducible rfl)); (try simp only [Act.put, List.setIfInBounds_toArray, List.set_cons_zero, List.set_cons_succ]))
        refine wpAnyH_ready (rs := [1]) (by kernel_rfl) (by simp) ?_
        refine (AllReadyH.cons (o := ?ooec5_0) ?hoec5_0 ?hsec5_0 AllReadyH.nil)
        case hoec5_0 => (simp only [List.getElem?_toArray, List.getElem?_cons_succ, List.getElem?_cons_zero]; rfl)
        case hsec5_0 =>
          intro K hK
          go_simp
          go_at_call 29
          refine (cP.out _ (Upd.drew Non _)).mono ?_
          rintro en w20 ⟨rfl, hu⟩
          have hN20 : Upd Non w8 w20 := (Upd.drew Non _).trans hu fun _ _ h => h
          have hX20 := hN20.heap HX fun h => h
          clear hu cP
          try go_wp2_with fail
          refine hK.out _ _ (by exact hX20) (fun hHeld => ?_)
          clear hK K
          try simp only [Act.put, List.setIfInBounds_toArray, List.set_cons_zero, List.set_cons_succ]
          (refine wpAnyH_take (i := 5) (oi := ?oi_ec6) (v := ?v_ec6) ?ho_ec6 ?hs_ec6 ?hf_ec6 ?hr_ec6 ?hQ_ec6 ?hy_ec6 ?hS_ec6 ?rest_ec6; (case hr_ec6 => kernel_rfl); (case hf_ec6 => kernel_rfl); (case hs_ec6 => kernel_rfl); (case ho_ec6 => (simp only [List.getElem?_toArray, List.getElem?_cons_succ, List.getElem?_cons_zero]; rfl)); (case hS_ec6 => assumption); (case hQ_ec6 => exact fun _ _ _ h => h); (case hy_ec6 => (refine Or.inl ⟨by rfl, ?_⟩; (intro w hSw; obtain ⟨e0, g0⟩ := cells_of hSw; go_simp) <;> with_reducible rfl)); (try simp only [Act.put, List.setIfInBounds_toArray, List.set_cons_zero, List.set_cons_succ]))
          (refine wpAnyH_take (i := 6) (oi := ?oi_ec7) (v := ?v_ec7) ?ho_ec7 ?hs_ec7 ?hf_ec7 ?hr_ec7 ?hQ_ec7 ?hy_ec7 ?hS_ec7 ?rest_ec7; (case hr_ec7 => kernel_rfl); (case hf_ec7 => kernel_rfl); (case hs_ec7 => kernel_rfl); (case ho_ec7 => (simp only [List.getElem?_toArray, List.getElem?_cons_succ, List.getElem?_cons_zero]; rfl)); (case hS_ec7 => assumption); (case hQ_ec7 => exact fun _ _ _ h => h); (case hy_ec7 => (refine Or.inl ⟨by rfl, ?_⟩; (intro w hSw; obtain ⟨e0, g0⟩ := cells_of hSw; go_simp) <;> with_reducible rfl)); (try simp only [Act.put, List.setIfInBounds_toArray, List.set_cons_zero, List.set_cons_succ]))
          (refine wpAnyH_take (i := 7) (oi := ?oi_ec8) (v := ?v_ec8) ?ho_ec8 ?hs_ec8 ?hf_ec8 ?hr_ec8 ?hQ_ec8 ?hy_ec8 ?hS_ec8 ?rest_ec8; (case hr_ec8 => kernel_rfl); (case hf_ec8 => kernel_rfl); (case hs_ec8 => kernel_rfl); (case ho_ec8 => (simp only [List.getElem?_toArray, List.getElem?_cons_succ, List.getElem?_cons_zero]; rfl)); (case hS_ec8 => assumption); (case hQ_ec8 => exact fun _ _ _ h => h); (case hy_ec8 => (refine Or.inl ⟨by rfl, ?_⟩; (intro w hSw; obtain ⟨e0, g0⟩ := cells_of hSw; go_simp) <;> with_reducible rfl)); (try simp only [Act.put, List.setIfInBounds_toArray, List.set_cons_zero, List.set_cons_succ]))
          (refine wpAnyH_take (i := 9) (oi := ?oi_ec9) (v := ?v_ec9) ?ho_ec9 ?hs_ec9 ?hf_ec9 ?hr_ec9 ?hQ_ec9 ?hy_ec9 ?hS_ec9 ?rest_ec9; (case hr_ec9 => kernel_rfl); (case hf_ec9 => kernel_rfl); (case hs_ec9 => kernel_rfl); (case ho_ec9 => (simp only [List.getElem?_toArray, List.getElem?_cons_succ, List.getElem?_cons_zero]; rfl)); (case hS_ec9 => assumption); (case hQ_ec9 => exact fun _ _ _ h => h); (case hy_ec9 => (refine Or.inl ⟨by rfl, ?_⟩; (intro w hSw; obtain ⟨e0, g0⟩ := cells_of hSw; go_simp) <;> with_reducible rfl)); (try simp only [Act.put, List.setIfInBounds_toArray, List.set_cons_zero, List.set_cons_succ]))
          (refine wpAnyH_take (i := 10) (oi := ?oi_ec10) (v := ?v_ec10) ?ho_ec10 ?hs_ec10 ?hf_ec10 ?hr_ec10 ?hQ_ec10 ?hy_ec10 ?hS_ec10 ?rest_ec10; (case hr_ec10 => kernel_rfl); (case hf_ec10 => kernel_rfl); (case hs_ec10 => kernel_rfl); (case ho_ec10 => (simp only [List.getElem?_toArray, List.getElem?_cons_succ, List.getElem?_cons_zero]; rfl)); (case hS_ec10 => assumption); (case hQ_ec10 => exact fun _ _ _ h => h); (case hy_ec10 => (refine Or.inl ⟨by rfl, ?_⟩; (intro w hSw; obtain ⟨e0, g0⟩ := cells_of hSw; go_simp) <;> with_reducible rfl)); (try simp only [Act.put, List.setIfInBounds_toArray, List.set_cons_zero, List.set_cons_succ]))
          refine wpAnyH_ready (rs := [8]) (by kernel_rfl) (by simp) ?_
          refine (AllReadyH.cons (o := ?ooec11_0) ?hoec11_0 ?hsec11_0 AllReadyH.nil)
          case hoec11_0 => (simp only [List.getElem?_toArray, List.getElem?_cons_succ, List.getElem?_cons_zero]; rfl)
          case hsec11_0 =>
            intro K hK
            go_simp
            go_at_call 30
            refine (cE.out _ hN20).mono ?_
            rintro en w21 ⟨rfl, hu⟩
            have hN21 : Upd Non w8 w21 := hN20.trans hu fun _ _ h => h
            have hX21 := hN21.heap HX fun h => h
            clear hu cE
            try go_wp2_with fail
            refine hK.out _ _ (by exact hX21) (fun hHeld => ?_)
            clear hK K
            try simp only [Act.put, List.setIfInBounds_toArray, List.set_cons_zero, List.set_cons_succ]
            (refine wpAnyH_take (i := 11) (oi := ?oi_ec12) (v := ?v_ec12) ?ho_ec12 ?hs_ec12 ?hf_ec12 ?hr_ec12 ?hQ_ec12 ?hy_ec12 ?hS_ec12 ?rest_ec12; (case hr_ec12 => kernel_rfl); (case hf_ec12 => kernel_rfl); (case hs_ec12 => kernel_rfl); (case ho_ec12 => (simp only [List.getElem?_toArray, List.getElem?_cons_succ, List.getElem?_cons_zero]; rfl)); (case hS_ec12 => assumption); (case hQ_ec12 => exact fun _ _ _ h => h); (case hy_ec12 => (refine Or.inl ⟨by rfl, ?_⟩; (intro w hSw; obtain ⟨e0, g0⟩ := cells_of hSw; go_simp) <;> with_reducible rfl)); (try simp only [Act.put, List.setIfInBounds_toArray, List.set_cons_zero, List.set_cons_succ]))
            (refine wpAnyH_take (i := 12) (oi := ?oi_ec13) (v := ?v_ec13) ?ho_ec13 ?hs_ec13 ?hf_ec13 ?hr_ec13 ?hQ_ec13 ?hy_ec13 ?hS_ec13 ?rest_ec13; (case hr_ec13 => kernel_rfl); (case hf_ec13 => kernel_rfl); (case hs_ec13 => kernel_rfl); (case ho_ec13 => (simp only [List.getElem?_toArray, List.getElem?_cons_succ, List.getElem?_cons_zero]; rfl)); (case hS_ec13 => assumption); (case hQ_ec13 => exact fun _ _ _ h => h); (case hy_ec13 => (refine Or.inl ⟨by rfl, ?_⟩; (intro w hSw; obtain ⟨e0, g0⟩ := cells_of hSw; go_simp) <;> with_reducible rfl)); (try simp only [Act.put, List.setIfInBounds_toArray, List.set_cons_zero, List.set_cons_succ]))
            refine wpAnyH_done (by kernel_rfl) ?_ _
            clear hHeld
            go_wp2_with fail
            go_roundw
            case rel => exact ⟨k + 1, F8, d.crash keep, r.crashR keep, _, _, by go_num, by omega, (HB.out.non hN21).sub fun q hq => .inl hq, HS.out, by rw [show rc (r.crashR keep) (.slice ka1 kn1 kc1) (.slice pa1 pn1 pc1) = #[.int .i64 m1, .slice ka1 kn1 kc1, .slice pa1 pn1 pc1, .int .i64 f1, .bool dd1] from Value.agg.inj HL.out]; exact hX21, HPl⟩
            case measure => simp [intOf]; omega
      by_cases h3 : kind = 3
      · skip
        subst h3
        have cC := bthArm hBA hS i9
        rw [hlit] at cC
        have hS' := (hS.arm i9).1
        have HPl : (d.arm i9).1.P.length ≤ k + 1 := by rw [arm_P]; omega
        replace cC := Lib.hid cC
        go_wp2_with fail
        refine cC.out.mono ?_
        rintro en w5 ⟨m1, ka1, kn1, kc1, pa1, pn1, pc1, f1, dd1, rfl, HL, hB5, hu⟩
        replace hX := hu.heap hX fun h => h
        replace hA := hu.heap hA fun h => h
        replace hB5 := Lib.hid hB5
        replace HL := Lib.hid HL
        clear hu cC hBA
        clear y0 y1 y2 y3 y4 y5 y6 y7 y8 y9 c0 f0
        obtain ⟨y0, y1, y2, y3, y4, y5, y6, y7, y8, y9⟩ := cells10 hA
        obtain ⟨c0, f0⟩ := cells_of hX
        go_wp2_with ((with_reducible (show wpList _ _ _ (⟨_, Op.store _ _ _, _, _, _, _⟩ :: _) _ _)); refine storeB_list rfl 64 _ _ rfl M #[.int .i64 m1, .slice ka1 kn1 kc1, .slice pa1 pn1 pc1, .int .i64 f1, .bool dd1] _ _ rfl rfl hX rfl hs5.out (by simp [Value.oneCell']) ?_)
        intro w6 hX6 hu
        have hB6 := hB5.out.upd hu fun q hq => .inl hq
        replace hA := hu.heap hA (fun e => by (have : wr.heap.size = M := e); omega)
        clear hX hB5 hu
        clear y0 y1 y2 y3 y4 y5 y6 y7 y8 y9 c0 f0
        obtain ⟨y0, y1, y2, y3, y4, y5, y6, y7, y8, y9⟩ := cells10 hA
        obtain ⟨c0, f0⟩ := cells_of hX6
        have cD := Lib.hid (dArm hB6 i9 hi)
        have hMF := (hB6.bs M (.inl rfl)).1
        clear hB6
        go_wp2_with fail
        refine cD.out.mono ?_
        rintro en w8 ⟨rfl, F8, HB, hu⟩
        have HX := hu.heap hX6 hMF
        have HS := hS'
        replace HL := HL.out
        clear hu hX6 hMF cD hS' hA
        clear y0 y1 y2 y3 y4 y5 y6 y7 y8 y9 c0 f0
        have hpn : pn1 = ((d.arm i9).1).P.length := by have := lit_pn HB.rat; rw [this, HS.p]
        have hdd : dd1 = ((d.arm i9).1).dd := by have := lit_dd HL; rw [this, HS.dd]
        have cP : Hid (∀ w', Upd Non w8 w' → Calls Try.prog 29 #[.pointer (some ⟨D, 0, none⟩)] w' (Ret (.int .i64 (pn1 : Int)) w')) := Lib.hid (fun w' hu => by have := lPending (HB.non hu).lv.at_; rw [← hpn] at this; exact this)
        have cE : Hid (∀ w', Upd Non w8 w' → Calls Try.prog 30 #[.pointer (some ⟨D, 0, none⟩)] w' (Ret (.bool dd1) w')) := Lib.hid (fun w' hu => by have := lDead (HB.non hu).lv.at_; rw [← hdd] at this; exact this)
        replace HB := Lib.hid HB
        replace HS := Lib.hid HS
        replace HL := Lib.hid HL
        clear hpn hdd
        go_wp2_with fail
        refine wp_region_held_drew (S := (fun w' => w'.heap[M]? = some (.cells #[.int .i64 m1, .slice ka1 kn1 kc1, .slice pa1 pn1 pc1, .int .i64 f1, .bool dd1] 64 (0, 0)))) (by kernel_rfl) (by exact HX) (fun hHeld => ?_)
        (refine wpAnyH_take (i := 0) (oi := ?oi_ed1) (v := ?v_ed1) ?ho_ed1 ?hs_ed1 ?hf_ed1 ?hr_ed1 ?hQ_ed1 ?hy_ed1 ?hS_ed1 ?rest_ed1; (case hr_ed1 => kernel_rfl); (case hf_ed1 => kernel_rfl); (case hs_ed1 => kernel_rfl); (case ho_ed1 => (simp only [List.getElem?_toArray, List.getElem?_cons_succ, List.getElem?_cons_zero]; rfl)); (case hS_ed1 => assumption); (case hQ_ed1 => exact fun _ _ _ h => h); (case hy_ed1 => (refine Or.inl ⟨by rfl, ?_⟩; (intro w hSw; obtain ⟨e0, g0⟩ := cells_of hSw; go_simp) <;> with_reducible rfl)); (try simp only [Act.put, List.setIfInBounds_toArray, List.set_cons_zero, List.set_cons_succ]))
        (refine wpAnyH_take (i := 2) (oi := ?oi_ed2) (v := ?v_ed2) ?ho_ed2 ?hs_ed2 ?hf_ed2 ?hr_ed2 ?hQ_ed2 ?hy_ed2 ?hS_ed2 ?rest_ed2; (case hr_ed2 => kernel_rfl); (case hf_ed2 => kernel_rfl); (case hs_ed2 => kernel_rfl); (case ho_ed2 => (simp only [List.getElem?_toArray, List.getElem?_cons_succ, List.getElem?_cons_zero]; rfl)); (case hS_ed2 => assumption); (case hQ_ed2 => exact fun _ _ _ h => h); (case hy_ed2 => (refine Or.inl ⟨by rfl, ?_⟩; (intro w hSw; obtain ⟨e0, g0⟩ := cells_of hSw; go_simp) <;> with_reducible rfl)); (try simp only [Act.put, List.setIfInBounds_toArray, List.set_cons_zero, List.set_cons_succ]))
        (refine wpAnyH_take (i := 3) (oi := ?oi_ed3) (v := ?v_ed3) ?ho_ed3 ?hs_ed3 ?hf_ed3 ?hr_ed3 ?hQ_ed3 ?hy_ed3 ?hS_ed3 ?rest_ed3; (case hr_ed3 => kernel_rfl); (case hf_ed3 => kernel_rfl); (case hs_ed3 => kernel_rfl); (case ho_ed3 => (simp only [List.getElem?_toArray, List.getElem?_cons_succ, List.getElem?_cons_zero]; rfl)); (case hS_ed3 => assumption); (case hQ_ed3 => exact fun _ _ _ h => h); (case hy_ed3 => (refine Or.inl ⟨by rfl, ?_⟩; (intro w hSw; obtain ⟨e0, g0⟩ := cells_of hSw; go_simp) <;> with_reducible rfl)); (try simp only [Act.put, List.setIfInBounds_toArray, List.set_cons_zero, List.set_cons_succ]))
        (refine wpAnyH_take (i := 4) (oi := ?oi_ed4) (v := ?v_ed4) ?ho_ed4 ?hs_ed4 ?hf_ed4 ?hr_ed4 ?hQ_ed4 ?hy_ed4 ?hS_ed4 ?rest_ed4; (case hr_ed4 => kernel_rfl); (case hf_ed4 => kernel_rfl); (case hs_ed4 => kernel_rfl); (case ho_ed4 => (simp only [List.getElem?_toArray, List.getElem?_cons_succ, List.getElem?_cons_zero]; rfl)); (case hS_ed4 => assumption); (case hQ_ed4 => exact fun _ _ _ h => h); (case hy_ed4 => (refine Or.inl ⟨by rfl, ?_⟩; (intro w hSw; obtain ⟨e0, g0⟩ := cells_of hSw; go_simp) <;> with_reducible rfl)); (try simp only [Act.put, List.setIfInBounds_toArray, List.set_cons_zero, List.set_cons_succ]))
        refine wpAnyH_ready (rs := [1]) (by kernel_rfl) (by simp) ?_
        refine (AllReadyH.cons (o := ?ooed5_0) ?hoed5_0 ?hsed5_0 AllReadyH.nil)
        case hoed5_0 => (simp only [List.getElem?_toArray, List.getElem?_cons_succ, List.getElem?_cons_zero]; rfl)
        case hsed5_0 =>
          intro K hK
          go_simp
          go_at_call 29
          refine (cP.out _ (Upd.drew Non _)).mono ?_
          rintro en w20 ⟨rfl, hu⟩
          have hN20 : Upd Non w8 w20 := (Upd.drew Non _).trans hu fun _ _ h => h
          have hX20 := hN20.heap HX fun h => h
          clear hu cP
          try go_wp2_with fail
          refine hK.out _ _ (by exact hX20) (fun hHeld => ?_)
          clear hK K
          try simp only [Act.put, List.setIfInBounds_toArray, List.set_cons_zero, List.set_cons_succ]
          (refine wpAnyH_take (i := 5) (oi := ?oi_ed6) (v := ?v_ed6) ?ho_ed6 ?hs_ed6 ?hf_ed6 ?hr_ed6 ?hQ_ed6 ?hy_ed6 ?hS_ed6 ?rest_ed6; (case hr_ed6 => kernel_rfl); (case hf_ed6 => kernel_rfl); (case hs_ed6 => kernel_rfl); (case ho_ed6 => (simp only [List.getElem?_toArray, List.getElem?_cons_succ, List.getElem?_cons_zero]; rfl)); (case hS_ed6 => assumption); (case hQ_ed6 => exact fun _ _ _ h => h); (case hy_ed6 => (refine Or.inl ⟨by rfl, ?_⟩; (intro w hSw; obtain ⟨e0, g0⟩ := cells_of hSw; go_simp) <;> with_reducible rfl)); (try simp only [Act.put, List.setIfInBounds_toArray, List.set_cons_zero, List.set_cons_succ]))
          (refine wpAnyH_take (i := 6) (oi := ?oi_ed7) (v := ?v_ed7) ?ho_ed7 ?hs_ed7 ?hf_ed7 ?hr_ed7 ?hQ_ed7 ?hy_ed7 ?hS_ed7 ?rest_ed7; (case hr_ed7 => kernel_rfl); (case hf_ed7 => kernel_rfl); (case hs_ed7 => kernel_rfl); (case ho_ed7 => (simp only [List.getElem?_toArray, List.getElem?_cons_succ, List.getElem?_cons_zero]; rfl)); (case hS_ed7 => assumption); (case hQ_ed7 => exact fun _ _ _ h => h); (case hy_ed7 => (refine Or.inl ⟨by rfl, ?_⟩; (intro w hSw; obtain ⟨e0, g0⟩ := cells_of hSw; go_simp) <;> with_reducible rfl)); (try simp only [Act.put, List.setIfInBounds_toArray, List.set_cons_zero, List.set_cons_succ]))
          (refine wpAnyH_take (i := 7) (oi := ?oi_ed8) (v := ?v_ed8) ?ho_ed8 ?hs_ed8 ?hf_ed8 ?hr_ed8 ?hQ_ed8 ?hy_ed8 ?hS_ed8 ?rest_ed8; (case hr_ed8 => kernel_rfl); (case hf_ed8 => kernel_rfl); (case hs_ed8 => kernel_rfl); (case ho_ed8 => (simp only [List.getElem?_toArray, List.getElem?_cons_succ, List.getElem?_cons_zero]; rfl)); (case hS_ed8 => assumption); (case hQ_ed8 => exact fun _ _ _ h => h); (case hy_ed8 => (refine Or.inl ⟨by rfl, ?_⟩; (intro w hSw; obtain ⟨e0, g0⟩ := cells_of hSw; go_simp) <;> with_reducible rfl)); (try simp only [Act.put, List.setIfInBounds_toArray, List.set_cons_zero, List.set_cons_succ]))
          (refine wpAnyH_take (i := 9) (oi := ?oi_ed9) (v := ?v_ed9) ?ho_ed9 ?hs_ed9 ?hf_ed9 ?hr_ed9 ?hQ_ed9 ?hy_ed9 ?hS_ed9 ?rest_ed9; (case hr_ed9 => kernel_rfl); (case hf_ed9 => kernel_rfl); (case hs_ed9 => kernel_rfl); (case ho_ed9 => (simp only [List.getElem?_toArray, List.getElem?_cons_succ, List.getElem?_cons_zero]; rfl)); (case hS_ed9 => assumption); (case hQ_ed9 => exact fun _ _ _ h => h); (case hy_ed9 => (refine Or.inl ⟨by rfl, ?_⟩; (intro w hSw; obtain ⟨e0, g0⟩ := cells_of hSw; go_simp) <;> with_reducible rfl)); (try simp only [Act.put, List.setIfInBounds_toArray, List.set_cons_zero, List.set_cons_succ]))
          (refine wpAnyH_take (i := 10) (oi := ?oi_ed10) (v := ?v_ed10) ?ho_ed10 ?hs_ed10 ?hf_ed10 ?hr_ed10 ?hQ_ed10 ?hy_ed10 ?hS_ed10 ?rest_ed10; (case hr_ed10 => kernel_rfl); (case hf_ed10 => kernel_rfl); (case hs_ed10 => kernel_rfl); (case ho_ed10 => (simp only [List.getElem?_toArray, List.getElem?_cons_succ, List.getElem?_cons_zero]; rfl)); (case hS_ed10 => assumption); (case hQ_ed10 => exact fun _ _ _ h => h); (case hy_ed10 => (refine Or.inl ⟨by rfl, ?_⟩; (intro w hSw; obtain ⟨e0, g0⟩ := cells_of hSw; go_simp) <;> with_reducible rfl)); (try simp only [Act.put, List.setIfInBounds_toArray, List.set_cons_zero, List.set_cons_succ]))
          refine wpAnyH_ready (rs := [8]) (by kernel_rfl) (by simp) ?_
          refine (AllReadyH.cons (o := ?ooed11_0) ?hoed11_0 ?hsed11_0 AllReadyH.nil)
          case hoed11_0 => (simp only [List.getElem?_toArray, List.getElem?_cons_succ, List.getElem?_cons_zero]; rfl)
          case hsed11_0 =>
            intro K hK
            go_simp
            go_at_call 30
            refine (cE.out _ hN20).mono ?_
            rintro en w21 ⟨rfl, hu⟩
            have hN21 : Upd Non w8 w21 := hN20.trans hu fun _ _ h => h
            have hX21 := hN21.heap HX fun h => h
            clear hu cE
            try go_wp2_with fail
            refine hK.out _ _ (by exact hX21) (fun hHeld => ?_)
            clear hK K
            try simp only [Act.put, List.setIfInBounds_toArray, List.set_cons_zero, List.set_cons_succ]
            (refine wpAnyH_take (i := 11) (oi := ?oi_ed12) (v := ?v_ed12) ?ho_ed12 ?hs_ed12 ?hf_ed12 ?hr_ed12 ?hQ_ed12 ?hy_ed12 ?hS_ed12 ?rest_ed12; (case hr_ed12 => kernel_rfl); (case hf_ed12 => kernel_rfl); (case hs_ed12 => kernel_rfl); (case ho_ed12 => (simp only [List.getElem?_toArray, List.getElem?_cons_succ, List.getElem?_cons_zero]; rfl)); (case hS_ed12 => assumption); (case hQ_ed12 => exact fun _ _ _ h => h); (case hy_ed12 => (refine Or.inl ⟨by rfl, ?_⟩; (intro w hSw; obtain ⟨e0, g0⟩ := cells_of hSw; go_simp) <;> with_reducible rfl)); (try simp only [Act.put, List.setIfInBounds_toArray, List.set_cons_zero, List.set_cons_succ]))
            (refine wpAnyH_take (i := 12) (oi := ?oi_ed13) (v := ?v_ed13) ?ho_ed13 ?hs_ed13 ?hf_ed13 ?hr_ed13 ?hQ_ed13 ?hy_ed13 ?hS_ed13 ?rest_ed13; (case hr_ed13 => kernel_rfl); (case hf_ed13 => kernel_rfl); (case hs_ed13 => kernel_rfl); (case ho_ed13 => (simp only [List.getElem?_toArray, List.getElem?_cons_succ, List.getElem?_cons_zero]; rfl)); (case hS_ed13 => assumption); (case hQ_ed13 => exact fun _ _ _ h => h); (case hy_ed13 => (refine Or.inl ⟨by rfl, ?_⟩; (intro w hSw; obtain ⟨e0, g0⟩ := cells_of hSw; go_simp) <;> with_reducible rfl)); (try simp only [Act.put, List.setIfInBounds_toArray, List.set_cons_zero, List.set_cons_succ]))
            refine wpAnyH_done (by kernel_rfl) ?_ _
            clear hHeld
            go_wp2_with fail
            go_roundw
            case rel => exact ⟨k + 1, F8, (d.arm i9).1, (r.arm i9).1, _, _, by go_num, by omega, (HB.out.non hN21).sub fun q hq => .inl hq, HS.out, by rw [show rc ((r.arm i9).1) (.slice ka1 kn1 kc1) (.slice pa1 pn1 pc1) = #[.int .i64 m1, .slice ka1 kn1 kc1, .slice pa1 pn1 pc1, .int .i64 f1, .bool dd1] from Value.agg.inj HL.out]; exact hX21, HPl⟩
            case measure => simp [intOf]; omega
      by_cases h4 : kind = 4
      · skip
        subst h4
        have cC := Lib.hid (yFind hBA.lv.at_ hP6)
        have cD := fun w' (hu : Upd Non (wr.alloc (.cells #[.int .i64 4, .int .i64 i9, .string ⟨s.toArray⟩, .slice va keep.length vc, .int .i64 sg, .int .i64 sr, .int .i64 ss, .int .i64 se, .int .i64 sl, .int .i64 sm] 68)) w') => qFind (hBA.rat.non hu) hS hok hP6
        rw [hlit] at cD
        replace cD := Lib.hid cD
        have hB9 := Lib.hid hBA
        have HS := hS
        have HPl : d.P.length ≤ k + 1 := by omega
        obtain ⟨⟨⟨xg, xr, xs, xe, xl, xm⟩, xat, xc⟩, hfr⟩ : ∃ fr, findR d = fr := ⟨_, rfl⟩
        rw [hfr] at cC cD
        clear hfr hBA
        unfold spV at cC cD
        simp only at cC cD
        go_wp2_with fail
        refine cC.out.mono ?_
        rintro en w5 ⟨rfl, hu⟩
        have hU := hu.then_alloc (.cells #[.int .i64 xg, .int .i64 xr, .int .i64 xs, .int .i64 xe, .int .i64 xl, .int .i64 xm] 23)
        replace hX := (Upd.alloc Non w5 (.cells #[.int .i64 xg, .int .i64 xr, .int .i64 xs, .int .i64 xe, .int .i64 xl, .int .i64 xm] 23)).heap (hu.heap hX fun h => h) fun h => h
        have hP5 := heap_alloc_new w5 (.cells #[.int .i64 xg, .int .i64 xr, .int .i64 xs, .int .i64 xe, .int .i64 xl, .int .i64 xm] 23)
        clear hu cC
        clear y0 y1 y2 y3 y4 y5 y6 y7 y8 y9 c0 f0
        obtain ⟨c0, f0⟩ := cells_of hX
        go_wp2_with fail
        refine (cD.out _ hU).mono ?_
        rintro en w6 ⟨rfl, hu⟩
        replace hU := (hU.trans hu fun _ _ h => h).then_alloc (.cells #[.int .i64 xg, .int .i64 xr, .int .i64 xs, .int .i64 xe, .int .i64 xl, .int .i64 xm] 23)
        have HX := (Upd.alloc Non w6 (.cells #[.int .i64 xg, .int .i64 xr, .int .i64 xs, .int .i64 xe, .int .i64 xl, .int .i64 xm] 23)).heap (hu.heap hX fun h => h) fun h => h
        replace hP5 := (Upd.alloc Non w6 (.cells #[.int .i64 xg, .int .i64 xr, .int .i64 xs, .int .i64 xe, .int .i64 xl, .int .i64 xm] 23)).heap (hu.heap hP5 fun h => h) fun h => h
        have hP6' := heap_alloc_new w6 (.cells #[.int .i64 xg, .int .i64 xr, .int .i64 xs, .int .i64 xe, .int .i64 xl, .int .i64 xm] 23)
        obtain ⟨p0, p1, p2, p3, p4, p5⟩ := cells6 hP5
        obtain ⟨q0, q1, q2, q3, q4, q5⟩ := cells6 hP6'
        have HB := hB9.out.non hU
        have HL := hlit
        clear hu cD c0 f0 hX hA hP5 hP6' hB9 hU
        have hpn : pn = (d).P.length := by have := lit_pn HB.rat; rw [this, HS.p]
        have hdd : dd = (d).dd := by have := lit_dd HL; rw [this, HS.dd]
        have cP : Hid (∀ w', Upd Non (w6.alloc (.cells #[.int .i64 xg, .int .i64 xr, .int .i64 xs, .int .i64 xe, .int .i64 xl, .int .i64 xm] 23)) w' → Calls Try.prog 29 #[.pointer (some ⟨D, 0, none⟩)] w' (Ret (.int .i64 (pn : Int)) w')) := Lib.hid (fun w' hu => by have := lPending (HB.non hu).lv.at_; rw [← hpn] at this; exact this)
        have cE : Hid (∀ w', Upd Non (w6.alloc (.cells #[.int .i64 xg, .int .i64 xr, .int .i64 xs, .int .i64 xe, .int .i64 xl, .int .i64 xm] 23)) w' → Calls Try.prog 30 #[.pointer (some ⟨D, 0, none⟩)] w' (Ret (.bool dd) w')) := Lib.hid (fun w' hu => by have := lDead (HB.non hu).lv.at_; rw [← hdd] at this; exact this)
        replace HB := Lib.hid HB
        replace HS := Lib.hid HS
        replace HL := Lib.hid HL
        clear hpn hdd
        go_wp2_with fail
        refine wp_region_held_drew (S := (fun w' => w'.heap[M]? = some (.cells #[.int .i64 m, .slice ka kn kc, .slice pa pn pc, .int .i64 f, .bool dd] 64 (0, 0)))) (by kernel_rfl) (by exact HX) (fun hHeld => ?_)
        (refine wpAnyH_take (i := 0) (oi := ?oi_ee1) (v := ?v_ee1) ?ho_ee1 ?hs_ee1 ?hf_ee1 ?hr_ee1 ?hQ_ee1 ?hy_ee1 ?hS_ee1 ?rest_ee1; (case hr_ee1 => kernel_rfl); (case hf_ee1 => kernel_rfl); (case hs_ee1 => kernel_rfl); (case ho_ee1 => (simp only [List.getElem?_toArray, List.getElem?_cons_succ, List.getElem?_cons_zero]; rfl)); (case hS_ee1 => assumption); (case hQ_ee1 => exact fun _ _ _ h => h); (case hy_ee1 => (refine Or.inl ⟨by rfl, ?_⟩; (intro w hSw; obtain ⟨e0, g0⟩ := cells_of hSw; go_simp) <;> with_reducible rfl)); (try simp only [Act.put, List.setIfInBounds_toArray, List.set_cons_zero, List.set_cons_succ]))
        (refine wpAnyH_take (i := 2) (oi := ?oi_ee2) (v := ?v_ee2) ?ho_ee2 ?hs_ee2 ?hf_ee2 ?hr_ee2 ?hQ_ee2 ?hy_ee2 ?hS_ee2 ?rest_ee2; (case hr_ee2 => kernel_rfl); (case hf_ee2 => kernel_rfl); (case hs_ee2 => kernel_rfl); (case ho_ee2 => (simp only [List.getElem?_toArray, List.getElem?_cons_succ, List.getElem?_cons_zero]; rfl)); (case hS_ee2 => assumption); (case hQ_ee2 => exact fun _ _ _ h => h); (case hy_ee2 => (refine Or.inl ⟨by rfl, ?_⟩; (intro w hSw; obtain ⟨e0, g0⟩ := cells_of hSw; go_simp) <;> with_reducible rfl)); (try simp only [Act.put, List.setIfInBounds_toArray, List.set_cons_zero, List.set_cons_succ]))
        (refine wpAnyH_take (i := 3) (oi := ?oi_ee3) (v := ?v_ee3) ?ho_ee3 ?hs_ee3 ?hf_ee3 ?hr_ee3 ?hQ_ee3 ?hy_ee3 ?hS_ee3 ?rest_ee3; (case hr_ee3 => kernel_rfl); (case hf_ee3 => kernel_rfl); (case hs_ee3 => kernel_rfl); (case ho_ee3 => (simp only [List.getElem?_toArray, List.getElem?_cons_succ, List.getElem?_cons_zero]; rfl)); (case hS_ee3 => assumption); (case hQ_ee3 => exact fun _ _ _ h => h); (case hy_ee3 => (refine Or.inl ⟨by rfl, ?_⟩; (intro w hSw; obtain ⟨e0, g0⟩ := cells_of hSw; go_simp) <;> with_reducible rfl)); (try simp only [Act.put, List.setIfInBounds_toArray, List.set_cons_zero, List.set_cons_succ]))
        (refine wpAnyH_take (i := 4) (oi := ?oi_ee4) (v := ?v_ee4) ?ho_ee4 ?hs_ee4 ?hf_ee4 ?hr_ee4 ?hQ_ee4 ?hy_ee4 ?hS_ee4 ?rest_ee4; (case hr_ee4 => kernel_rfl); (case hf_ee4 => kernel_rfl); (case hs_ee4 => kernel_rfl); (case ho_ee4 => (simp only [List.getElem?_toArray, List.getElem?_cons_succ, List.getElem?_cons_zero]; rfl)); (case hS_ee4 => assumption); (case hQ_ee4 => exact fun _ _ _ h => h); (case hy_ee4 => (refine Or.inl ⟨by rfl, ?_⟩; (intro w hSw; obtain ⟨e0, g0⟩ := cells_of hSw; go_simp) <;> with_reducible rfl)); (try simp only [Act.put, List.setIfInBounds_toArray, List.set_cons_zero, List.set_cons_succ]))
        refine wpAnyH_ready (rs := [1]) (by kernel_rfl) (by simp) ?_
        refine (AllReadyH.cons (o := ?ooee5_0) ?hoee5_0 ?hsee5_0 AllReadyH.nil)
        case hoee5_0 => (simp only [List.getElem?_toArray, List.getElem?_cons_succ, List.getElem?_cons_zero]; rfl)
        case hsee5_0 =>
          intro K hK
          go_simp
          go_at_call 29
          refine (cP.out _ (Upd.drew Non _)).mono ?_
          rintro en w20 ⟨rfl, hu⟩
          have hN20 : Upd Non (w6.alloc (.cells #[.int .i64 xg, .int .i64 xr, .int .i64 xs, .int .i64 xe, .int .i64 xl, .int .i64 xm] 23)) w20 := (Upd.drew Non _).trans hu fun _ _ h => h
          have hX20 := hN20.heap HX fun h => h
          clear hu cP
          try go_wp2_with fail
          refine hK.out _ _ (by exact hX20) (fun hHeld => ?_)
          clear hK K
          try simp only [Act.put, List.setIfInBounds_toArray, List.set_cons_zero, List.set_cons_succ]
          (refine wpAnyH_take (i := 5) (oi := ?oi_ee6) (v := ?v_ee6) ?ho_ee6 ?hs_ee6 ?hf_ee6 ?hr_ee6 ?hQ_ee6 ?hy_ee6 ?hS_ee6 ?rest_ee6; (case hr_ee6 => kernel_rfl); (case hf_ee6 => kernel_rfl); (case hs_ee6 => kernel_rfl); (case ho_ee6 => (simp only [List.getElem?_toArray, List.getElem?_cons_succ, List.getElem?_cons_zero]; rfl)); (case hS_ee6 => assumption); (case hQ_ee6 => exact fun _ _ _ h => h); (case hy_ee6 => (refine Or.inl ⟨by rfl, ?_⟩; (intro w hSw; obtain ⟨e0, g0⟩ := cells_of hSw; go_simp) <;> with_reducible rfl)); (try simp only [Act.put, List.setIfInBounds_toArray, List.set_cons_zero, List.set_cons_succ]))
          (refine wpAnyH_take (i := 6) (oi := ?oi_ee7) (v := ?v_ee7) ?ho_ee7 ?hs_ee7 ?hf_ee7 ?hr_ee7 ?hQ_ee7 ?hy_ee7 ?hS_ee7 ?rest_ee7; (case hr_ee7 => kernel_rfl); (case hf_ee7 => kernel_rfl); (case hs_ee7 => kernel_rfl); (case ho_ee7 => (simp only [List.getElem?_toArray, List.getElem?_cons_succ, List.getElem?_cons_zero]; rfl)); (case hS_ee7 => assumption); (case hQ_ee7 => exact fun _ _ _ h => h); (case hy_ee7 => (refine Or.inl ⟨by rfl, ?_⟩; (intro w hSw; obtain ⟨e0, g0⟩ := cells_of hSw; go_simp) <;> with_reducible rfl)); (try simp only [Act.put, List.setIfInBounds_toArray, List.set_cons_zero, List.set_cons_succ]))
          (refine wpAnyH_take (i := 7) (oi := ?oi_ee8) (v := ?v_ee8) ?ho_ee8 ?hs_ee8 ?hf_ee8 ?hr_ee8 ?hQ_ee8 ?hy_ee8 ?hS_ee8 ?rest_ee8; (case hr_ee8 => kernel_rfl); (case hf_ee8 => kernel_rfl); (case hs_ee8 => kernel_rfl); (case ho_ee8 => (simp only [List.getElem?_toArray, List.getElem?_cons_succ, List.getElem?_cons_zero]; rfl)); (case hS_ee8 => assumption); (case hQ_ee8 => exact fun _ _ _ h => h); (case hy_ee8 => (refine Or.inl ⟨by rfl, ?_⟩; (intro w hSw; obtain ⟨e0, g0⟩ := cells_of hSw; go_simp) <;> with_reducible rfl)); (try simp only [Act.put, List.setIfInBounds_toArray, List.set_cons_zero, List.set_cons_succ]))
          (refine wpAnyH_take (i := 9) (oi := ?oi_ee9) (v := ?v_ee9) ?ho_ee9 ?hs_ee9 ?hf_ee9 ?hr_ee9 ?hQ_ee9 ?hy_ee9 ?hS_ee9 ?rest_ee9; (case hr_ee9 => kernel_rfl); (case hf_ee9 => kernel_rfl); (case hs_ee9 => kernel_rfl); (case ho_ee9 => (simp only [List.getElem?_toArray, List.getElem?_cons_succ, List.getElem?_cons_zero]; rfl)); (case hS_ee9 => assumption); (case hQ_ee9 => exact fun _ _ _ h => h); (case hy_ee9 => (refine Or.inl ⟨by rfl, ?_⟩; (intro w hSw; obtain ⟨e0, g0⟩ := cells_of hSw; go_simp) <;> with_reducible rfl)); (try simp only [Act.put, List.setIfInBounds_toArray, List.set_cons_zero, List.set_cons_succ]))
          (refine wpAnyH_take (i := 10) (oi := ?oi_ee10) (v := ?v_ee10) ?ho_ee10 ?hs_ee10 ?hf_ee10 ?hr_ee10 ?hQ_ee10 ?hy_ee10 ?hS_ee10 ?rest_ee10; (case hr_ee10 => kernel_rfl); (case hf_ee10 => kernel_rfl); (case hs_ee10 => kernel_rfl); (case ho_ee10 => (simp only [List.getElem?_toArray, List.getElem?_cons_succ, List.getElem?_cons_zero]; rfl)); (case hS_ee10 => assumption); (case hQ_ee10 => exact fun _ _ _ h => h); (case hy_ee10 => (refine Or.inl ⟨by rfl, ?_⟩; (intro w hSw; obtain ⟨e0, g0⟩ := cells_of hSw; go_simp) <;> with_reducible rfl)); (try simp only [Act.put, List.setIfInBounds_toArray, List.set_cons_zero, List.set_cons_succ]))
          refine wpAnyH_ready (rs := [8]) (by kernel_rfl) (by simp) ?_
          refine (AllReadyH.cons (o := ?ooee11_0) ?hoee11_0 ?hsee11_0 AllReadyH.nil)
          case hoee11_0 => (simp only [List.getElem?_toArray, List.getElem?_cons_succ, List.getElem?_cons_zero]; rfl)
          case hsee11_0 =>
            intro K hK
            go_simp
            go_at_call 30
            refine (cE.out _ hN20).mono ?_
            rintro en w21 ⟨rfl, hu⟩
            have hN21 : Upd Non (w6.alloc (.cells #[.int .i64 xg, .int .i64 xr, .int .i64 xs, .int .i64 xe, .int .i64 xl, .int .i64 xm] 23)) w21 := hN20.trans hu fun _ _ h => h
            have hX21 := hN21.heap HX fun h => h
            clear hu cE
            try go_wp2_with fail
            refine hK.out _ _ (by exact hX21) (fun hHeld => ?_)
            clear hK K
            try simp only [Act.put, List.setIfInBounds_toArray, List.set_cons_zero, List.set_cons_succ]
            (refine wpAnyH_take (i := 11) (oi := ?oi_ee12) (v := ?v_ee12) ?ho_ee12 ?hs_ee12 ?hf_ee12 ?hr_ee12 ?hQ_ee12 ?hy_ee12 ?hS_ee12 ?rest_ee12; (case hr_ee12 => kernel_rfl); (case hf_ee12 => kernel_rfl); (case hs_ee12 => kernel_rfl); (case ho_ee12 => (simp only [List.getElem?_toArray, List.getElem?_cons_succ, List.getElem?_cons_zero]; rfl)); (case hS_ee12 => assumption); (case hQ_ee12 => exact fun _ _ _ h => h); (case hy_ee12 => (refine Or.inl ⟨by rfl, ?_⟩; (intro w hSw; obtain ⟨e0, g0⟩ := cells_of hSw; go_simp) <;> with_reducible rfl)); (try simp only [Act.put, List.setIfInBounds_toArray, List.set_cons_zero, List.set_cons_succ]))
            (refine wpAnyH_take (i := 12) (oi := ?oi_ee13) (v := ?v_ee13) ?ho_ee13 ?hs_ee13 ?hf_ee13 ?hr_ee13 ?hQ_ee13 ?hy_ee13 ?hS_ee13 ?rest_ee13; (case hr_ee13 => kernel_rfl); (case hf_ee13 => kernel_rfl); (case hs_ee13 => kernel_rfl); (case ho_ee13 => (simp only [List.getElem?_toArray, List.getElem?_cons_succ, List.getElem?_cons_zero]; rfl)); (case hS_ee13 => assumption); (case hQ_ee13 => exact fun _ _ _ h => h); (case hy_ee13 => (refine Or.inl ⟨by rfl, ?_⟩; (intro w hSw; obtain ⟨e0, g0⟩ := cells_of hSw; go_simp) <;> with_reducible rfl)); (try simp only [Act.put, List.setIfInBounds_toArray, List.set_cons_zero, List.set_cons_succ]))
            refine wpAnyH_done (by kernel_rfl) ?_ _
            clear hHeld
            go_wp2_with fail
            go_roundw
            case rel => exact ⟨k + 1, F, d, r, _, _, by go_num, by omega, (HB.out.non hN21).sub fun q hq => .inl hq, HS.out, by rw [show rc (r) (.slice ka kn kc) (.slice pa pn pc) = #[.int .i64 m, .slice ka kn kc, .slice pa pn pc, .int .i64 f, .bool dd] from Value.agg.inj HL.out]; exact hX21, HPl⟩
            case measure => simp [intOf]; omega
      have h1c : (kind == 1) = false := by simp [h1]
      have h2c : (kind == 2) = false := by simp [h2]
      have h3c : (kind == 3) = false := by simp [h3]
      have h4c : (kind == 4) = false := by simp [h4]
      have cC := qSave hBA hS hok (by omega) ⟨sg, sr, ss, se, sl, sm⟩
      rw [hlit] at cC
      have hB9 := Lib.hid hBA
      have HPl : (saveR d ⟨sg, sr, ss, se, sl, sm⟩).1.P.length ≤ k + 1 := by have := savep_P d ⟨sg, sr, ss, se, sl, sm⟩; omega
      have cD := Lib.hid (fun (w' : World) r' kv' pv' (h : Bth (fun q => q = M ∨ q = wr.heap.size) w w' D F d r' kv' pv') => dSave h (by omega) ⟨sg, sr, ss, se, sl, sm⟩)
      generalize saveR d ⟨sg, sr, ss, se, sl, sm⟩ = sv at *
      obtain ⟨d9, ⟨xg, xr, xs, xe, xl, xm⟩, xc⟩ := sv
      unfold QSave spV at cC
      unfold spV at cD
      simp only at cC cD HPl
      replace cC := Lib.hid cC
      clear hBA
      go_wp2_with fail
      refine cC.out.mono ?_
      rintro en w5 ⟨r5, kv5, pv5, rfl, hS5, hB5, hu⟩
      obtain ⟨m1, ka1, kn1, kc1, pa1, pn1, pc1, f1, dd1, HL, -, -⟩ := rfv_lit2 hB5.rat
      rw [HL]
      have hkv5 : kv5 = .slice ka1 kn1 kc1 ∧ pv5 = .slice pa1 pn1 pc1 := by have := Value.agg.inj HL; simp at this; exact ⟨this.2.1, this.2.2.1⟩
      obtain ⟨rfl, rfl⟩ := hkv5
      replace hX := hu.heap hX fun h => h
      replace hA := hu.heap hA fun h => h
      have hFl : ∀ q, F q → q < w5.heap.size := hB5.lv.at_.lt
      have hzA : wr.heap.size < w5.heap.size := heap_lt hA
      have hzM : M < w5.heap.size := heap_lt hX
      have hMF := (hB5.bs M (.inl rfl)).1
      have hAF := (hB5.bs wr.heap.size (.inr rfl)).1
      replace hB5 := Lib.hid hB5
      replace HL := Lib.hid HL
      replace hS5 := Lib.hid hS5
      clear hu cC
      clear y0 y1 y2 y3 y4 y5 y6 y7 y8 y9 c0 f0
      go_wp2_with ((with_reducible (show wpList _ _ _ (⟨_, Op.store _ _ _, _, _, _, _⟩ :: _) _ _)); refine storeB_list rfl 64 _ _ rfl w5.heap.size #[.int .i64 m1, .slice ka1 kn1 kc1, .slice pa1 pn1 pc1, .int .i64 f1, .bool dd1] _ _ rfl rfl (heap_alloc2_old w5 (.cells #[.int .i64 0, .slice none 0 0, .slice none 0 0, .int .i64 0, .bool false] 64) (.cells #[.int .i64 0, .int .i64 0, .int .i64 0, .int .i64 0, .int .i64 0, .int .i64 0] 23)) rfl hs5.out (by simp [Value.oneCell']) ?_)
      intro w6 hY hu
      have hZ := hu.heap (heap_alloc2_new w5 (.cells #[.int .i64 0, .slice none 0 0, .slice none 0 0, .int .i64 0, .bool false] 64) (.cells #[.int .i64 0, .int .i64 0, .int .i64 0, .int .i64 0, .int .i64 0, .int .i64 0] 23)) (fun e => by (have : w5.heap.size + 1 = w5.heap.size := e); omega)
      have hN6 : Upd Non w5 w6 := (((Upd.refl Non w5).then_alloc _).then_alloc _).trans hu fun q hq h => by (have : q = w5.heap.size := h); omega
      clear hu
      go_wp2_with ((with_reducible (show wpList _ _ _ (⟨_, Op.store _ _ _, _, _, _, _⟩ :: _) _ _)); refine storeB_list rfl 23 _ _ rfl (w5.heap.size + 1) #[.int .i64 xg, .int .i64 xr, .int .i64 xs, .int .i64 xe, .int .i64 xl, .int .i64 xm] _ _ rfl rfl hZ rfl size_sp.out (by simp [Value.oneCell']) ?_)
      intro w7 hZ7 hu
      replace hY := hu.heap hY (fun e => by (have : w5.heap.size = w5.heap.size + 1 := e); omega)
      have hN7 : Upd Non w5 w7 := hN6.trans hu fun q hq h => by (have : q = w5.heap.size + 1 := h); omega
      replace hX := hN7.heap hX fun h => h
      replace hA := hN7.heap hA fun h => h
      have hYF : ¬ F w5.heap.size := fun e => by have := hFl _ e; omega
      have hZF : ¬ F (w5.heap.size + 1) := fun e => by have := hFl _ e; omega
      have hzY : w5.heap.size < w7.heap.size := heap_lt hY
      replace cD := Lib.hid (cD.out _ _ _ _ (hB5.out.non hN7))
      clear hu hN6 hN7 hZ hB5 hFl
      obtain ⟨y0, y1, y2, y3, y4, y5, y6, y7, y8, y9⟩ := cells10 hA
      obtain ⟨c0, f0⟩ := cells_of hX
      go_wp2_with fail
      refine cD.out.mono ?_
      rintro en w8 ⟨rfl, F8, hB8, hu⟩
      have hW := Upd.alloc Non w8 (.cells #[.int .i64 xg, .int .i64 xr, .int .i64 xs, .int .i64 xe, .int .i64 xl, .int .i64 xm] 23)
      replace hX := hW.heap (hu.heap hX hMF) fun h => h
      replace hY := hW.heap (hu.heap hY hYF) fun h => h
      replace hZ7 := hW.heap (hu.heap hZ7 hZF) fun h => h
      have hV := heap_alloc_new w8 (.cells #[.int .i64 xg, .int .i64 xr, .int .i64 xs, .int .i64 xe, .int .i64 xl, .int .i64 xm] 23)
      replace hB8 := Lib.hid (hB8.non hW)
      clear hu hW cD hMF hAF hYF hZF hA
      clear y0 y1 y2 y3 y4 y5 y6 y7 y8 y9 c0 f0
      obtain ⟨p0, p1, p2, p3, p4, p5⟩ := cells6 hV
      obtain ⟨q0, q1, q2, q3, q4, q5⟩ := cells6 hZ7
      obtain ⟨v0, v1⟩ := cells_of hY
      clear hV hZ7
      go_wp2_with ((with_reducible (show wpList _ _ _ (⟨_, Op.store _ _ _, _, _, _, _⟩ :: _) _ _)); refine storeB_list rfl 64 _ _ rfl M #[.int .i64 m1, .slice ka1 kn1 kc1, .slice pa1 pn1 pc1, .int .i64 f1, .bool dd1] _ _ rfl rfl hX rfl hs5.out (by simp [Value.oneCell']) ?_)
      intro w10 HX hu
      have HB := hB8.out.upd hu fun q hq => .inl hq
      have HS := hS5.out
      replace HL := HL.out
      clear hu hX hY v0 v1 hB8 hS5 p0 p1 p2 p3 p4 p5 q0 q1 q2 q3 q4 q5
      have hpn : pn1 = (d9).P.length := by have := lit_pn HB.rat; rw [this, HS.p]
      have hdd : dd1 = (d9).dd := by have := lit_dd HL; rw [this, HS.dd]
      have cP : Hid (∀ w', Upd Non w10 w' → Calls Try.prog 29 #[.pointer (some ⟨D, 0, none⟩)] w' (Ret (.int .i64 (pn1 : Int)) w')) := Lib.hid (fun w' hu => by have := lPending (HB.non hu).lv.at_; rw [← hpn] at this; exact this)
      have cE : Hid (∀ w', Upd Non w10 w' → Calls Try.prog 30 #[.pointer (some ⟨D, 0, none⟩)] w' (Ret (.bool dd1) w')) := Lib.hid (fun w' hu => by have := lDead (HB.non hu).lv.at_; rw [← hdd] at this; exact this)
      replace HB := Lib.hid HB
      replace HS := Lib.hid HS
      replace HL := Lib.hid HL
      clear hpn hdd
      go_wp2_with fail
      refine wp_region_held_drew (S := (fun w' => w'.heap[M]? = some (.cells #[.int .i64 m1, .slice ka1 kn1 kc1, .slice pa1 pn1 pc1, .int .i64 f1, .bool dd1] 64 (0, 0)))) (by kernel_rfl) (by exact HX) (fun hHeld => ?_)
      (refine wpAnyH_take (i := 0) (oi := ?oi_ef1) (v := ?v_ef1) ?ho_ef1 ?hs_ef1 ?hf_ef1 ?hr_ef1 ?hQ_ef1 ?hy_ef1 ?hS_ef1 ?rest_ef1; (case hr_ef1 => kernel_rfl); (case hf_ef1 => kernel_rfl); (case hs_ef1 => kernel_rfl); (case ho_ef1 => (simp only [List.getElem?_toArray, List.getElem?_cons_succ, List.getElem?_cons_zero]; rfl)); (case hS_ef1 => assumption); (case hQ_ef1 => exact fun _ _ _ h => h); (case hy_ef1 => (refine Or.inl ⟨by rfl, ?_⟩; (intro w hSw; obtain ⟨e0, g0⟩ := cells_of hSw; go_simp) <;> with_reducible rfl)); (try simp only [Act.put, List.setIfInBounds_toArray, List.set_cons_zero, List.set_cons_succ]))
      (refine wpAnyH_take (i := 2) (oi := ?oi_ef2) (v := ?v_ef2) ?ho_ef2 ?hs_ef2 ?hf_ef2 ?hr_ef2 ?hQ_ef2 ?hy_ef2 ?hS_ef2 ?rest_ef2; (case hr_ef2 => kernel_rfl); (case hf_ef2 => kernel_rfl); (case hs_ef2 => kernel_rfl); (case ho_ef2 => (simp only [List.getElem?_toArray, List.getElem?_cons_succ, List.getElem?_cons_zero]; rfl)); (case hS_ef2 => assumption); (case hQ_ef2 => exact fun _ _ _ h => h); (case hy_ef2 => (refine Or.inl ⟨by rfl, ?_⟩; (intro w hSw; obtain ⟨e0, g0⟩ := cells_of hSw; go_simp) <;> with_reducible rfl)); (try simp only [Act.put, List.setIfInBounds_toArray, List.set_cons_zero, List.set_cons_succ]))
      (refine wpAnyH_take (i := 3) (oi := ?oi_ef3) (v := ?v_ef3) ?ho_ef3 ?hs_ef3 ?hf_ef3 ?hr_ef3 ?hQ_ef3 ?hy_ef3 ?hS_ef3 ?rest_ef3; (case hr_ef3 => kernel_rfl); (case hf_ef3 => kernel_rfl); (case hs_ef3 => kernel_rfl); (case ho_ef3 => (simp only [List.getElem?_toArray, List.getElem?_cons_succ, List.getElem?_cons_zero]; rfl)); (case hS_ef3 => assumption); (case hQ_ef3 => exact fun _ _ _ h => h); (case hy_ef3 => (refine Or.inl ⟨by rfl, ?_⟩; (intro w hSw; obtain ⟨e0, g0⟩ := cells_of hSw; go_simp) <;> with_reducible rfl)); (try simp only [Act.put, List.setIfInBounds_toArray, List.set_cons_zero, List.set_cons_succ]))
      (refine wpAnyH_take (i := 4) (oi := ?oi_ef4) (v := ?v_ef4) ?ho_ef4 ?hs_ef4 ?hf_ef4 ?hr_ef4 ?hQ_ef4 ?hy_ef4 ?hS_ef4 ?rest_ef4; (case hr_ef4 => kernel_rfl); (case hf_ef4 => kernel_rfl); (case hs_ef4 => kernel_rfl); (case ho_ef4 => (simp only [List.getElem?_toArray, List.getElem?_cons_succ, List.getElem?_cons_zero]; rfl)); (case hS_ef4 => assumption); (case hQ_ef4 => exact fun _ _ _ h => h); (case hy_ef4 => (refine Or.inl ⟨by rfl, ?_⟩; (intro w hSw; obtain ⟨e0, g0⟩ := cells_of hSw; go_simp) <;> with_reducible rfl)); (try simp only [Act.put, List.setIfInBounds_toArray, List.set_cons_zero, List.set_cons_succ]))
      refine wpAnyH_ready (rs := [1]) (by kernel_rfl) (by simp) ?_
      refine (AllReadyH.cons (o := ?ooef5_0) ?hoef5_0 ?hsef5_0 AllReadyH.nil)
      case hoef5_0 => (simp only [List.getElem?_toArray, List.getElem?_cons_succ, List.getElem?_cons_zero]; rfl)
      case hsef5_0 =>
        intro K hK
        go_simp
        go_at_call 29
        refine (cP.out _ (Upd.drew Non _)).mono ?_
        rintro en w20 ⟨rfl, hu⟩
        have hN20 : Upd Non w10 w20 := (Upd.drew Non _).trans hu fun _ _ h => h
        have hX20 := hN20.heap HX fun h => h
        clear hu cP
        try go_wp2_with fail
        refine hK.out _ _ (by exact hX20) (fun hHeld => ?_)
        clear hK K
        try simp only [Act.put, List.setIfInBounds_toArray, List.set_cons_zero, List.set_cons_succ]
        (refine wpAnyH_take (i := 5) (oi := ?oi_ef6) (v := ?v_ef6) ?ho_ef6 ?hs_ef6 ?hf_ef6 ?hr_ef6 ?hQ_ef6 ?hy_ef6 ?hS_ef6 ?rest_ef6; (case hr_ef6 => kernel_rfl); (case hf_ef6 => kernel_rfl); (case hs_ef6 => kernel_rfl); (case ho_ef6 => (simp only [List.getElem?_toArray, List.getElem?_cons_succ, List.getElem?_cons_zero]; rfl)); (case hS_ef6 => assumption); (case hQ_ef6 => exact fun _ _ _ h => h); (case hy_ef6 => (refine Or.inl ⟨by rfl, ?_⟩; (intro w hSw; obtain ⟨e0, g0⟩ := cells_of hSw; go_simp) <;> with_reducible rfl)); (try simp only [Act.put, List.setIfInBounds_toArray, List.set_cons_zero, List.set_cons_succ]))
        (refine wpAnyH_take (i := 6) (oi := ?oi_ef7) (v := ?v_ef7) ?ho_ef7 ?hs_ef7 ?hf_ef7 ?hr_ef7 ?hQ_ef7 ?hy_ef7 ?hS_ef7 ?rest_ef7; (case hr_ef7 => kernel_rfl); (case hf_ef7 => kernel_rfl); (case hs_ef7 => kernel_rfl); (case ho_ef7 => (simp only [List.getElem?_toArray, List.getElem?_cons_succ, List.getElem?_cons_zero]; rfl)); (case hS_ef7 => assumption); (case hQ_ef7 => exact fun _ _ _ h => h); (case hy_ef7 => (refine Or.inl ⟨by rfl, ?_⟩; (intro w hSw; obtain ⟨e0, g0⟩ := cells_of hSw; go_simp) <;> with_reducible rfl)); (try simp only [Act.put, List.setIfInBounds_toArray, List.set_cons_zero, List.set_cons_succ]))
        (refine wpAnyH_take (i := 7) (oi := ?oi_ef8) (v := ?v_ef8) ?ho_ef8 ?hs_ef8 ?hf_ef8 ?hr_ef8 ?hQ_ef8 ?hy_ef8 ?hS_ef8 ?rest_ef8; (case hr_ef8 => kernel_rfl); (case hf_ef8 => kernel_rfl); (case hs_ef8 => kernel_rfl); (case ho_ef8 => (simp only [List.getElem?_toArray, List.getElem?_cons_succ, List.getElem?_cons_zero]; rfl)); (case hS_ef8 => assumption); (case hQ_ef8 => exact fun _ _ _ h => h); (case hy_ef8 => (refine Or.inl ⟨by rfl, ?_⟩; (intro w hSw; obtain ⟨e0, g0⟩ := cells_of hSw; go_simp) <;> with_reducible rfl)); (try simp only [Act.put, List.setIfInBounds_toArray, List.set_cons_zero, List.set_cons_succ]))
        (refine wpAnyH_take (i := 9) (oi := ?oi_ef9) (v := ?v_ef9) ?ho_ef9 ?hs_ef9 ?hf_ef9 ?hr_ef9 ?hQ_ef9 ?hy_ef9 ?hS_ef9 ?rest_ef9; (case hr_ef9 => kernel_rfl); (case hf_ef9 => kernel_rfl); (case hs_ef9 => kernel_rfl); (case ho_ef9 => (simp only [List.getElem?_toArray, List.getElem?_cons_succ, List.getElem?_cons_zero]; rfl)); (case hS_ef9 => assumption); (case hQ_ef9 => exact fun _ _ _ h => h); (case hy_ef9 => (refine Or.inl ⟨by rfl, ?_⟩; (intro w hSw; obtain ⟨e0, g0⟩ := cells_of hSw; go_simp) <;> with_reducible rfl)); (try simp only [Act.put, List.setIfInBounds_toArray, List.set_cons_zero, List.set_cons_succ]))
        (refine wpAnyH_take (i := 10) (oi := ?oi_ef10) (v := ?v_ef10) ?ho_ef10 ?hs_ef10 ?hf_ef10 ?hr_ef10 ?hQ_ef10 ?hy_ef10 ?hS_ef10 ?rest_ef10; (case hr_ef10 => kernel_rfl); (case hf_ef10 => kernel_rfl); (case hs_ef10 => kernel_rfl); (case ho_ef10 => (simp only [List.getElem?_toArray, List.getElem?_cons_succ, List.getElem?_cons_zero]; rfl)); (case hS_ef10 => assumption); (case hQ_ef10 => exact fun _ _ _ h => h); (case hy_ef10 => (refine Or.inl ⟨by rfl, ?_⟩; (intro w hSw; obtain ⟨e0, g0⟩ := cells_of hSw; go_simp) <;> with_reducible rfl)); (try simp only [Act.put, List.setIfInBounds_toArray, List.set_cons_zero, List.set_cons_succ]))
        refine wpAnyH_ready (rs := [8]) (by kernel_rfl) (by simp) ?_
        refine (AllReadyH.cons (o := ?ooef11_0) ?hoef11_0 ?hsef11_0 AllReadyH.nil)
        case hoef11_0 => (simp only [List.getElem?_toArray, List.getElem?_cons_succ, List.getElem?_cons_zero]; rfl)
        case hsef11_0 =>
          intro K hK
          go_simp
          go_at_call 30
          refine (cE.out _ hN20).mono ?_
          rintro en w21 ⟨rfl, hu⟩
          have hN21 : Upd Non w10 w21 := hN20.trans hu fun _ _ h => h
          have hX21 := hN21.heap HX fun h => h
          clear hu cE
          try go_wp2_with fail
          refine hK.out _ _ (by exact hX21) (fun hHeld => ?_)
          clear hK K
          try simp only [Act.put, List.setIfInBounds_toArray, List.set_cons_zero, List.set_cons_succ]
          (refine wpAnyH_take (i := 11) (oi := ?oi_ef12) (v := ?v_ef12) ?ho_ef12 ?hs_ef12 ?hf_ef12 ?hr_ef12 ?hQ_ef12 ?hy_ef12 ?hS_ef12 ?rest_ef12; (case hr_ef12 => kernel_rfl); (case hf_ef12 => kernel_rfl); (case hs_ef12 => kernel_rfl); (case ho_ef12 => (simp only [List.getElem?_toArray, List.getElem?_cons_succ, List.getElem?_cons_zero]; rfl)); (case hS_ef12 => assumption); (case hQ_ef12 => exact fun _ _ _ h => h); (case hy_ef12 => (refine Or.inl ⟨by rfl, ?_⟩; (intro w hSw; obtain ⟨e0, g0⟩ := cells_of hSw; go_simp) <;> with_reducible rfl)); (try simp only [Act.put, List.setIfInBounds_toArray, List.set_cons_zero, List.set_cons_succ]))
          (refine wpAnyH_take (i := 12) (oi := ?oi_ef13) (v := ?v_ef13) ?ho_ef13 ?hs_ef13 ?hf_ef13 ?hr_ef13 ?hQ_ef13 ?hy_ef13 ?hS_ef13 ?rest_ef13; (case hr_ef13 => kernel_rfl); (case hf_ef13 => kernel_rfl); (case hs_ef13 => kernel_rfl); (case ho_ef13 => (simp only [List.getElem?_toArray, List.getElem?_cons_succ, List.getElem?_cons_zero]; rfl)); (case hS_ef13 => assumption); (case hQ_ef13 => exact fun _ _ _ h => h); (case hy_ef13 => (refine Or.inl ⟨by rfl, ?_⟩; (intro w hSw; obtain ⟨e0, g0⟩ := cells_of hSw; go_simp) <;> with_reducible rfl)); (try simp only [Act.put, List.setIfInBounds_toArray, List.set_cons_zero, List.set_cons_succ]))
          refine wpAnyH_done (by kernel_rfl) ?_ _
          clear hHeld
          go_wp2_with fail
          go_roundw
          case rel => exact ⟨k + 1, F8, d9, r5, _, _, by go_num, by omega, (HB.out.non hN21).sub fun q hq => .inl hq, HS.out, by rw [show rc (r5) (.slice ka1 kn1 kc1) (.slice pa1 pn1 pc1) = #[.int .i64 m1, .slice ka1 kn1 kc1, .slice pa1 pn1 pc1, .int .i64 f1, .bool dd1] from Value.agg.inj HL.out]; exact hX21, HPl⟩
          case measure => simp [intOf]; omega
    · have hkI : ¬ (k : Int) < (l.length : Int) := by omega
      have hU := hB.lv.upd
      go_wp2_with fail
      refine (hlv.out _).mono ?_
      rintro en w9 ⟨rfl, hu⟩
      go_wp2_with fail
      go_ret
      exact ⟨rfl, hU.trans hu fun _ _ h => h⟩
theorem plays11 (n : Int) (v : Value) (l : List Ac) (w : World) (hA : Acs w v l) : Calls Try.prog 9 #[.int .i64 n, v] w (Ret (.bool true) w) := by
  by_cases h : n < 1 ∨ 20 < n ∨ 100 < l.length
  · obtain ⟨a, c, rfl, -⟩ := hA.form
    exact playsOut n a l.length c w h
  · obtain ⟨m, rfl⟩ := Int.eq_ofNat_of_zero_le (show 0 ≤ n by omega)
    exact playsIn m (by omega) (by omega) v l w hA (by omega)
end Go.Proofs.Ytgdkgnolkepgdaa
