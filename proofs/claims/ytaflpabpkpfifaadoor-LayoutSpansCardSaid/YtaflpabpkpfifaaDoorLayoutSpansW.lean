/- The walk of LayoutSpans. -/
import Derived.Test.YtaflpabpkpfifaaDoorLyM
import Derived.Test.YtaflpabpkpfifaaDoorLyL
namespace Go.Proofs.YtaflpabpkpfifaaDoor
set_option maxRecDepth 100000
open Go.RowKit Go.Amb
set_option linter.unusedVariables false
attribute [local go_sem ↓] Go.wp_at_zero Go.wp_at_succ

def KyOk (x : Ky) : Prop := (∀ n ∈ x.ns, i64Ok n) ∧ x.b.length ≤ 140737488355328 ∧ x.o.length ≤ 140737488355328
set_option maxHeartbeats 4000000 in
theorem spans_any (x y : Ky) (nv mv : Value) (w : World) (hN : Ints w nv x.ns) (hM : Ints w mv y.ns) (hx : KyOk x) (hy : KyOk y) : Calls Tryd.prog 5 #[kyV x nv, kyV y mv] w (Ret (.bool true) w) := by
  have hlv := Lib.hid lives21
  have hf1 := Lib.hid (fun w' (hu : Upd Non w w') => l21Few x nv w' (hN.upd hu fun _ _ h => h))
  have hf2 := Lib.hid (fun w' (hu : Upd Non w w') => l21Few y mv w' (hM.upd hu fun _ _ h => h))
  have hsp := Lib.hid (fun w' (hu : Upd Non w w') => ySpan x nv w' (hN.upd hu fun _ _ h => h) hx.1 hx.2.1 hx.2.2)
  have hky := Lib.hid (fun w' (hu : Upd Non w w') => yKey y mv w' (hM.upd hu fun _ _ h => h) hy.1 hy.2.1 hy.2.2)
  have hbg := Lib.hid (fun w' (hu : Upd Non w w') => l21Begins x y nv mv w' (hN.upd hu fun _ _ h => h) (hM.upd hu fun _ _ h => h))
  have hwi := fun h1 h2 => span_within (x := x) (y := y) h1 h2 hx.1 hy.1
  obtain ⟨na, nc, rfl⟩ : ∃ a c, nv = .slice a x.ns.length c := by obtain ⟨_, a, c, e, _⟩ := hN; exact ⟨a, c, e⟩
  obtain ⟨ma, mc, rfl⟩ : ∃ a c, mv = .slice a y.ns.length c := by obtain ⟨_, a, c, e, _⟩ := hM; exact ⟨a, c, e⟩
  clear hN hM hx hy
  generalize spanR x = sr at *
  generalize keyR y = kr at *
  generalize decide (BegK x y) = bb at *
  obtain ⟨⟨s0, s1⟩, e1⟩ := sr
  obtain ⟨t, e2⟩ := kr
  simp only at hwi
  replace hwi := Lib.hid hwi
  have hst : Upd Non w ((w.alloc (.cells #[.int .i64 x.k, .string ⟨x.b.toArray⟩, .string ⟨x.o.toArray⟩, .slice na x.ns.length nc] 25)).alloc (.cells #[.int .i64 y.k, .string ⟨y.b.toArray⟩, .string ⟨y.o.toArray⟩, .slice ma y.ns.length mc] 25)) := (Upd.alloc Non w _).then_alloc _
  generalize x.ns.length = n1 at *
  generalize y.ns.length = n2 at *
  generalize decide (fewK x) = f1 at *
  generalize decide (fewK y) = f2 at *
  unfold kyV txtV spV at *
  unfold txtV at *
  generalize x.k = xk at *
  generalize x.b = xb at *
  generalize x.o = xo at *
  generalize y.k = yk at *
  generalize y.b = yb at *
  generalize y.o = yo at *
  go_enter Tryd.func5, Tryd.ntmps5
  simp only at *
  go_wp2_with fail
  refine (hf1.out _ hst).mono ?_
  rintro e w1 ⟨rfl, hX⟩
  clear hst
  have q1 := (hX.own2 (fun _ h => h.elim)).1
  have q2 := (hX.own2 (fun _ h => h.elim)).2.2.1
  have a0 := q1 0
  have a1 := q1 1
  have a2 := q1 2
  have a3 := q1 3
  have b0 := q2 0
  have b1 := q2 1
  have b2 := q2 2
  have b3 := q2 3
  clear q1 q2
  cases f1 with
  | false =>
    go_wp2_with fail
    refine (hlv.out _).mono ?_
    rintro e w9 ⟨rfl, hu9⟩
    go_wp2_with fail
    go_ret
    exact ⟨rfl, (hX.trans hu9 fun _ _ h => h).own2 (fun _ h => h.elim) |>.2.2.2.2.2.2⟩
  | true =>
    go_wp2_with fail
    refine (hf2.out _ (hX.own2 (fun _ h => h.elim)).2.2.2.2.2.2).mono ?_
    rintro e w2 ⟨rfl, hu⟩
    replace hX := hX.trans hu fun _ _ h => h
    clear hu a0 a1 a2 a3 b0 b1 b2 b3
    have q1 := (hX.own2 (fun _ h => h.elim)).1
    have q2 := (hX.own2 (fun _ h => h.elim)).2.2.1
    have a0 := q1 0
    have a1 := q1 1
    have a2 := q1 2
    have a3 := q1 3
    have b0 := q2 0
    have b1 := q2 1
    have b2 := q2 2
    have b3 := q2 3
    clear q1 q2
    cases f2 with
    | false =>
      go_wp2_with fail
      refine (hlv.out _).mono ?_
      rintro e w9 ⟨rfl, hu9⟩
      go_wp2_with fail
      go_ret
      exact ⟨rfl, (hX.trans hu9 fun _ _ h => h).own2 (fun _ h => h.elim) |>.2.2.2.2.2.2⟩
    | true =>
      go_wp2_with fail
      refine (hsp.out _ (hX.own2 (fun _ h => h.elim)).2.2.2.2.2.2).mono ?_
      rintro e w3 ⟨rfl, hu⟩
      replace hX := hX.trans hu fun _ _ h => h
      clear hu a0 a1 a2 a3 b0 b1 b2 b3
      have hY := hX.then_alloc (.cells #[.string ⟨s0.toArray⟩, .string ⟨s1.toArray⟩] 34)
      have hbs := heap_alloc_new w3 (.cells #[.string ⟨s0.toArray⟩, .string ⟨s1.toArray⟩] 34)
      have hX0 := hX
      clear hX
      have hX := hY
      clear hY
      have q1 := (hX.own2 (fun _ h => h.elim)).1
      have q2 := (hX.own2 (fun _ h => h.elim)).2.2.1
      have a0 := q1 0
      have a1 := q1 1
      have a2 := q1 2
      have a3 := q1 3
      have b0 := q2 0
      have b1 := q2 1
      have b2 := q2 2
      have b3 := q2 3
      clear q1 q2
      go_wp2_with fail
      refine (hky.out _ (hX.own2 (fun _ h => h.elim)).2.2.2.2.2.2).mono ?_
      rintro e w4 ⟨rfl, hu⟩
      replace hX := hX.trans hu fun _ _ h => h
      have hbs := hu.heap hbs fun h => h
      clear hu a0 a1 a2 a3 b0 b1 b2 b3 hX0
      by_cases he1 : e1 = 0
      · subst he1
        by_cases he2 : e2 = 0
        · subst he2
          replace hwi := Lib.hid (hwi.out rfl rfl)
          obtain ⟨z0, z1⟩ := cell2 hbs
          have hU := (hX.own2 (fun _ h => h.elim)).2.2.2.2.2.2
          have q1 := (hX.own2 (fun _ h => h.elim)).1
          have q2 := (hX.own2 (fun _ h => h.elim)).2.2.1
          clear hbs
          obtain ⟨v0, hv0⟩ : ∃ v, Op.bytesLess t s0 = v := ⟨_, rfl⟩
          obtain ⟨v1, hv1⟩ : ∃ v, Op.bytesLess t s1 = v := ⟨_, rfl⟩
          rw [hv0, hv1] at hwi
          cases v0 with
          | true =>
            obtain rfl : false = bb := hwi.out
            go_wp2_with fail
            refine wp_region_held_drew (S := (fun w' => (∀ j, w'.cell? ⟨w.heap.size, j, none⟩ = (#[.int .i64 xk, .string ⟨xb.toArray⟩, .string ⟨xo.toArray⟩, .slice na n1 nc] : Array Value)[j]?) ∧ (∀ j, w'.cell? ⟨w.heap.size + 1, j, none⟩ = (#[.int .i64 yk, .string ⟨yb.toArray⟩, .string ⟨yo.toArray⟩, .slice ma n2 mc] : Array Value)[j]?) ∧ w'.cell? ⟨w3.heap.size, 0, none⟩ = some (.string ⟨s0.toArray⟩) ∧ w'.cell? ⟨w3.heap.size, 1, none⟩ = some (.string ⟨s1.toArray⟩))) (by kernel_rfl) (by (try dsimp only); first | exact ⟨r1, r2, t0, t1⟩ | exact ⟨p1, p2, u0, u1⟩ | exact ⟨q1, q2, z0, z1⟩) (fun hHeld => ?_)
            (refine wpAnyH_take (i := 0) (oi := ?oi_1_0) (v := ?v_1_0) ?ho_1_0 ?hs_1_0 ?hf_1_0 ?hr_1_0 ?hQ_1_0 ?hy_1_0 ?hS_1_0 ?rest_1_0; (case hr_1_0 => kernel_rfl); (case hf_1_0 => kernel_rfl); (case hs_1_0 => kernel_rfl); (case ho_1_0 => (simp only [List.getElem?_toArray, List.getElem?_cons_succ, List.getElem?_cons_zero]; rfl)); (case hS_1_0 => assumption); (case hQ_1_0 => exact fun _ _ _ h => h); (case hy_1_0 => (refine Or.inl ⟨by rfl, ?_⟩; (intro w hSw; (try dsimp only at hSw); go_simp) <;> with_reducible rfl)); (try simp only [Act.put, List.setIfInBounds_toArray, List.set_cons_zero, List.set_cons_succ]))
            (refine wpAnyH_take (i := 1) (oi := ?oi_1_1) (v := ?v_1_1) ?ho_1_1 ?hs_1_1 ?hf_1_1 ?hr_1_1 ?hQ_1_1 ?hy_1_1 ?hS_1_1 ?rest_1_1; (case hr_1_1 => kernel_rfl); (case hf_1_1 => kernel_rfl); (case hs_1_1 => kernel_rfl); (case ho_1_1 => (simp only [List.getElem?_toArray, List.getElem?_cons_succ, List.getElem?_cons_zero]; rfl)); (case hS_1_1 => assumption); (case hQ_1_1 => exact fun _ _ _ h => h); (case hy_1_1 => (refine Or.inl ⟨by rfl, ?_⟩; (intro w hSw; (try dsimp only at hSw); go_simp) <;> with_reducible rfl)); (try simp only [Act.put, List.setIfInBounds_toArray, List.set_cons_zero, List.set_cons_succ]))
            (refine wpAnyH_take (i := 2) (oi := ?oi_1_2) (v := ?v_1_2) ?ho_1_2 ?hs_1_2 ?hf_1_2 ?hr_1_2 ?hQ_1_2 ?hy_1_2 ?hS_1_2 ?rest_1_2; (case hr_1_2 => kernel_rfl); (case hf_1_2 => kernel_rfl); (case hs_1_2 => kernel_rfl); (case ho_1_2 => (simp only [List.getElem?_toArray, List.getElem?_cons_succ, List.getElem?_cons_zero]; rfl)); (case hS_1_2 => assumption); (case hQ_1_2 => exact fun _ _ _ h => h); (case hy_1_2 => (refine Or.inl ⟨by rfl, ?_⟩; (intro w hSw; (try dsimp only at hSw); go_simp) <;> with_reducible rfl)); (try simp only [Act.put, List.setIfInBounds_toArray, List.set_cons_zero, List.set_cons_succ]))
            (refine wpAnyH_take (i := 3) (oi := ?oi_1_3) (v := ?v_1_3) ?ho_1_3 ?hs_1_3 ?hf_1_3 ?hr_1_3 ?hQ_1_3 ?hy_1_3 ?hS_1_3 ?rest_1_3; (case hr_1_3 => kernel_rfl); (case hf_1_3 => kernel_rfl); (case hs_1_3 => kernel_rfl); (case ho_1_3 => (simp only [List.getElem?_toArray, List.getElem?_cons_succ, List.getElem?_cons_zero]; rfl)); (case hS_1_3 => assumption); (case hQ_1_3 => exact fun _ _ _ h => h); (case hy_1_3 => (refine Or.inl ⟨by rfl, ?_⟩; (intro w hSw; (try dsimp only at hSw); go_simp) <;> with_reducible rfl)); (try simp only [Act.put, List.setIfInBounds_toArray, List.set_cons_zero, List.set_cons_succ]))
            (refine wpAnyH_take (i := 4) (oi := ?oi_1_4) (v := ?v_1_4) ?ho_1_4 ?hs_1_4 ?hf_1_4 ?hr_1_4 ?hQ_1_4 ?hy_1_4 ?hS_1_4 ?rest_1_4; (case hr_1_4 => kernel_rfl); (case hf_1_4 => kernel_rfl); (case hs_1_4 => kernel_rfl); (case ho_1_4 => (simp only [List.getElem?_toArray, List.getElem?_cons_succ, List.getElem?_cons_zero]; rfl)); (case hS_1_4 => assumption); (case hQ_1_4 => exact fun _ _ _ h => h); (case hy_1_4 => (refine Or.inl ⟨by rfl, ?_⟩; (intro w hSw; (try dsimp only at hSw); go_simp) <;> with_reducible rfl)); (try simp only [Act.put, List.setIfInBounds_toArray, List.set_cons_zero, List.set_cons_succ]))
            (refine wpAnyH_take (i := 5) (oi := ?oi_1_5) (v := undef) ?ho_1_5 ?hs_1_5 ?hf_1_5 ?hr_1_5 ?hQ_1_5 ?hy_1_5 ?hS_1_5 ?rest_1_5; (case hr_1_5 => kernel_rfl); (case hf_1_5 => kernel_rfl); (case hs_1_5 => kernel_rfl); (case ho_1_5 => (simp only [List.getElem?_toArray, List.getElem?_cons_succ, List.getElem?_cons_zero]; rfl)); (case hS_1_5 => assumption); (case hQ_1_5 => exact fun _ _ _ h => h); (case hy_1_5 => exact Or.inr ⟨by rfl, rfl⟩); (try simp only [Act.put, List.setIfInBounds_toArray, List.set_cons_zero, List.set_cons_succ]))
            (refine wpAnyH_take (i := 6) (oi := ?oi_1_6) (v := undef) ?ho_1_6 ?hs_1_6 ?hf_1_6 ?hr_1_6 ?hQ_1_6 ?hy_1_6 ?hS_1_6 ?rest_1_6; (case hr_1_6 => kernel_rfl); (case hf_1_6 => kernel_rfl); (case hs_1_6 => kernel_rfl); (case ho_1_6 => (simp only [List.getElem?_toArray, List.getElem?_cons_succ, List.getElem?_cons_zero]; rfl)); (case hS_1_6 => assumption); (case hQ_1_6 => exact fun _ _ _ h => h); (case hy_1_6 => exact Or.inr ⟨by rfl, rfl⟩); (try simp only [Act.put, List.setIfInBounds_toArray, List.set_cons_zero, List.set_cons_succ]))
            (refine wpAnyH_take (i := 7) (oi := ?oi_1_7) (v := undef) ?ho_1_7 ?hs_1_7 ?hf_1_7 ?hr_1_7 ?hQ_1_7 ?hy_1_7 ?hS_1_7 ?rest_1_7; (case hr_1_7 => kernel_rfl); (case hf_1_7 => kernel_rfl); (case hs_1_7 => kernel_rfl); (case ho_1_7 => (simp only [List.getElem?_toArray, List.getElem?_cons_succ, List.getElem?_cons_zero]; rfl)); (case hS_1_7 => assumption); (case hQ_1_7 => exact fun _ _ _ h => h); (case hy_1_7 => exact Or.inr ⟨by rfl, rfl⟩); (try simp only [Act.put, List.setIfInBounds_toArray, List.set_cons_zero, List.set_cons_succ]))
            (refine wpAnyH_take (i := 8) (oi := ?oi_1_8) (v := undef) ?ho_1_8 ?hs_1_8 ?hf_1_8 ?hr_1_8 ?hQ_1_8 ?hy_1_8 ?hS_1_8 ?rest_1_8; (case hr_1_8 => kernel_rfl); (case hf_1_8 => kernel_rfl); (case hs_1_8 => kernel_rfl); (case ho_1_8 => (simp only [List.getElem?_toArray, List.getElem?_cons_succ, List.getElem?_cons_zero]; rfl)); (case hS_1_8 => assumption); (case hQ_1_8 => exact fun _ _ _ h => h); (case hy_1_8 => exact Or.inr ⟨by rfl, rfl⟩); (try simp only [Act.put, List.setIfInBounds_toArray, List.set_cons_zero, List.set_cons_succ]))
            (refine wpAnyH_take (i := 9) (oi := ?oi_1_9) (v := ?v_1_9) ?ho_1_9 ?hs_1_9 ?hf_1_9 ?hr_1_9 ?hQ_1_9 ?hy_1_9 ?hS_1_9 ?rest_1_9; (case hr_1_9 => kernel_rfl); (case hf_1_9 => kernel_rfl); (case hs_1_9 => kernel_rfl); (case ho_1_9 => (simp only [List.getElem?_toArray, List.getElem?_cons_succ, List.getElem?_cons_zero]; rfl)); (case hS_1_9 => assumption); (case hQ_1_9 => exact fun _ _ _ h => h); (case hy_1_9 => (refine Or.inl ⟨by rfl, ?_⟩; (intro w hSw; (try dsimp only at hSw); go_simp) <;> with_reducible rfl)); (try simp only [Act.put, List.setIfInBounds_toArray, List.set_cons_zero, List.set_cons_succ]))
            (refine wpAnyH_take (i := 10) (oi := ?oi_1_10) (v := ?v_1_10) ?ho_1_10 ?hs_1_10 ?hf_1_10 ?hr_1_10 ?hQ_1_10 ?hy_1_10 ?hS_1_10 ?rest_1_10; (case hr_1_10 => kernel_rfl); (case hf_1_10 => kernel_rfl); (case hs_1_10 => kernel_rfl); (case ho_1_10 => (simp only [List.getElem?_toArray, List.getElem?_cons_succ, List.getElem?_cons_zero]; rfl)); (case hS_1_10 => assumption); (case hQ_1_10 => exact fun _ _ _ h => h); (case hy_1_10 => (refine Or.inl ⟨by rfl, ?_⟩; (intro w hSw; (try dsimp only at hSw); go_simp) <;> with_reducible rfl)); (try simp only [Act.put, List.setIfInBounds_toArray, List.set_cons_zero, List.set_cons_succ]))
            (refine wpAnyH_take (i := 11) (oi := ?oi_1_11) (v := ?v_1_11) ?ho_1_11 ?hs_1_11 ?hf_1_11 ?hr_1_11 ?hQ_1_11 ?hy_1_11 ?hS_1_11 ?rest_1_11; (case hr_1_11 => kernel_rfl); (case hf_1_11 => kernel_rfl); (case hs_1_11 => kernel_rfl); (case ho_1_11 => (simp only [List.getElem?_toArray, List.getElem?_cons_succ, List.getElem?_cons_zero]; rfl)); (case hS_1_11 => assumption); (case hQ_1_11 => exact fun _ _ _ h => h); (case hy_1_11 => (refine Or.inl ⟨by rfl, ?_⟩; (intro w hSw; (try dsimp only at hSw); go_simp) <;> with_reducible rfl)); (try simp only [Act.put, List.setIfInBounds_toArray, List.set_cons_zero, List.set_cons_succ]))
            (refine wpAnyH_ready (rs := [12]) (by kernel_rfl) (by simp) ?_; refine AllReadyH.cons (o := ?oo_1_12) ?hoo_1_12 ?hst_1_12 AllReadyH.nil; (case hoo_1_12 => (simp only [List.getElem?_toArray, List.getElem?_cons_succ, List.getElem?_cons_zero]; rfl)); intro K hK; go_simp; (first | (go_at_call 21; refine (hbg.out _ hU.then_drew).mono ?_; rintro e w5 ⟨rfl, hu5⟩; have X5 := hX.then_drew.trans hu5 (fun _ _ h => h); have p1 := (X5.own2 (fun _ h => h.elim)).1; have p2 := (X5.own2 (fun _ h => h.elim)).2.2.1; have u0 := hu5.cell (a := ⟨w3.heap.size, 0, none⟩) z0 (fun h => h); have u1 := hu5.cell (a := ⟨w3.heap.size, 1, none⟩) z1 (fun h => h)) | (go_at_call 9; refine (hlv.out _).mono ?_; rintro e w6 ⟨rfl, hu6⟩; have X6 := X5.trans hu6 (fun _ _ h => h); have r1 := (X6.own2 (fun _ h => h.elim)).1; have r2 := (X6.own2 (fun _ h => h.elim)).2.2.1; have t0 := hu6.cell u0 (fun h => h); have t1 := hu6.cell u1 (fun h => h))); (try go_wp2_with fail); refine hK.out _ _ (by (try dsimp only); first | exact ⟨r1, r2, t0, t1⟩ | exact ⟨p1, p2, u0, u1⟩ | exact ⟨q1, q2, z0, z1⟩) (fun hHeld => ?_); clear hK K; (try simp only [Act.put, List.setIfInBounds_toArray, List.set_cons_zero, List.set_cons_succ]))
            (refine wpAnyH_take (i := 13) (oi := ?oi_1_13) (v := ?v_1_13) ?ho_1_13 ?hs_1_13 ?hf_1_13 ?hr_1_13 ?hQ_1_13 ?hy_1_13 ?hS_1_13 ?rest_1_13; (case hr_1_13 => kernel_rfl); (case hf_1_13 => kernel_rfl); (case hs_1_13 => kernel_rfl); (case ho_1_13 => (simp only [List.getElem?_toArray, List.getElem?_cons_succ, List.getElem?_cons_zero]; rfl)); (case hS_1_13 => assumption); (case hQ_1_13 => exact fun _ _ _ h => h); (case hy_1_13 => (refine Or.inl ⟨by rfl, ?_⟩; (intro w hSw; (try dsimp only at hSw); go_simp) <;> with_reducible rfl)); (try simp only [Act.put, List.setIfInBounds_toArray, List.set_cons_zero, List.set_cons_succ]))
            (refine wpAnyH_take (i := 14) (oi := ?oi_1_14) (v := ?v_1_14) ?ho_1_14 ?hs_1_14 ?hf_1_14 ?hr_1_14 ?hQ_1_14 ?hy_1_14 ?hS_1_14 ?rest_1_14; (case hr_1_14 => kernel_rfl); (case hf_1_14 => kernel_rfl); (case hs_1_14 => kernel_rfl); (case ho_1_14 => (simp only [List.getElem?_toArray, List.getElem?_cons_succ, List.getElem?_cons_zero]; rfl)); (case hS_1_14 => assumption); (case hQ_1_14 => exact fun _ _ _ h => h); (case hy_1_14 => (refine Or.inl ⟨by rfl, ?_⟩; (intro w hSw; (try dsimp only at hSw); go_simp) <;> with_reducible rfl)); (try simp only [Act.put, List.setIfInBounds_toArray, List.set_cons_zero, List.set_cons_succ]))
            (refine wpAnyH_ready (rs := [15]) (by kernel_rfl) (by simp) ?_; refine AllReadyH.cons (o := ?oo_1_15) ?hoo_1_15 ?hst_1_15 AllReadyH.nil; (case hoo_1_15 => (simp only [List.getElem?_toArray, List.getElem?_cons_succ, List.getElem?_cons_zero]; rfl)); intro K hK; go_simp; (first | (go_at_call 21; refine (hbg.out _ hU.then_drew).mono ?_; rintro e w5 ⟨rfl, hu5⟩; have X5 := hX.then_drew.trans hu5 (fun _ _ h => h); have p1 := (X5.own2 (fun _ h => h.elim)).1; have p2 := (X5.own2 (fun _ h => h.elim)).2.2.1; have u0 := hu5.cell (a := ⟨w3.heap.size, 0, none⟩) z0 (fun h => h); have u1 := hu5.cell (a := ⟨w3.heap.size, 1, none⟩) z1 (fun h => h)) | (go_at_call 9; refine (hlv.out _).mono ?_; rintro e w6 ⟨rfl, hu6⟩; have X6 := X5.trans hu6 (fun _ _ h => h); have r1 := (X6.own2 (fun _ h => h.elim)).1; have r2 := (X6.own2 (fun _ h => h.elim)).2.2.1; have t0 := hu6.cell u0 (fun h => h); have t1 := hu6.cell u1 (fun h => h))); (try go_wp2_with fail); refine hK.out _ _ (by (try dsimp only); first | exact ⟨r1, r2, t0, t1⟩ | exact ⟨p1, p2, u0, u1⟩ | exact ⟨q1, q2, z0, z1⟩) (fun hHeld => ?_); clear hK K; (try simp only [Act.put, List.setIfInBounds_toArray, List.set_cons_zero, List.set_cons_succ]))
            (refine wpAnyH_take (i := 16) (oi := ?oi_1_16) (v := ?v_1_16) ?ho_1_16 ?hs_1_16 ?hf_1_16 ?hr_1_16 ?hQ_1_16 ?hy_1_16 ?hS_1_16 ?rest_1_16; (case hr_1_16 => kernel_rfl); (case hf_1_16 => kernel_rfl); (case hs_1_16 => kernel_rfl); (case ho_1_16 => (simp only [List.getElem?_toArray, List.getElem?_cons_succ, List.getElem?_cons_zero]; rfl)); (case hS_1_16 => assumption); (case hQ_1_16 => exact fun _ _ _ h => h); (case hy_1_16 => (refine Or.inl ⟨by rfl, ?_⟩; (intro w hSw; (try dsimp only at hSw); go_simp) <;> with_reducible rfl)); (try simp only [Act.put, List.setIfInBounds_toArray, List.set_cons_zero, List.set_cons_succ]))
            (refine wpAnyH_take (i := 17) (oi := ?oi_1_17) (v := ?v_1_17) ?ho_1_17 ?hs_1_17 ?hf_1_17 ?hr_1_17 ?hQ_1_17 ?hy_1_17 ?hS_1_17 ?rest_1_17; (case hr_1_17 => kernel_rfl); (case hf_1_17 => kernel_rfl); (case hs_1_17 => kernel_rfl); (case ho_1_17 => (simp only [List.getElem?_toArray, List.getElem?_cons_succ, List.getElem?_cons_zero]; rfl)); (case hS_1_17 => assumption); (case hQ_1_17 => exact fun _ _ _ h => h); (case hy_1_17 => (refine Or.inl ⟨by rfl, ?_⟩; (intro w hSw; (try dsimp only at hSw); go_simp) <;> with_reducible rfl)); (try simp only [Act.put, List.setIfInBounds_toArray, List.set_cons_zero, List.set_cons_succ]))
            refine wpAnyH_done (by kernel_rfl) ?_ _
            go_wp2_with fail
            go_ret
            exact ⟨rfl, (X6.own2 (fun _ h => h.elim)).2.2.2.2.2.2⟩
          | false =>
            obtain rfl : v1 = bb := by have := hwi.out; simpa using this
            have hvv : (v1 == v1) = true := by simp
            go_wp2_with fail
            refine wp_region_held_drew (S := (fun w' => (∀ j, w'.cell? ⟨w.heap.size, j, none⟩ = (#[.int .i64 xk, .string ⟨xb.toArray⟩, .string ⟨xo.toArray⟩, .slice na n1 nc] : Array Value)[j]?) ∧ (∀ j, w'.cell? ⟨w.heap.size + 1, j, none⟩ = (#[.int .i64 yk, .string ⟨yb.toArray⟩, .string ⟨yo.toArray⟩, .slice ma n2 mc] : Array Value)[j]?) ∧ w'.cell? ⟨w3.heap.size, 0, none⟩ = some (.string ⟨s0.toArray⟩) ∧ w'.cell? ⟨w3.heap.size, 1, none⟩ = some (.string ⟨s1.toArray⟩))) (by kernel_rfl) (by (try dsimp only); first | exact ⟨r1, r2, t0, t1⟩ | exact ⟨p1, p2, u0, u1⟩ | exact ⟨q1, q2, z0, z1⟩) (fun hHeld => ?_)
            (refine wpAnyH_take (i := 0) (oi := ?oi_2_0) (v := ?v_2_0) ?ho_2_0 ?hs_2_0 ?hf_2_0 ?hr_2_0 ?hQ_2_0 ?hy_2_0 ?hS_2_0 ?rest_2_0; (case hr_2_0 => kernel_rfl); (case hf_2_0 => kernel_rfl); (case hs_2_0 => kernel_rfl); (case ho_2_0 => (simp only [List.getElem?_toArray, List.getElem?_cons_succ, List.getElem?_cons_zero]; rfl)); (case hS_2_0 => assumption); (case hQ_2_0 => exact fun _ _ _ h => h); (case hy_2_0 => (refine Or.inl ⟨by rfl, ?_⟩; (intro w hSw; (try dsimp only at hSw); go_simp) <;> with_reducible rfl)); (try simp only [Act.put, List.setIfInBounds_toArray, List.set_cons_zero, List.set_cons_succ]))
            (refine wpAnyH_take (i := 1) (oi := ?oi_2_1) (v := ?v_2_1) ?ho_2_1 ?hs_2_1 ?hf_2_1 ?hr_2_1 ?hQ_2_1 ?hy_2_1 ?hS_2_1 ?rest_2_1; (case hr_2_1 => kernel_rfl); (case hf_2_1 => kernel_rfl); (case hs_2_1 => kernel_rfl); (case ho_2_1 => (simp only [List.getElem?_toArray, List.getElem?_cons_succ, List.getElem?_cons_zero]; rfl)); (case hS_2_1 => assumption); (case hQ_2_1 => exact fun _ _ _ h => h); (case hy_2_1 => (refine Or.inl ⟨by rfl, ?_⟩; (intro w hSw; (try dsimp only at hSw); go_simp) <;> with_reducible rfl)); (try simp only [Act.put, List.setIfInBounds_toArray, List.set_cons_zero, List.set_cons_succ]))
            (refine wpAnyH_take (i := 2) (oi := ?oi_2_2) (v := ?v_2_2) ?ho_2_2 ?hs_2_2 ?hf_2_2 ?hr_2_2 ?hQ_2_2 ?hy_2_2 ?hS_2_2 ?rest_2_2; (case hr_2_2 => kernel_rfl); (case hf_2_2 => kernel_rfl); (case hs_2_2 => kernel_rfl); (case ho_2_2 => (simp only [List.getElem?_toArray, List.getElem?_cons_succ, List.getElem?_cons_zero]; rfl)); (case hS_2_2 => assumption); (case hQ_2_2 => exact fun _ _ _ h => h); (case hy_2_2 => (refine Or.inl ⟨by rfl, ?_⟩; (intro w hSw; (try dsimp only at hSw); go_simp) <;> with_reducible rfl)); (try simp only [Act.put, List.setIfInBounds_toArray, List.set_cons_zero, List.set_cons_succ]))
            (refine wpAnyH_take (i := 3) (oi := ?oi_2_3) (v := ?v_2_3) ?ho_2_3 ?hs_2_3 ?hf_2_3 ?hr_2_3 ?hQ_2_3 ?hy_2_3 ?hS_2_3 ?rest_2_3; (case hr_2_3 => kernel_rfl); (case hf_2_3 => kernel_rfl); (case hs_2_3 => kernel_rfl); (case ho_2_3 => (simp only [List.getElem?_toArray, List.getElem?_cons_succ, List.getElem?_cons_zero]; rfl)); (case hS_2_3 => assumption); (case hQ_2_3 => exact fun _ _ _ h => h); (case hy_2_3 => (refine Or.inl ⟨by rfl, ?_⟩; (intro w hSw; (try dsimp only at hSw); go_simp) <;> with_reducible rfl)); (try simp only [Act.put, List.setIfInBounds_toArray, List.set_cons_zero, List.set_cons_succ]))
            (refine wpAnyH_take (i := 4) (oi := ?oi_2_4) (v := ?v_2_4) ?ho_2_4 ?hs_2_4 ?hf_2_4 ?hr_2_4 ?hQ_2_4 ?hy_2_4 ?hS_2_4 ?rest_2_4; (case hr_2_4 => kernel_rfl); (case hf_2_4 => kernel_rfl); (case hs_2_4 => kernel_rfl); (case ho_2_4 => (simp only [List.getElem?_toArray, List.getElem?_cons_succ, List.getElem?_cons_zero]; rfl)); (case hS_2_4 => assumption); (case hQ_2_4 => exact fun _ _ _ h => h); (case hy_2_4 => (refine Or.inl ⟨by rfl, ?_⟩; (intro w hSw; (try dsimp only at hSw); go_simp) <;> with_reducible rfl)); (try simp only [Act.put, List.setIfInBounds_toArray, List.set_cons_zero, List.set_cons_succ]))
            (refine wpAnyH_take (i := 5) (oi := ?oi_2_5) (v := ?v_2_5) ?ho_2_5 ?hs_2_5 ?hf_2_5 ?hr_2_5 ?hQ_2_5 ?hy_2_5 ?hS_2_5 ?rest_2_5; (case hr_2_5 => kernel_rfl); (case hf_2_5 => kernel_rfl); (case hs_2_5 => kernel_rfl); (case ho_2_5 => (simp only [List.getElem?_toArray, List.getElem?_cons_succ, List.getElem?_cons_zero]; rfl)); (case hS_2_5 => assumption); (case hQ_2_5 => exact fun _ _ _ h => h); (case hy_2_5 => (refine Or.inl ⟨by rfl, ?_⟩; (intro w hSw; (try dsimp only at hSw); go_simp) <;> with_reducible rfl)); (try simp only [Act.put, List.setIfInBounds_toArray, List.set_cons_zero, List.set_cons_succ]))
            (refine wpAnyH_take (i := 6) (oi := ?oi_2_6) (v := ?v_2_6) ?ho_2_6 ?hs_2_6 ?hf_2_6 ?hr_2_6 ?hQ_2_6 ?hy_2_6 ?hS_2_6 ?rest_2_6; (case hr_2_6 => kernel_rfl); (case hf_2_6 => kernel_rfl); (case hs_2_6 => kernel_rfl); (case ho_2_6 => (simp only [List.getElem?_toArray, List.getElem?_cons_succ, List.getElem?_cons_zero]; rfl)); (case hS_2_6 => assumption); (case hQ_2_6 => exact fun _ _ _ h => h); (case hy_2_6 => (refine Or.inl ⟨by rfl, ?_⟩; (intro w hSw; (try dsimp only at hSw); go_simp) <;> with_reducible rfl)); (try simp only [Act.put, List.setIfInBounds_toArray, List.set_cons_zero, List.set_cons_succ]))
            (refine wpAnyH_take (i := 7) (oi := ?oi_2_7) (v := ?v_2_7) ?ho_2_7 ?hs_2_7 ?hf_2_7 ?hr_2_7 ?hQ_2_7 ?hy_2_7 ?hS_2_7 ?rest_2_7; (case hr_2_7 => kernel_rfl); (case hf_2_7 => kernel_rfl); (case hs_2_7 => kernel_rfl); (case ho_2_7 => (simp only [List.getElem?_toArray, List.getElem?_cons_succ, List.getElem?_cons_zero]; rfl)); (case hS_2_7 => assumption); (case hQ_2_7 => exact fun _ _ _ h => h); (case hy_2_7 => (refine Or.inl ⟨by rfl, ?_⟩; (intro w hSw; (try dsimp only at hSw); go_simp) <;> with_reducible rfl)); (try simp only [Act.put, List.setIfInBounds_toArray, List.set_cons_zero, List.set_cons_succ]))
            (refine wpAnyH_take (i := 8) (oi := ?oi_2_8) (v := ?v_2_8) ?ho_2_8 ?hs_2_8 ?hf_2_8 ?hr_2_8 ?hQ_2_8 ?hy_2_8 ?hS_2_8 ?rest_2_8; (case hr_2_8 => kernel_rfl); (case hf_2_8 => kernel_rfl); (case hs_2_8 => kernel_rfl); (case ho_2_8 => (simp only [List.getElem?_toArray, List.getElem?_cons_succ, List.getElem?_cons_zero]; rfl)); (case hS_2_8 => assumption); (case hQ_2_8 => exact fun _ _ _ h => h); (case hy_2_8 => (refine Or.inl ⟨by rfl, ?_⟩; (intro w hSw; (try dsimp only at hSw); go_simp) <;> with_reducible rfl)); (try simp only [Act.put, List.setIfInBounds_toArray, List.set_cons_zero, List.set_cons_succ]))
            (refine wpAnyH_take (i := 9) (oi := ?oi_2_9) (v := ?v_2_9) ?ho_2_9 ?hs_2_9 ?hf_2_9 ?hr_2_9 ?hQ_2_9 ?hy_2_9 ?hS_2_9 ?rest_2_9; (case hr_2_9 => kernel_rfl); (case hf_2_9 => kernel_rfl); (case hs_2_9 => kernel_rfl); (case ho_2_9 => (simp only [List.getElem?_toArray, List.getElem?_cons_succ, List.getElem?_cons_zero]; rfl)); (case hS_2_9 => assumption); (case hQ_2_9 => exact fun _ _ _ h => h); (case hy_2_9 => (refine Or.inl ⟨by rfl, ?_⟩; (intro w hSw; (try dsimp only at hSw); go_simp) <;> with_reducible rfl)); (try simp only [Act.put, List.setIfInBounds_toArray, List.set_cons_zero, List.set_cons_succ]))
            (refine wpAnyH_take (i := 10) (oi := ?oi_2_10) (v := ?v_2_10) ?ho_2_10 ?hs_2_10 ?hf_2_10 ?hr_2_10 ?hQ_2_10 ?hy_2_10 ?hS_2_10 ?rest_2_10; (case hr_2_10 => kernel_rfl); (case hf_2_10 => kernel_rfl); (case hs_2_10 => kernel_rfl); (case ho_2_10 => (simp only [List.getElem?_toArray, List.getElem?_cons_succ, List.getElem?_cons_zero]; rfl)); (case hS_2_10 => assumption); (case hQ_2_10 => exact fun _ _ _ h => h); (case hy_2_10 => (refine Or.inl ⟨by rfl, ?_⟩; (intro w hSw; (try dsimp only at hSw); go_simp) <;> with_reducible rfl)); (try simp only [Act.put, List.setIfInBounds_toArray, List.set_cons_zero, List.set_cons_succ]))
            (refine wpAnyH_take (i := 11) (oi := ?oi_2_11) (v := ?v_2_11) ?ho_2_11 ?hs_2_11 ?hf_2_11 ?hr_2_11 ?hQ_2_11 ?hy_2_11 ?hS_2_11 ?rest_2_11; (case hr_2_11 => kernel_rfl); (case hf_2_11 => kernel_rfl); (case hs_2_11 => kernel_rfl); (case ho_2_11 => (simp only [List.getElem?_toArray, List.getElem?_cons_succ, List.getElem?_cons_zero]; rfl)); (case hS_2_11 => assumption); (case hQ_2_11 => exact fun _ _ _ h => h); (case hy_2_11 => (refine Or.inl ⟨by rfl, ?_⟩; (intro w hSw; (try dsimp only at hSw); go_simp) <;> with_reducible rfl)); (try simp only [Act.put, List.setIfInBounds_toArray, List.set_cons_zero, List.set_cons_succ]))
            (refine wpAnyH_ready (rs := [12]) (by kernel_rfl) (by simp) ?_; refine AllReadyH.cons (o := ?oo_2_12) ?hoo_2_12 ?hst_2_12 AllReadyH.nil; (case hoo_2_12 => (simp only [List.getElem?_toArray, List.getElem?_cons_succ, List.getElem?_cons_zero]; rfl)); intro K hK; go_simp; (first | (go_at_call 21; refine (hbg.out _ hU.then_drew).mono ?_; rintro e w5 ⟨rfl, hu5⟩; have X5 := hX.then_drew.trans hu5 (fun _ _ h => h); have p1 := (X5.own2 (fun _ h => h.elim)).1; have p2 := (X5.own2 (fun _ h => h.elim)).2.2.1; have u0 := hu5.cell (a := ⟨w3.heap.size, 0, none⟩) z0 (fun h => h); have u1 := hu5.cell (a := ⟨w3.heap.size, 1, none⟩) z1 (fun h => h)) | (go_at_call 9; refine (hlv.out _).mono ?_; rintro e w6 ⟨rfl, hu6⟩; have X6 := X5.trans hu6 (fun _ _ h => h); have r1 := (X6.own2 (fun _ h => h.elim)).1; have r2 := (X6.own2 (fun _ h => h.elim)).2.2.1; have t0 := hu6.cell u0 (fun h => h); have t1 := hu6.cell u1 (fun h => h))); (try go_wp2_with fail); refine hK.out _ _ (by (try dsimp only); first | exact ⟨r1, r2, t0, t1⟩ | exact ⟨p1, p2, u0, u1⟩ | exact ⟨q1, q2, z0, z1⟩) (fun hHeld => ?_); clear hK K; (try simp only [Act.put, List.setIfInBounds_toArray, List.set_cons_zero, List.set_cons_succ]))
            (refine wpAnyH_take (i := 13) (oi := ?oi_2_13) (v := ?v_2_13) ?ho_2_13 ?hs_2_13 ?hf_2_13 ?hr_2_13 ?hQ_2_13 ?hy_2_13 ?hS_2_13 ?rest_2_13; (case hr_2_13 => kernel_rfl); (case hf_2_13 => kernel_rfl); (case hs_2_13 => kernel_rfl); (case ho_2_13 => (simp only [List.getElem?_toArray, List.getElem?_cons_succ, List.getElem?_cons_zero]; rfl)); (case hS_2_13 => assumption); (case hQ_2_13 => exact fun _ _ _ h => h); (case hy_2_13 => (refine Or.inl ⟨by rfl, ?_⟩; (intro w hSw; (try dsimp only at hSw); go_simp) <;> with_reducible rfl)); (try simp only [Act.put, List.setIfInBounds_toArray, List.set_cons_zero, List.set_cons_succ]))
            (refine wpAnyH_take (i := 14) (oi := ?oi_2_14) (v := ?v_2_14) ?ho_2_14 ?hs_2_14 ?hf_2_14 ?hr_2_14 ?hQ_2_14 ?hy_2_14 ?hS_2_14 ?rest_2_14; (case hr_2_14 => kernel_rfl); (case hf_2_14 => kernel_rfl); (case hs_2_14 => kernel_rfl); (case ho_2_14 => (simp only [List.getElem?_toArray, List.getElem?_cons_succ, List.getElem?_cons_zero]; rfl)); (case hS_2_14 => assumption); (case hQ_2_14 => exact fun _ _ _ h => h); (case hy_2_14 => (refine Or.inl ⟨by rfl, ?_⟩; (intro w hSw; (try dsimp only at hSw); go_simp) <;> with_reducible rfl)); (try simp only [Act.put, List.setIfInBounds_toArray, List.set_cons_zero, List.set_cons_succ]))
            (refine wpAnyH_ready (rs := [15]) (by kernel_rfl) (by simp) ?_; refine AllReadyH.cons (o := ?oo_2_15) ?hoo_2_15 ?hst_2_15 AllReadyH.nil; (case hoo_2_15 => (simp only [List.getElem?_toArray, List.getElem?_cons_succ, List.getElem?_cons_zero]; rfl)); intro K hK; go_simp; (first | (go_at_call 21; refine (hbg.out _ hU.then_drew).mono ?_; rintro e w5 ⟨rfl, hu5⟩; have X5 := hX.then_drew.trans hu5 (fun _ _ h => h); have p1 := (X5.own2 (fun _ h => h.elim)).1; have p2 := (X5.own2 (fun _ h => h.elim)).2.2.1; have u0 := hu5.cell (a := ⟨w3.heap.size, 0, none⟩) z0 (fun h => h); have u1 := hu5.cell (a := ⟨w3.heap.size, 1, none⟩) z1 (fun h => h)) | (go_at_call 9; refine (hlv.out _).mono ?_; rintro e w6 ⟨rfl, hu6⟩; have X6 := X5.trans hu6 (fun _ _ h => h); have r1 := (X6.own2 (fun _ h => h.elim)).1; have r2 := (X6.own2 (fun _ h => h.elim)).2.2.1; have t0 := hu6.cell u0 (fun h => h); have t1 := hu6.cell u1 (fun h => h))); (try go_wp2_with fail); refine hK.out _ _ (by (try dsimp only); first | exact ⟨r1, r2, t0, t1⟩ | exact ⟨p1, p2, u0, u1⟩ | exact ⟨q1, q2, z0, z1⟩) (fun hHeld => ?_); clear hK K; (try simp only [Act.put, List.setIfInBounds_toArray, List.set_cons_zero, List.set_cons_succ]))
            (refine wpAnyH_take (i := 16) (oi := ?oi_2_16) (v := ?v_2_16) ?ho_2_16 ?hs_2_16 ?hf_2_16 ?hr_2_16 ?hQ_2_16 ?hy_2_16 ?hS_2_16 ?rest_2_16; (case hr_2_16 => kernel_rfl); (case hf_2_16 => kernel_rfl); (case hs_2_16 => kernel_rfl); (case ho_2_16 => (simp only [List.getElem?_toArray, List.getElem?_cons_succ, List.getElem?_cons_zero]; rfl)); (case hS_2_16 => assumption); (case hQ_2_16 => exact fun _ _ _ h => h); (case hy_2_16 => (refine Or.inl ⟨by rfl, ?_⟩; (intro w hSw; (try dsimp only at hSw); go_simp) <;> with_reducible rfl)); (try simp only [Act.put, List.setIfInBounds_toArray, List.set_cons_zero, List.set_cons_succ]))
            (refine wpAnyH_take (i := 17) (oi := ?oi_2_17) (v := ?v_2_17) ?ho_2_17 ?hs_2_17 ?hf_2_17 ?hr_2_17 ?hQ_2_17 ?hy_2_17 ?hS_2_17 ?rest_2_17; (case hr_2_17 => kernel_rfl); (case hf_2_17 => kernel_rfl); (case hs_2_17 => kernel_rfl); (case ho_2_17 => (simp only [List.getElem?_toArray, List.getElem?_cons_succ, List.getElem?_cons_zero]; rfl)); (case hS_2_17 => assumption); (case hQ_2_17 => exact fun _ _ _ h => h); (case hy_2_17 => (refine Or.inl ⟨by rfl, ?_⟩; (intro w hSw; (try dsimp only at hSw); go_simp) <;> with_reducible rfl)); (try simp only [Act.put, List.setIfInBounds_toArray, List.set_cons_zero, List.set_cons_succ]))
            refine wpAnyH_done (by kernel_rfl) ?_ _
            go_wp2_with fail
            go_ret
            exact ⟨rfl, (X6.own2 (fun _ h => h.elim)).2.2.2.2.2.2⟩
        · have he2b : (e2 != 0) = true := by simp [he2]
          go_wp2_with fail
          refine (hlv.out _).mono ?_
          rintro e w9 ⟨rfl, hu9⟩
          go_wp2_with fail
          go_ret
          exact ⟨rfl, (hX.trans hu9 fun _ _ h => h).own2 (fun _ h => h.elim) |>.2.2.2.2.2.2⟩
      · have he1b : (e1 != 0) = true := by simp [he1]
        go_wp2_with fail
        refine (hlv.out _).mono ?_
        rintro e w9 ⟨rfl, hu9⟩
        go_wp2_with fail
        go_ret
        exact ⟨rfl, (hX.trans hu9 fun _ _ h => h).own2 (fun _ h => h.elim) |>.2.2.2.2.2.2⟩
end Go.Proofs.YtaflpabpkpfifaaDoor
