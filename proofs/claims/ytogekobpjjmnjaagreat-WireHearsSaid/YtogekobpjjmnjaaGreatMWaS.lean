/- wire.reader: text, truth, head. -/
import Derived.Test.YtogekobpjjmnjaaGreatMWaR
import Derived.Test.YtogekobpjjmnjaaGreatMWaA
import Derived.Test.YtogekobpjjmnjaaGreatMWrO
import Derived.Test.YtogekobpjjmnjaaGreatMWrA
namespace Go.Proofs.YtogekobpjjmnjaaGreat
open Go.RowKit Go.Amb
set_option linter.unusedVariables false
set_option linter.unusedSimpArgs false
set_option maxRecDepth 100000
variable {L : Nat}
attribute [local go_sem ↓] Go.wp_at_zero Go.wp_at_succ
theorem flag1 {z : Nat} (h : z < 256) : (bits .and .i64 (z : Int) 1 != 0) = decide ((z : Int) % 2 = 1) := by
  have e : ∀ x : Fin 256, (bits .and .i64 ((x : Nat) : Int) 1 != 0) = decide (((x : Nat) : Int) % 2 = 1) := by decide +kernel
  exact e ⟨z, h⟩
theorem flag2 {z : Nat} (h : z < 256) : (bits .and .i64 (z : Int) 2 != 0) = decide ((z : Int) / 2 % 2 = 1) := by
  have e : ∀ x : Fin 256, (bits .and .i64 ((x : Nat) : Int) 2 != 0) = decide (((x : Nat) : Int) / 2 % 2 = 1) := by decide +kernel
  exact e ⟨z, h⟩
theorem wRText (r : Nat) (s : List UInt8) (a : Nat) (e : Int) (w : World) (h : RdAt w r L s a e) :
    Calls Tryz.prog 11 #[rdV1 r] w (Rdd r L s (wTx s a e).1 (wTx s a e).2.1 (.string ⟨(wTx s a e).2.2.toArray⟩) w) := by
  have hlt := h.lt
  unfold rdV1
  have y0 := (cells_of (heap_alloc_new w (.cells #[.pointer (some ⟨r, 0, none⟩)] 50))).1 0
  have h1 : RdAt (w.alloc (.cells #[.pointer (some ⟨r, 0, none⟩)] 50)) r L s a e := h.non (Upd.alloc _ _ _)
  have hu1 : Upd (fun k => k = r) w (w.alloc (.cells #[.pointer (some ⟨r, 0, none⟩)] 50)) := Upd.alloc _ _ _
  have c := Lib.hid (fText r s a e 1048576 _ h1)
  show Calls _ _ _ _ (Rdd r L s (rdText s a e 1048576).1 (rdText s a e 1048576).2.1 (.string ⟨(rdText s a e 1048576).2.2.toArray⟩) w)
  generalize rdText s a e 1048576 = x at *
  obtain ⟨a1, e1, t⟩ := x
  dsimp only at *
  go_enter Tryz.func11, Tryz.ntmps11
  go_wp2_with fail
  refine c.out.mono ?_
  rintro en w1 ⟨rfl, hR, hu⟩
  have hg : Rdd r L s a1 e1 (.string ⟨t.toArray⟩) w (.returned (.string ⟨t.toArray⟩)) w1 := ⟨rfl, hR, hu1.trans hu fun _ _ h => h⟩
  clear h h1 hu1 y0 hR hu
  go_wp2_with fail
  go_ret
  exact hg
theorem wRTruth (r : Nat) (s : List UInt8) (a : Nat) (e : Int) (w : World) (h : RdAt w r L s a e) :
    Calls Tryz.prog 15 #[rdV1 r] w (Rdd r L s (rdNum s a e 1).1 (rdNum s a e 1).2.1 (.bool (decide ((rdNum s a e 1).2.2 = 1))) w) := by
  have hlt := h.lt
  unfold rdV1
  have y0 := (cells_of (heap_alloc_new w (.cells #[.pointer (some ⟨r, 0, none⟩)] 50))).1 0
  have h1 : RdAt (w.alloc (.cells #[.pointer (some ⟨r, 0, none⟩)] 50)) r L s a e := h.non (Upd.alloc _ _ _)
  have hu1 : Upd (fun k => k = r) w (w.alloc (.cells #[.pointer (some ⟨r, 0, none⟩)] 50)) := Upd.alloc _ _ _
  have c := Lib.hid (fU8 r s a e _ h1)
  generalize rdNum s a e 1 = x at *
  obtain ⟨a1, e1, t⟩ := x
  dsimp only at *
  have hb : (t == 1) = decide (t = 1) := by by_cases h : t = 1 <;> simp [h]
  obtain ⟨g, hg⟩ : ∃ g, decide (t = 1) = g := ⟨_, rfl⟩
  rw [hg] at hb ⊢
  replace hg := Lib.hid hg
  go_enter Tryz.func15, Tryz.ntmps15
  go_wp2_with fail
  refine c.out.mono ?_
  rintro en w1 ⟨rfl, hR, hu⟩
  have hgg : Rdd r L s a1 e1 (.bool g) w (.returned (.bool g)) w1 := ⟨rfl, hR, hu1.trans hu fun _ _ h => h⟩
  clear h h1 hu1 y0 hR hu
  go_wp2_with fail
  go_ret
  exact hgg
set_option maxHeartbeats 2000000 in
theorem wRHead (r : Nat) (s : List UInt8) (a : Nat) (e : Int) (w : World) (h : RdAt w r L s a e) :
    Calls Tryz.prog 13 #[rdV1 r] w (Rdd r L s (rdHd s a e).1 (rdHd s a e).2.1 (hdV (rdHd s a e).2.2) w) := by
  have hlt := h.lt
  unfold rdV1
  have y0 := (cells_of (heap_alloc_new w (.cells #[.pointer (some ⟨r, 0, none⟩)] 50))).1 0
  have h1 : RdAt (w.alloc (.cells #[.pointer (some ⟨r, 0, none⟩)] 50)) r L s a e := h.non (Upd.alloc _ _ _)
  have hu1 : Upd (fun k => k = r) w (w.alloc (.cells #[.pointer (some ⟨r, 0, none⟩)] 50)) := Upd.alloc _ _ _
  have hz0 : (w.alloc (.cells #[.pointer (some ⟨r, 0, none⟩)] 50)).heap.size = w.heap.size + 1 := by simp
  have c1 := Lib.hid (fun w h => fU8 (L := L) r s a e w h)
  obtain ⟨R, hR⟩ : ∃ R, rdHd s a e = R := ⟨_, rfl⟩
  rw [hR]
  unfold rdHd at hR
  obtain ⟨z, hz, hz2⟩ := rdNum_nat s a e 1 (by omega)
  generalize rdNum s a e 1 = x at *
  obtain ⟨a1, e1, f⟩ := x
  dsimp only at *
  subst hz
  have hf1 := flag1 (show z < 256 by simpa using hz2)
  have hf2 := flag2 (show z < 256 by simpa using hz2)
  have c2 := Lib.hid (fun w h => fU16 (L := L) r s a1 e1 w h)
  generalize rdNum s a1 e1 2 = x at *
  obtain ⟨a2, e2, sz⟩ := x
  dsimp only at *
  have c3 := Lib.hid (fun w h => wTag (L := L) r s a2 e2 w h)
  generalize rdTag s a2 e2 = x at *
  obtain ⟨a3, e3, re, im⟩ := x
  dsimp only at *
  generalize decide ((z : Int) % 2 = 1) = g1 at *
  generalize decide ((z : Int) / 2 % 2 = 1) = g2 at *
  subst hR
  unfold hdV tagV rdV1 at *
  dsimp only at *
  have y1 : ((w.alloc (.cells #[.pointer (some ⟨r, 0, none⟩)] 50)).alloc (.cells #[.int .i64 0, .int .i64 0, .int .i64 0, .bool false, .bool false] 27)).cell? ⟨w.heap.size, 0, none⟩ = some (.pointer (some ⟨r, 0, none⟩)) := (Upd.alloc Non _ _).cell y0 fun h => h
  have hb1 : ((w.alloc (.cells #[.pointer (some ⟨r, 0, none⟩)] 50)).alloc (.cells #[.int .i64 0, .int .i64 0, .int .i64 0, .bool false, .bool false] 27)).heap[w.heap.size + 1]? = some (.cells #[.int .i64 0, .int .i64 0, .int .i64 0, .bool false, .bool false] 27 (0, 0)) := by
    have := heap_alloc_new (w.alloc (.cells #[.pointer (some ⟨r, 0, none⟩)] 50)) (.cells #[.int .i64 0, .int .i64 0, .int .i64 0, .bool false, .bool false] 27)
    rwa [World.size_alloc] at this
  have h2 : RdAt ((w.alloc (.cells #[.pointer (some ⟨r, 0, none⟩)] 50)).alloc (.cells #[.int .i64 0, .int .i64 0, .int .i64 0, .bool false, .bool false] 27)) r L s a e := h1.non (Upd.alloc _ _ _)
  have hu2 : Upd (fun k => k = r) w ((w.alloc (.cells #[.pointer (some ⟨r, 0, none⟩)] 50)).alloc (.cells #[.int .i64 0, .int .i64 0, .int .i64 0, .bool false, .bool false] 27)) := hu1.then_alloc _
  have hsz : Hid ((Tryz.prog.info? 27).map (·.size) = some (#[Value.int .i64 sz, .int .i64 re, .int .i64 im, .bool g1, .bool g2] : Array Value).size) := Lib.hid (by kernel_rfl)
  clear y0 h1 hu1 hz0
  replace h := Lib.hid h
  go_enter Tryz.func13, Tryz.ntmps13
  go_wp2_with fail
  refine (c1.out _ h2).mono ?_
  rintro en w1 ⟨rfl, hR1, hu3⟩
  have y2 := hu3.cell y1 (by dsimp only; omega)
  have hb2 := hu3.heap hb1 (by omega)
  have hU1 := hu2.trans hu3 fun _ _ h => h
  clear y1 hb1 h2 hu2 hu3
  have d0 := (Upd.drew Non _).cell y2 fun h => h
  have db := (Upd.drew Non _).heap hb2 fun h => h
  have hRd : RdAt w1.drew r L s a1 e1 := hR1.non (Upd.drew _ _)
  have hUd := hU1.then_drew
  clear hb2 hR1 hU1
  go_wp2_with fail
  refine wp_region_held_drew (S := (fun w' => w'.cell? ⟨w.heap.size, 0, none⟩ = some (.pointer (some ⟨r, 0, none⟩)))) (by kernel_rfl) (by (try dsimp only); exact d0) (fun hHeld => ?_)
  (refine wpAnyH_take (i := 0) (oi := ?oi_1_0) (v := ?v_1_0) ?ho_1_0 ?hs_1_0 ?hf_1_0 ?hr_1_0 ?hQ_1_0 ?hy_1_0 ?hS_1_0 ?rest_1_0; (case hr_1_0 => kernel_rfl); (case hf_1_0 => kernel_rfl); (case hs_1_0 => kernel_rfl); (case ho_1_0 => (simp only [List.getElem?_toArray, List.getElem?_cons_succ, List.getElem?_cons_zero]; rfl)); (case hS_1_0 => assumption); (case hQ_1_0 => exact fun _ _ _ h => h); (case hy_1_0 => (refine Or.inl ⟨by rfl, ?_⟩; (intro w hSw; (try dsimp only at hSw); go_simp) <;> with_reducible rfl)); (try simp only [Act.put, List.setIfInBounds_toArray, List.set_cons_zero, List.set_cons_succ]))
  (refine wpAnyH_take (i := 1) (oi := ?oi_1_1) (v := ?v_1_1) ?ho_1_1 ?hs_1_1 ?hf_1_1 ?hr_1_1 ?hQ_1_1 ?hy_1_1 ?hS_1_1 ?rest_1_1; (case hr_1_1 => kernel_rfl); (case hf_1_1 => kernel_rfl); (case hs_1_1 => kernel_rfl); (case ho_1_1 => (simp only [List.getElem?_toArray, List.getElem?_cons_succ, List.getElem?_cons_zero]; rfl)); (case hS_1_1 => assumption); (case hQ_1_1 => exact fun _ _ _ h => h); (case hy_1_1 => (refine Or.inl ⟨by rfl, ?_⟩; (intro w hSw; (try dsimp only at hSw); go_simp) <;> with_reducible rfl)); (try simp only [Act.put, List.setIfInBounds_toArray, List.set_cons_zero, List.set_cons_succ]))
  (refine wpAnyH_take (i := 3) (oi := ?oi_1_3) (v := ?v_1_3) ?ho_1_3 ?hs_1_3 ?hf_1_3 ?hr_1_3 ?hQ_1_3 ?hy_1_3 ?hS_1_3 ?rest_1_3; (case hr_1_3 => kernel_rfl); (case hf_1_3 => kernel_rfl); (case hs_1_3 => kernel_rfl); (case ho_1_3 => (simp only [List.getElem?_toArray, List.getElem?_cons_succ, List.getElem?_cons_zero]; rfl)); (case hS_1_3 => assumption); (case hQ_1_3 => exact fun _ _ _ h => h); (case hy_1_3 => (refine Or.inl ⟨by rfl, ?_⟩; (intro w hSw; (try dsimp only at hSw); go_simp) <;> with_reducible rfl)); (try simp only [Act.put, List.setIfInBounds_toArray, List.set_cons_zero, List.set_cons_succ]))
  (refine wpAnyH_take (i := 5) (oi := ?oi_1_5) (v := ?v_1_5) ?ho_1_5 ?hs_1_5 ?hf_1_5 ?hr_1_5 ?hQ_1_5 ?hy_1_5 ?hS_1_5 ?rest_1_5; (case hr_1_5 => kernel_rfl); (case hf_1_5 => kernel_rfl); (case hs_1_5 => kernel_rfl); (case ho_1_5 => (simp only [List.getElem?_toArray, List.getElem?_cons_succ, List.getElem?_cons_zero]; rfl)); (case hS_1_5 => assumption); (case hQ_1_5 => exact fun _ _ _ h => h); (case hy_1_5 => (refine Or.inl ⟨by rfl, ?_⟩; (intro w hSw; (try dsimp only at hSw); go_simp) <;> with_reducible rfl)); (try simp only [Act.put, List.setIfInBounds_toArray, List.set_cons_zero, List.set_cons_succ]))
  (refine wpAnyH_take (i := 6) (oi := ?oi_1_6) (v := ?v_1_6) ?ho_1_6 ?hs_1_6 ?hf_1_6 ?hr_1_6 ?hQ_1_6 ?hy_1_6 ?hS_1_6 ?rest_1_6; (case hr_1_6 => kernel_rfl); (case hf_1_6 => kernel_rfl); (case hs_1_6 => kernel_rfl); (case ho_1_6 => (simp only [List.getElem?_toArray, List.getElem?_cons_succ, List.getElem?_cons_zero]; rfl)); (case hS_1_6 => assumption); (case hQ_1_6 => exact fun _ _ _ h => h); (case hy_1_6 => (refine Or.inl ⟨by rfl, ?_⟩; (intro w hSw; (try dsimp only at hSw); go_simp) <;> with_reducible rfl)); (try simp only [Act.put, List.setIfInBounds_toArray, List.set_cons_zero, List.set_cons_succ]))
  (refine wpAnyH_take (i := 7) (oi := ?oi_1_7) (v := ?v_1_7) ?ho_1_7 ?hs_1_7 ?hf_1_7 ?hr_1_7 ?hQ_1_7 ?hy_1_7 ?hS_1_7 ?rest_1_7; (case hr_1_7 => kernel_rfl); (case hf_1_7 => kernel_rfl); (case hs_1_7 => kernel_rfl); (case ho_1_7 => (simp only [List.getElem?_toArray, List.getElem?_cons_succ, List.getElem?_cons_zero]; rfl)); (case hS_1_7 => assumption); (case hQ_1_7 => exact fun _ _ _ h => h); (case hy_1_7 => (refine Or.inl ⟨by rfl, ?_⟩; (intro w hSw; (try dsimp only at hSw); go_simp) <;> with_reducible rfl)); (try simp only [Act.put, List.setIfInBounds_toArray, List.set_cons_zero, List.set_cons_succ]))
  (refine wpAnyH_take (i := 8) (oi := ?oi_1_8) (v := ?v_1_8) ?ho_1_8 ?hs_1_8 ?hf_1_8 ?hr_1_8 ?hQ_1_8 ?hy_1_8 ?hS_1_8 ?rest_1_8; (case hr_1_8 => kernel_rfl); (case hf_1_8 => kernel_rfl); (case hs_1_8 => kernel_rfl); (case ho_1_8 => (simp only [List.getElem?_toArray, List.getElem?_cons_succ, List.getElem?_cons_zero]; rfl)); (case hS_1_8 => assumption); (case hQ_1_8 => exact fun _ _ _ h => h); (case hy_1_8 => (refine Or.inl ⟨by rfl, ?_⟩; (intro w hSw; (try dsimp only at hSw); go_simp) <;> with_reducible rfl)); (try simp only [Act.put, List.setIfInBounds_toArray, List.set_cons_zero, List.set_cons_succ]))
  (refine wpAnyH_take (i := 9) (oi := ?oi_1_9) (v := ?v_1_9) ?ho_1_9 ?hs_1_9 ?hf_1_9 ?hr_1_9 ?hQ_1_9 ?hy_1_9 ?hS_1_9 ?rest_1_9; (case hr_1_9 => kernel_rfl); (case hf_1_9 => kernel_rfl); (case hs_1_9 => kernel_rfl); (case ho_1_9 => (simp only [List.getElem?_toArray, List.getElem?_cons_succ, List.getElem?_cons_zero]; rfl)); (case hS_1_9 => assumption); (case hQ_1_9 => exact fun _ _ _ h => h); (case hy_1_9 => (refine Or.inl ⟨by rfl, ?_⟩; (intro w hSw; (try dsimp only at hSw); go_simp) <;> with_reducible rfl)); (try simp only [Act.put, List.setIfInBounds_toArray, List.set_cons_zero, List.set_cons_succ]))
  (refine wpAnyH_take (i := 10) (oi := ?oi_1_10) (v := ?v_1_10) ?ho_1_10 ?hs_1_10 ?hf_1_10 ?hr_1_10 ?hQ_1_10 ?hy_1_10 ?hS_1_10 ?rest_1_10; (case hr_1_10 => kernel_rfl); (case hf_1_10 => kernel_rfl); (case hs_1_10 => kernel_rfl); (case ho_1_10 => (simp only [List.getElem?_toArray, List.getElem?_cons_succ, List.getElem?_cons_zero]; rfl)); (case hS_1_10 => assumption); (case hQ_1_10 => exact fun _ _ _ h => h); (case hy_1_10 => (refine Or.inl ⟨by rfl, ?_⟩; (intro w hSw; (try dsimp only at hSw); go_simp) <;> with_reducible rfl)); (try simp only [Act.put, List.setIfInBounds_toArray, List.set_cons_zero, List.set_cons_succ]))
  (refine wpAnyH_ready (rs := [2]) (by kernel_rfl) (by simp) ?_; refine AllReadyH.cons (o := ?oo_1_2) ?hoo_1_2 ?hst_1_2 AllReadyH.nil; (case hoo_1_2 => (simp only [List.getElem?_toArray, List.getElem?_cons_succ, List.getElem?_cons_zero]; rfl)); intro K hK; go_simp; ((go_at_call 20; (refine (c2.out _ hRd).mono ?_); rintro en w4 ⟨rfl, hR1, hu4⟩; have g1_ := hu4.cell d0 (by dsimp only; omega); have gb1 := hu4.heap db (by omega))); (try go_wp2_with fail); refine hK.out _ _ (by (try dsimp only); exact g1_) (fun hHeld => ?_); clear hK K; (try simp only [Act.put, List.setIfInBounds_toArray, List.set_cons_zero, List.set_cons_succ]))
  (refine wpAnyH_ready (rs := [4]) (by kernel_rfl) (by simp) ?_; refine AllReadyH.cons (o := ?oo_1_4) ?hoo_1_4 ?hst_1_4 AllReadyH.nil; (case hoo_1_4 => (simp only [List.getElem?_toArray, List.getElem?_cons_succ, List.getElem?_cons_zero]; rfl)); intro K hK; go_simp; ((go_at_call 12; (refine (c3.out _ hR1).mono ?_); rintro en w5 ⟨rfl, hR2, hu5⟩; have g2_ := hu5.cell g1_ (by dsimp only; omega); have gb2 := hu5.heap gb1 (by omega))); (try go_wp2_with fail); refine hK.out _ _ (by (try dsimp only); exact g2_) (fun hHeld => ?_); clear hK K; (try simp only [Act.put, List.setIfInBounds_toArray, List.set_cons_zero, List.set_cons_succ]))
  (refine wpAnyH_take (i := 11) (oi := ?oi_1_11) (v := ?v_1_11) ?ho_1_11 ?hs_1_11 ?hf_1_11 ?hr_1_11 ?hQ_1_11 ?hy_1_11 ?hS_1_11 ?rest_1_11; (case hr_1_11 => kernel_rfl); (case hf_1_11 => kernel_rfl); (case hs_1_11 => kernel_rfl); (case ho_1_11 => (simp only [List.getElem?_toArray, List.getElem?_cons_succ, List.getElem?_cons_zero]; rfl)); (case hS_1_11 => assumption); (case hQ_1_11 => exact fun _ _ _ h => h); (case hy_1_11 => (refine Or.inl ⟨by rfl, ?_⟩; (intro w hSw; (try dsimp only at hSw); go_simp) <;> with_reducible rfl)); (try simp only [Act.put, List.setIfInBounds_toArray, List.set_cons_zero, List.set_cons_succ]))
  (refine wpAnyH_ready (rs := [12]) (by kernel_rfl) (by simp) ?_; refine AllReadyH.cons (o := ?oo_1_12) ?hoo_1_12 ?hst_1_12 AllReadyH.nil; (case hoo_1_12 => (simp only [List.getElem?_toArray, List.getElem?_cons_succ, List.getElem?_cons_zero]; rfl)); intro K hK; ((refine step_store_row rfl 27 _ _ rfl (w.heap.size + 1) 0 #[.int .i64 sz, .int .i64 re, .int .i64 im, .bool g1, .bool g2] _ _ rfl rfl gb2 (Nat.le_refl _) hsz.out (by simp [Value.oneCell']) ?_; intro w6 hb6 hu6; have g3_ := hu6.cell g2_ (by dsimp only; omega))); (try go_wp2_with fail); refine hK.out _ _ (by (try dsimp only); exact g3_) (fun hHeld => ?_); clear hK K; (try simp only [Act.put, List.setIfInBounds_toArray, List.set_cons_zero, List.set_cons_succ]))
  refine wpAnyH_done (by kernel_rfl) ?_ _
  have hR6 : RdAt w6 r L s a3 e3 := hR2.upd hu6 fun j _ hj => .inr (by omega)
  have hg : Rdd r L s a3 e3 (.agg #[.int .i64 sz, .int .i64 re, .int .i64 im, .bool g1, .bool g2]) w (.returned (.agg #[.int .i64 sz, .int .i64 re, .int .i64 im, .bool g1, .bool g2])) w6 := ⟨rfl, hR6, ((hUd.trans hu4 fun _ _ h => h).trans hu5 fun _ _ h => h).trans hu6 fun j hj h => by omega⟩
  have hb7 : w6.heap[w.heap.size + 1]? = some (.cells #[.int .i64 sz, .int .i64 re, .int .i64 im, .bool g1, .bool g2] 27 (0, 0)) := hb6
  clear hu4 hu5 hu6 hUd hR6 hR1 hR2 gb1 gb2 db hb6
  go_wp2_with fail
  (try simp only [Exit.inBlock, Exit.then])
  refine bodyPost_ret (results_cell_row rfl _ _ (w.heap.size + 1) _ _ _ _ rfl hb7 Tryz.underlying27 rfl hsz.out) rfl ?_
  exact hg
end Go.Proofs.YtogekobpjjmnjaaGreat

namespace Go.Proofs.YtogekobpjjmnjaaGreat
open Go.RowKit Go.Amb
set_option linter.unusedVariables false
set_option linter.unusedSimpArgs false
set_option maxRecDepth 100000
attribute [local go_sem ↓] Go.wp_at_zero Go.wp_at_succ
/-- A list that grows: its slice stands in block o. -/
def Acc (o base : Nat) (t e : TypeId) (m : Nat) (cs : Value → Array Value) (xs : List Value) (n : Nat) (v : Value) (w : World) : Prop := w.heap[o]? = some (.cells (cs v) t (0, 0)) ∧ w.ownsRow base e m v n xs
/-- What the closure does: one thing more. -/
def StepOk {α : Type} (fn : FuncId) (caps : Array Value) (r L : Nat) (s : List UInt8) (o base q : Nat) (t e : TypeId) (m : Nat) (cs : Value → Array Value) (f : Nat → Int → Nat × Int × α) (cl : α → List Value) : Prop :=
  ∀ (l : List α) (a : Nat) (v : Value) (w : World), RdAt w r L s a 0 → Acc o base t e m cs (l.flatMap cl) l.length v w → w.cell? ⟨q, 0, none⟩ = some (.pointer (some ⟨r, 0, none⟩)) → base ≤ w.heap.size → l.length ≤ 70000 →
    Calls Tryz.prog fn caps w (fun en w' => en = .returned (.tuple #[]) ∧ ∃ v', RdAt w' r L s (f a 0).1 (f a 0).2.1 ∧ Acc o base t e m cs ((l ++ [(f a 0).2.2]).flatMap cl) (l ++ [(f a 0).2.2]).length v' w' ∧ Upd (fun k => k = r ∨ k = o ∨ At v k) w w' ∧ (∀ k, At v' k → At v k ∨ w.heap.size ≤ k))
/-- What many leaves. -/
def Manyd {α : Type} (r L : Nat) (s : List UInt8) (o base : Nat) (t e : TypeId) (m : Nat) (cs : Value → Array Value) (cl : α → List Value) (R : Nat × Int × List α) (w : World) : Ending → World → Prop := fun en w' =>
  en = .returned (.tuple #[]) ∧ ∃ v, RdAt w' r L s R.1 R.2.1 ∧ Acc o base t e m cs (R.2.2.flatMap cl) R.2.2.length v w' ∧ Upd (fun k => k = r ∨ k = o) w w'
set_option maxHeartbeats 2000000 in
theorem wMany {α : Type} (fn : FuncId) (caps : Array Value) (r L : Nat) (s : List UInt8) (o q : Nat) (t e : TypeId) (m : Nat) (cs : Value → Array Value) (f : Nat → Int → Nat × Int × α) (cl : α → List Value) (a : Nat) (er : Int) (w : World)
    (h : RdAt w r L s a er) (hA : Acc o (w.heap.size + 1) t e m cs [] 0 (.slice none 0 0) w) (hq : w.cell? ⟨q, 0, none⟩ = some (.pointer (some ⟨r, 0, none⟩))) (hor : o ≠ r) (hqr : q ≠ r) (hqo : q ≠ o) (hst : StepOk fn caps r L s o (w.heap.size + 1) q t e m cs f cl) (hcf : ∀ w, (callFunc fn caps).run Tryz.prog w = .ok (.enter fn caps) w) :
    Calls Tryz.prog 17 #[rdV1 r, .func (.func fn) #[] caps] w (Manyd r L s o (w.heap.size + 1) t e m cs cl (rdMany f (rdNum s a er 2).2.2.toNat (rdNum s a er 2).1 (rdNum s a er 2).2.1 []) w) := by
  have hlt := h.lt
  have hlo := heap_lt hA.1
  have hlq := World.block_lt_of_cell? _ _ hq
  dsimp only at hlq
  obtain ⟨z, hz, hz2⟩ := rdNum_nat s a er 2 (by omega)
  rw [hz, Int.toNat_natCast]
  have hB0 := heap_alloc_new w (.cells #[.pointer (some ⟨r, 0, none⟩)] 50)
  have y0 := (cells_of hB0).1 0
  have h1 : RdAt (w.alloc (.cells #[.pointer (some ⟨r, 0, none⟩)] 50)) r L s a er := h.non (Upd.alloc _ _ _)
  have hu1 : Upd (fun k => k = r ∨ k = o) w (w.alloc (.cells #[.pointer (some ⟨r, 0, none⟩)] 50)) := Upd.alloc _ _ _
  have q1 := (Upd.alloc Non w (.cells #[.pointer (some ⟨r, 0, none⟩)] 50)).cell hq fun h => h
  have a1 := (Upd.alloc Non w (.cells #[.pointer (some ⟨r, 0, none⟩)] 50)).heap hA.1 fun h => h
  have c1 := Lib.hid (fU16 r s a er _ h1)
  rw [hz] at c1
  generalize rdNum s a er 2 = x at *
  obtain ⟨ra, re, rn⟩ := x
  dsimp only at *
  obtain ⟨R, hR⟩ : ∃ R, rdMany f z ra re [] = R := ⟨_, rfl⟩
  rw [hR]
  have hrel0 : Hid (rdMany f z ra re [] = R) := Lib.hid hR
  obtain ⟨PR, hPR⟩ : ∃ PR, Manyd r L s o (w.heap.size + 1) t e m cs cl R w = PR := ⟨_, rfl⟩
  rw [hPR]
  have hfin : Hid (∀ w' v, RdAt w' r L s R.1 R.2.1 → Acc o (w.heap.size + 1) t e m cs (R.2.2.flatMap cl) R.2.2.length v w' → Upd (fun k => k = r ∨ k = o) w w' → PR (.returned (.tuple #[])) w') := Lib.hid (fun w' v e1 e2 e3 => by rw [← hPR]; exact ⟨rfl, v, e1, e2, e3⟩)
  replace hst := Lib.hid hst
  have hzb : z < 65536 := by simpa using hz2
  clear hPR hR hz hz2 hA
  unfold rdV1
  replace h := Lib.hid h
  replace hq := Lib.hid hq
  go_enter Tryz.func17, Tryz.ntmps17
  go_wp2_with fail
  refine c1.out.mono ?_
  rintro en w1 ⟨rfl, hR1, hu2⟩
  have y1 := hu2.cell y0 (by dsimp only; omega)
  have q2 := hu2.cell q1 (by dsimp only; omega)
  have a2 := hu2.heap a1 (by omega)
  have hU1 := hu1.trans hu2 fun _ _ h => .inl h
  clear y0 h1 hu1 q1 a1 hu2 c1
  go_wp2_with fail
  go_loopw [7] (fun iv wr => ∃ (k : Nat) (l : List α) (a' : Nat) (e' : Int) (v : Value), iv = .int .i64 (k : Int) ∧ k ≤ z ∧ l.length ≤ k ∧ Hid (rdMany f (z - k) a' e' l = R) ∧ RdAt wr r L s a' e' ∧ Acc o (w.heap.size + 1) t e m cs (l.flatMap cl) l.length v wr ∧ wr.cell? ⟨q, 0, none⟩ = some (.pointer (some ⟨r, 0, none⟩)) ∧ wr.cell? ⟨w.heap.size, 0, none⟩ = some (.pointer (some ⟨r, 0, none⟩)) ∧ Upd (fun k => k = r ∨ k = o) w wr) (fun iv _ => z - (intOf iv).toNat)
  case atStart => exact ⟨0, [], ra, re, .slice none 0 0, rfl, Nat.zero_le _, Nat.le_refl _, hrel0, hR1, ⟨a2, World.ownsRow_nil _ _ _ _⟩, q2, y1, hU1⟩
  case round =>
    clear hR1 a2 q2 y1 hU1 hrel0
    obtain ⟨k, l, a', e', v, rfl, hk, hl, hRR, hR', hA', q0, y0, hU⟩ := hrel
    have hzw := World.block_lt_of_cell? _ _ y0
    dsimp only at hzw
    by_cases hlt2 : k < z
    · have hltI : (k : Int) < (z : Int) := by omega
      obtain ⟨d, hd⟩ : ∃ d, z - k = d + 1 := ⟨z - k - 1, by omega⟩
      have cE := Lib.hid (fErr r s a' e' wr hR')
      go_wp2_with fail
      refine cE.out.mono ?_
      rintro en w3 ⟨rfl, rfl⟩
      by_cases he : e' = 0
      · subst he
        rw [hd, rdMany_step] at hRR
        have cs' := Lib.hid (hst.out l a' v _ hR' hA' q0 (by omega) (by omega))
        generalize f a' 0 = x at *
        obtain ⟨a3, e3, i3⟩ := x
        dsimp only at cs' hRR
        go_wp2_with fail
        refine cs'.out.mono ?_
        rintro en w4 ⟨rfl, v', hR4, hA4, hu4, hf4⟩
        have hnv : ∀ k, At v k → w.heap.size + 1 ≤ k := fun k hk => own_ge hA'.2 hk
        have y4 := hu4.cell y0 (fun h => by dsimp only at h; rcases h with h | h | h; omega; omega; have := hnv _ h; omega)
        have q4 := hu4.cell q0 (fun h => by dsimp only at h; rcases h with h | h | h; omega; omega; have := hnv _ h; omega)
        have hU4 := hU.trans hu4 fun j hj h => by
          rcases h with h | h | h
          · exact .inl h
          · exact .inr h
          · have := hnv _ h; omega
        clear hu4 hf4 hA' hR' q0 y0 hU cs' cE
        go_wp2_with fail
        go_roundw
        case rel => exact ⟨k + 1, l ++ [i3], a3, e3, v', by go_num, by omega, by rw [List.length_append, List.length_singleton]; omega, by rw [show z - (k + 1) = d by omega]; exact hRR, hR4, hA4, q4, y4, hU4⟩
        case measure => simp [intOf]; omega
      · rw [rdMany_err f _ _ _ he] at hRR
        have hRR2 : (a', e', l) = R := hRR.out
        subst hRR2
        have hne : (e' != 0) = true := by simp [he]
        have hg := Lib.hid (hfin.out _ v hR' hA' hU)
        clear hfin hA' hR' hU cE
        go_wp2_with fail
        go_returns
        exact hg.out
    · have hltI : ¬ (k : Int) < (z : Int) := by omega
      obtain rfl : k = z := by omega
      rw [Nat.sub_self] at hRR
      have hRR2 : (a', e', l) = R := hRR.out
      subst hRR2
      have hg := Lib.hid (hfin.out _ v hR' hA' hU)
      clear hfin hA' hR' hU
      go_wp2_with fail
      go_returns
      exact hg.out
end Go.Proofs.YtogekobpjjmnjaaGreat

namespace Go.Proofs.YtogekobpjjmnjaaGreat
open Go.RowKit Go.Amb
set_option linter.unusedVariables false
set_option linter.unusedSimpArgs false
set_option maxRecDepth 100000
variable {L : Nat}
attribute [local go_sem ↓] Go.wp_at_zero Go.wp_at_succ
def txC (t : List UInt8) : List Value := [.string ⟨t.toArray⟩]
set_option maxHeartbeats 4000000 in
theorem stTexts (r : Nat) (s : List UInt8) (o base q : Nat) (hqr : q ≠ r) (hqo : q ≠ o) (hro : r < o) (hob : o < base) (hqb : q < base) :
    StepOk 45 #[.pointer (some ⟨o, 0, none⟩), .pointer (some ⟨q, 0, none⟩)] r L s o base q 30 9 1 (fun v => #[v]) (wTx s) txC := by
  intro l a v w hR hA hq hbz hl
  obtain ⟨hb, ho⟩ := hA
  have c3 := Lib.hid (fun w h => wRText (L := L) r s a 0 w h)
  obtain ⟨PR, hPR⟩ : ∃ PR, (fun (en : Ending) (w' : World) => en = .returned (.tuple #[]) ∧ ∃ v', RdAt w' r L s (wTx s a 0).1 (wTx s a 0).2.1 ∧ Acc o base 30 9 1 (fun v => #[v]) ((l ++ [(wTx s a 0).2.2]).flatMap txC) (l ++ [(wTx s a 0).2.2]).length v' w' ∧ Upd (fun k => k = r ∨ k = o ∨ At v k) w w' ∧ (∀ k, At v' k → At v k ∨ w.heap.size ≤ k)) = PR := ⟨_, rfl⟩
  rw [hPR]
  have hfin : Hid (∀ w' v', RdAt w' r L s (wTx s a 0).1 (wTx s a 0).2.1 → w'.heap[o]? = some (.cells #[v'] 30 (0, 0)) → w'.ownsRow base 9 1 v' (l ++ [(wTx s a 0).2.2]).length ((l ++ [(wTx s a 0).2.2]).flatMap txC) → Upd (fun k => k = r ∨ k = o ∨ At v k) w w' → (∀ k, At v' k → At v k ∨ w.heap.size ≤ k) → PR (.returned (.tuple #[])) w') := Lib.hid (fun w' v' e1 e2 e3 e4 e5 => by rw [← hPR]; exact ⟨rfl, v', e1, ⟨e2, e3⟩, e4, e5⟩)
  clear hPR
  generalize wTx s a 0 = x at *
  obtain ⟨a3, e3, n3⟩ := x
  dsimp only at c3 hfin
  unfold rdV1 at c3
  have hii : Hid ((Tryz.prog.info? 9).map (fun i => (i.zero, i.size, i.bytes)) = some (some (.string ⟨#[]⟩), 1, 16)) := Lib.hid (by kernel_rfl)
  have hRd : RdAt w.drew r L s a 0 := hR.non (Upd.drew _ _)
  have d0 := (Upd.drew Non _).cell hq fun h => h
  have db := (Upd.drew Non _).heap hb fun h => h
  have hod := (Upd.drew Non w).owns ho fun _ _ h => h
  have zd : w.drew.cell? ⟨o, 0, none⟩ = some v := (cells_of db).1 0
  have hwb := heap_lt hb
  clear hR hb ho hq
  go_enter Tryz.func45, Tryz.ntmps45
  go_wp2_with fail
  refine wp_region_held_drew (S := (fun w' => w'.cell? ⟨q, 0, none⟩ = some (.pointer (some ⟨r, 0, none⟩)))) (by kernel_rfl) (by (try dsimp only); exact d0) (fun hHeld => ?_)
  (refine wpAnyH_take (i := 1) (oi := ?oi_1_1) (v := ?v_1_1) ?ho_1_1 ?hs_1_1 ?hf_1_1 ?hr_1_1 ?hQ_1_1 ?hy_1_1 ?hS_1_1 ?rest_1_1; (case hr_1_1 => kernel_rfl); (case hf_1_1 => kernel_rfl); (case hs_1_1 => kernel_rfl); (case ho_1_1 => (simp only [List.getElem?_toArray, List.getElem?_cons_succ, List.getElem?_cons_zero]; rfl)); (case hS_1_1 => assumption); (case hQ_1_1 => exact fun _ _ _ h => h); (case hy_1_1 => (refine Or.inl ⟨by rfl, ?_⟩; (intro w hSw; (try dsimp only at hSw); go_simp) <;> with_reducible rfl)); (try simp only [Act.put, List.setIfInBounds_toArray, List.set_cons_zero, List.set_cons_succ]))
  refine wpAnyH_ready (rs := [0, 2]) (by kernel_rfl) (by simp) ?_
  refine AllReadyH.cons (o := ?oA) ?hA ?sA (AllReadyH.cons (o := ?oB) ?hB ?sB AllReadyH.nil)
  case hA => (simp only [List.getElem?_toArray, List.getElem?_cons_succ, List.getElem?_cons_zero]; rfl)
  case hB => (simp only [List.getElem?_toArray, List.getElem?_cons_succ, List.getElem?_cons_zero]; rfl)
  case sA =>
    intro K hK
    go_simp
    refine hK.out _ _ (by exact d0) (fun hHeld => ?_)
    clear hK K
    try simp only [Act.put, List.setIfInBounds_toArray, List.set_cons_zero, List.set_cons_succ]
    (refine wpAnyH_ready (rs := [2]) (by kernel_rfl) (by simp) ?_; refine AllReadyH.cons (o := ?oo_2_2) ?hoo_2_2 ?hst_2_2 AllReadyH.nil; (case hoo_2_2 => (simp only [List.getElem?_toArray, List.getElem?_cons_succ, List.getElem?_cons_zero]; rfl)); intro K hK; go_simp; ((go_at_call 11; (refine (c3.out _ hRd).mono ?_); rintro en w4 ⟨rfl, hR4, hu4⟩; have g1 := hu4.cell d0 (by dsimp only; omega))); (try go_wp2_with fail); refine hK.out _ _ (by (try dsimp only); exact g1) (fun hHeld => ?_); clear hK K; (try simp only [Act.put, List.setIfInBounds_toArray, List.set_cons_zero, List.set_cons_succ]))
    have gb1 := hu4.heap db (by omega)
    have ho4 := hu4.owns hod (fun j hj e => by have := own_ge hod hj; omega)
    have z4 : w4.cell? ⟨o, 0, none⟩ = some v := (cells_of gb1).1 0
    have hux := (Upd.refl Non w4).then_alloc (.cells #[.string ⟨n3.toArray⟩] 9)
    have gw := hux.cell g1 fun h => h
    have zw := hux.cell z4 fun h => h
    have hz4 : w.heap.size ≤ w4.heap.size := hu4.size
    (refine wpAnyH_ready (rs := [3]) (by kernel_rfl) (by simp) ?_; refine AllReadyH.cons (o := ?oo_3_3) ?hoo_3_3 ?hst_3_3 AllReadyH.nil; (case hoo_3_3 => (simp only [List.getElem?_toArray, List.getElem?_cons_succ, List.getElem?_cons_zero]; rfl)); intro K hK; go_simp; (skip); (try go_wp2_with fail); refine hK.out _ _ (by (try dsimp only); exact gw) (fun hHeld => ?_); clear hK K; (try simp only [Act.put, List.setIfInBounds_toArray, List.set_cons_zero, List.set_cons_succ]))
    (refine wpAnyH_ready (rs := [4]) (by kernel_rfl) (by simp) ?_; refine AllReadyH.cons (o := ?oo_4_4) ?hoo_4_4 ?hst_4_4 AllReadyH.nil; (case hoo_4_4 => (simp only [List.getElem?_toArray, List.getElem?_cons_succ, List.getElem?_cons_zero]; rfl)); intro K hK; ((go_must (refine step_app1p rfl _ _ 30 rfl base 9 (.string ⟨#[]⟩) 1 16 Tryz.underlying30 hii.out rfl v l.length (l.flatMap txC) rfl ho4 [.string ⟨n3.toArray⟩] w4.heap.size rfl rfl rfl (by intro u hu; rw [List.mem_singleton.1 hu]; rfl) (by unfold maxLen; omega) (by omega) (by omega) ?_); intro v6 w6 ho6 hu6 hf6; have g6 := hu6.cell g1 (fun h => by have := own_ge ho4 h; dsimp only at this; omega); have gb6 := hu6.heap gb1 (fun h => by have := own_ge ho4 h; omega))); (try go_wp2_with fail); refine hK.out _ _ (by (try dsimp only); exact g6) (fun hHeld => ?_); clear hK K; (try simp only [Act.put, List.setIfInBounds_toArray, List.set_cons_zero, List.set_cons_succ]))
    (refine wpAnyH_ready (rs := [5]) (by kernel_rfl) (by simp) ?_; refine AllReadyH.cons (o := ?oo_5_5) ?hoo_5_5 ?hst_5_5 AllReadyH.nil; (case hoo_5_5 => (simp only [List.getElem?_toArray, List.getElem?_cons_succ, List.getElem?_cons_zero]; rfl)); intro K hK; ((refine step_store_cell rfl 30 _ _ rfl o 0 v6 _ _ rfl rfl gb6 (show 0 < 1 by omega) rfl (by obtain ⟨_, aa, cc, rfl, -⟩ := has_of_owns ho6; rfl) (by obtain ⟨_, aa, cc, rfl, -⟩ := has_of_owns ho6; rfl) ?_; intro w7 hb7 hu7; have g7 := hu7.cell g6 (by dsimp only; omega))); (try go_wp2_with fail); refine hK.out _ _ (by (try dsimp only); exact g7) (fun hHeld => ?_); clear hK K; (try simp only [Act.put, List.setIfInBounds_toArray, List.set_cons_zero, List.set_cons_succ]))
    refine wpAnyH_done (by kernel_rfl) ?_ _
    have hu47 : Upd (fun k => k = r ∨ k = o ∨ At v k) w w7 := (((Upd.drew _ w).trans hu4 fun _ _ h => .inl h).trans hu6 fun j hj h => .inr (.inr h)).trans hu7 fun _ _ h => .inr (.inl h)
    have hR7 : RdAt w7 r L s a3 e3 := (hR4.upd hu6 fun j _ hj => .inr (by have := own_ge ho4 hj; omega)).upd hu7 fun j _ hj => .inr (by omega)
    have ho7 := hu7.owns ho6 (fun j hj e => by have := own_ge ho6 hj; omega)
    have ho8 : w7.ownsRow base 9 1 v6 (l ++ [n3]).length ((l ++ [n3]).flatMap txC) := by rw [List.length_append, List.flatMap_append]; exact ho7
    have hf7 : ∀ k, At v6 k → At v k ∨ w.heap.size ≤ k := fun k hk => (hf6 k hk).imp (fun h => h) fun h => by omega
    have hg := Lib.hid (hfin.out w7 v6 hR7 hb7 ho8 hu47 hf7)
    clear hb7 ho7 ho8 ho6 hu6 hu7 hf6 gb6 hux gb1 ho4 hR4 hu4 z4 gw zw g1 db hod zd hRd hR7 g7 g6 hu47 hf7
    go_wp2_with fail
    go_returns
    exact hg.out
  case sB =>
    intro K hK
    go_simp
    (go_at_call 11; (refine (c3.out _ hRd).mono ?_); rintro en w4 ⟨rfl, hR4, hu4⟩; have g1 := hu4.cell d0 (by dsimp only; omega))
    have gb1 := hu4.heap db (by omega)
    have ho4 := hu4.owns hod (fun j hj e => by have := own_ge hod hj; omega)
    have z4 : w4.cell? ⟨o, 0, none⟩ = some v := (cells_of gb1).1 0
    have hux := (Upd.refl Non w4).then_alloc (.cells #[.string ⟨n3.toArray⟩] 9)
    have gw := hux.cell g1 fun h => h
    have zw := hux.cell z4 fun h => h
    have hz4 : w.heap.size ≤ w4.heap.size := hu4.size
    try go_wp2_with fail
    refine hK.out _ _ (by exact g1) (fun hHeld => ?_)
    clear hK K
    try simp only [Act.put, List.setIfInBounds_toArray, List.set_cons_zero, List.set_cons_succ]
    refine wpAnyH_ready (rs := [0, 3]) (by kernel_rfl) (by simp) ?_
    refine AllReadyH.cons (o := ?oC) ?hC ?sC (AllReadyH.cons (o := ?oD) ?hD ?sD AllReadyH.nil)
    case hC => (simp only [List.getElem?_toArray, List.getElem?_cons_succ, List.getElem?_cons_zero]; rfl)
    case hD => (simp only [List.getElem?_toArray, List.getElem?_cons_succ, List.getElem?_cons_zero]; rfl)
    case sC =>
      intro K hK
      go_simp
      refine hK.out _ _ (by exact g1) (fun hHeld => ?_)
      clear hK K
      try simp only [Act.put, List.setIfInBounds_toArray, List.set_cons_zero, List.set_cons_succ]
      (refine wpAnyH_ready (rs := [3]) (by kernel_rfl) (by simp) ?_; refine AllReadyH.cons (o := ?oo_6_3) ?hoo_6_3 ?hst_6_3 AllReadyH.nil; (case hoo_6_3 => (simp only [List.getElem?_toArray, List.getElem?_cons_succ, List.getElem?_cons_zero]; rfl)); intro K hK; go_simp; (skip); (try go_wp2_with fail); refine hK.out _ _ (by (try dsimp only); exact gw) (fun hHeld => ?_); clear hK K; (try simp only [Act.put, List.setIfInBounds_toArray, List.set_cons_zero, List.set_cons_succ]))
      (refine wpAnyH_ready (rs := [4]) (by kernel_rfl) (by simp) ?_; refine AllReadyH.cons (o := ?oo_7_4) ?hoo_7_4 ?hst_7_4 AllReadyH.nil; (case hoo_7_4 => (simp only [List.getElem?_toArray, List.getElem?_cons_succ, List.getElem?_cons_zero]; rfl)); intro K hK; ((go_must (refine step_app1p rfl _ _ 30 rfl base 9 (.string ⟨#[]⟩) 1 16 Tryz.underlying30 hii.out rfl v l.length (l.flatMap txC) rfl ho4 [.string ⟨n3.toArray⟩] w4.heap.size rfl rfl rfl (by intro u hu; rw [List.mem_singleton.1 hu]; rfl) (by unfold maxLen; omega) (by omega) (by omega) ?_); intro v6 w6 ho6 hu6 hf6; have g6 := hu6.cell g1 (fun h => by have := own_ge ho4 h; dsimp only at this; omega); have gb6 := hu6.heap gb1 (fun h => by have := own_ge ho4 h; omega))); (try go_wp2_with fail); refine hK.out _ _ (by (try dsimp only); exact g6) (fun hHeld => ?_); clear hK K; (try simp only [Act.put, List.setIfInBounds_toArray, List.set_cons_zero, List.set_cons_succ]))
      (refine wpAnyH_ready (rs := [5]) (by kernel_rfl) (by simp) ?_; refine AllReadyH.cons (o := ?oo_8_5) ?hoo_8_5 ?hst_8_5 AllReadyH.nil; (case hoo_8_5 => (simp only [List.getElem?_toArray, List.getElem?_cons_succ, List.getElem?_cons_zero]; rfl)); intro K hK; ((refine step_store_cell rfl 30 _ _ rfl o 0 v6 _ _ rfl rfl gb6 (show 0 < 1 by omega) rfl (by obtain ⟨_, aa, cc, rfl, -⟩ := has_of_owns ho6; rfl) (by obtain ⟨_, aa, cc, rfl, -⟩ := has_of_owns ho6; rfl) ?_; intro w7 hb7 hu7; have g7 := hu7.cell g6 (by dsimp only; omega))); (try go_wp2_with fail); refine hK.out _ _ (by (try dsimp only); exact g7) (fun hHeld => ?_); clear hK K; (try simp only [Act.put, List.setIfInBounds_toArray, List.set_cons_zero, List.set_cons_succ]))
      refine wpAnyH_done (by kernel_rfl) ?_ _
      have hu47 : Upd (fun k => k = r ∨ k = o ∨ At v k) w w7 := (((Upd.drew _ w).trans hu4 fun _ _ h => .inl h).trans hu6 fun j hj h => .inr (.inr h)).trans hu7 fun _ _ h => .inr (.inl h)
      have hR7 : RdAt w7 r L s a3 e3 := (hR4.upd hu6 fun j _ hj => .inr (by have := own_ge ho4 hj; omega)).upd hu7 fun j _ hj => .inr (by omega)
      have ho7 := hu7.owns ho6 (fun j hj e => by have := own_ge ho6 hj; omega)
      have ho8 : w7.ownsRow base 9 1 v6 (l ++ [n3]).length ((l ++ [n3]).flatMap txC) := by rw [List.length_append, List.flatMap_append]; exact ho7
      have hf7 : ∀ k, At v6 k → At v k ∨ w.heap.size ≤ k := fun k hk => (hf6 k hk).imp (fun h => h) fun h => by omega
      have hg := Lib.hid (hfin.out w7 v6 hR7 hb7 ho8 hu47 hf7)
      clear hb7 ho7 ho8 ho6 hu6 hu7 hf6 gb6 hux gb1 ho4 hR4 hu4 z4 gw zw g1 db hod zd hRd hR7 g7 g6 hu47 hf7
      go_wp2_with fail
      go_returns
      exact hg.out
    case sD =>
      intro K hK
      go_simp
      refine hK.out _ _ (by exact gw) (fun hHeld => ?_)
      clear hK K
      try simp only [Act.put, List.setIfInBounds_toArray, List.set_cons_zero, List.set_cons_succ]
      (refine wpAnyH_ready (rs := [0]) (by kernel_rfl) (by simp) ?_; refine AllReadyH.cons (o := ?oo_9_0) ?hoo_9_0 ?hst_9_0 AllReadyH.nil; (case hoo_9_0 => (simp only [List.getElem?_toArray, List.getElem?_cons_succ, List.getElem?_cons_zero]; rfl)); intro K hK; go_simp; (skip); (try go_wp2_with fail); refine hK.out _ _ (by (try dsimp only); exact gw) (fun hHeld => ?_); clear hK K; (try simp only [Act.put, List.setIfInBounds_toArray, List.set_cons_zero, List.set_cons_succ]))
      (refine wpAnyH_ready (rs := [4]) (by kernel_rfl) (by simp) ?_; refine AllReadyH.cons (o := ?oo_10_4) ?hoo_10_4 ?hst_10_4 AllReadyH.nil; (case hoo_10_4 => (simp only [List.getElem?_toArray, List.getElem?_cons_succ, List.getElem?_cons_zero]; rfl)); intro K hK; ((go_must (refine step_app1p rfl _ _ 30 rfl base 9 (.string ⟨#[]⟩) 1 16 Tryz.underlying30 hii.out rfl v l.length (l.flatMap txC) rfl ho4 [.string ⟨n3.toArray⟩] w4.heap.size rfl rfl rfl (by intro u hu; rw [List.mem_singleton.1 hu]; rfl) (by unfold maxLen; omega) (by omega) (by omega) ?_); intro v6 w6 ho6 hu6 hf6; have g6 := hu6.cell g1 (fun h => by have := own_ge ho4 h; dsimp only at this; omega); have gb6 := hu6.heap gb1 (fun h => by have := own_ge ho4 h; omega))); (try go_wp2_with fail); refine hK.out _ _ (by (try dsimp only); exact g6) (fun hHeld => ?_); clear hK K; (try simp only [Act.put, List.setIfInBounds_toArray, List.set_cons_zero, List.set_cons_succ]))
      (refine wpAnyH_ready (rs := [5]) (by kernel_rfl) (by simp) ?_; refine AllReadyH.cons (o := ?oo_11_5) ?hoo_11_5 ?hst_11_5 AllReadyH.nil; (case hoo_11_5 => (simp only [List.getElem?_toArray, List.getElem?_cons_succ, List.getElem?_cons_zero]; rfl)); intro K hK; ((refine step_store_cell rfl 30 _ _ rfl o 0 v6 _ _ rfl rfl gb6 (show 0 < 1 by omega) rfl (by obtain ⟨_, aa, cc, rfl, -⟩ := has_of_owns ho6; rfl) (by obtain ⟨_, aa, cc, rfl, -⟩ := has_of_owns ho6; rfl) ?_; intro w7 hb7 hu7; have g7 := hu7.cell g6 (by dsimp only; omega))); (try go_wp2_with fail); refine hK.out _ _ (by (try dsimp only); exact g7) (fun hHeld => ?_); clear hK K; (try simp only [Act.put, List.setIfInBounds_toArray, List.set_cons_zero, List.set_cons_succ]))
      refine wpAnyH_done (by kernel_rfl) ?_ _
      have hu47 : Upd (fun k => k = r ∨ k = o ∨ At v k) w w7 := (((Upd.drew _ w).trans hu4 fun _ _ h => .inl h).trans hu6 fun j hj h => .inr (.inr h)).trans hu7 fun _ _ h => .inr (.inl h)
      have hR7 : RdAt w7 r L s a3 e3 := (hR4.upd hu6 fun j _ hj => .inr (by have := own_ge ho4 hj; omega)).upd hu7 fun j _ hj => .inr (by omega)
      have ho7 := hu7.owns ho6 (fun j hj e => by have := own_ge ho6 hj; omega)
      have ho8 : w7.ownsRow base 9 1 v6 (l ++ [n3]).length ((l ++ [n3]).flatMap txC) := by rw [List.length_append, List.flatMap_append]; exact ho7
      have hf7 : ∀ k, At v6 k → At v k ∨ w.heap.size ≤ k := fun k hk => (hf6 k hk).imp (fun h => h) fun h => by omega
      have hg := Lib.hid (hfin.out w7 v6 hR7 hb7 ho8 hu47 hf7)
      clear hb7 ho7 ho8 ho6 hu6 hu7 hf6 gb6 hux gb1 ho4 hR4 hu4 z4 gw zw g1 db hod zd hRd hR7 g7 g6 hu47 hf7
      go_wp2_with fail
      go_returns
      exact hg.out
end Go.Proofs.YtogekobpjjmnjaaGreat
