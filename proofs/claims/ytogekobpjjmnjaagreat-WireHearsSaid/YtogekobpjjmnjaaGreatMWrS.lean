/- wire.reader: get. -/
import Derived.Test.YtogekobpjjmnjaaGreatMWrO
namespace Go.Proofs.YtogekobpjjmnjaaGreat
open Go.RowKit Go.Amb
set_option linter.unusedVariables false
set_option linter.unusedSimpArgs false
set_option maxRecDepth 100000
variable {L : Nat}
attribute [local go_sem ↓] Go.wp_at_zero Go.wp_at_succ
def GotQ (r L : Nat) (s : List UInt8) (b base : Nat) (pv : Value) (x : Rq × Nat × Int) (w : World) : Ending → World → Prop := fun en w' =>
  en = .returned (.tuple #[]) ∧ ∃ pv', w'.heap[b]? = some (.cells (rqC x.1 pv') 86 (0, 0)) ∧ w'.ownsRow base 3 1 pv' x.1.parts.length (x.1.parts.map (.int .i64)) ∧ RdAt w' r L s x.2.1 x.2.2 ∧ Upd (fun k => k = r ∨ k = b ∨ At pv k) w w' ∧ (∀ k, At pv' k → At pv k ∨ w.heap.size ≤ k)
theorem got_same {r b base : Nat} {s : List UInt8} {pv : Value} {q : Rq} {q' : Rq} {a' : Nat} {e' : Int} {w w2 : World} (hown : w.ownsRow base 3 1 pv q.parts.length (q.parts.map (.int .i64))) (hb : b < base) (hr : r < base) (hp : q'.parts = q.parts)
    (hM : w2.heap[b]? = some (.cells (rqC q' pv) 86 (0, 0))) (hR : RdAt w2 r L s a' e') (hu : Upd (fun k => k = r ∨ k = b) w w2) : GotQ r L s b base pv (q', a', e') w (.returned (.tuple #[])) w2 := by
  refine ⟨rfl, pv, hM, ?_, hR, hu.mono fun k _ h => h.imp id .inl, fun k h => .inl h⟩
  show w2.ownsRow _ _ _ _ q'.parts.length (q'.parts.map _)
  rw [hp]
  exact hu.owns hown fun k hk h => by have := own_ge hown hk; omega
set_option maxHeartbeats 4000000 in
theorem wGet (r b base : Nat) (s : List UInt8) (a : Nat) (e : Int) (q : Rq) (pv : Value) (c : UInt8) (hc : c ∈ lets11) (w : World) (h : RdAt w r L s a e) (hM : w.heap[b]? = some (.cells (rqC q pv) 86 (0, 0)))
    (hown : w.ownsRow base 3 1 pv q.parts.length (q.parts.map (.int .i64))) (hrb : r < b) (hb : b < base) (hbz : base ≤ w.heap.size) (hlen : q.parts.length ≤ 100000) :
    Calls Tryz.prog 71 #[rdV1 r, .pointer (some ⟨b, 0, none⟩), .int .i32 (c.toNat : Int)] w (GotQ r L s b base pv (getQ s c (q, a, e)) w) := by
  have hr : r < base := by omega
  unfold rdV1
  have y0 : (w.alloc (.cells #[.pointer (some ⟨r, 0, none⟩)] 50)).cell? ⟨w.heap.size, 0, none⟩ = some (.pointer (some ⟨r, 0, none⟩)) := (cells_of (heap_alloc_new w (.cells #[.pointer (some ⟨r, 0, none⟩)] 50))).1 0
  have hR0 : RdAt (w.alloc (.cells #[.pointer (some ⟨r, 0, none⟩)] 50)) r L s a e := h.non (Upd.alloc _ _ _)
  have hM0 : (w.alloc (.cells #[.pointer (some ⟨r, 0, none⟩)] 50)).heap[b]? = some (.cells (rqC q pv) 86 (0, 0)) := (Upd.alloc Non _ _).heap hM fun h => h
  have hu0 : Upd (fun k => k = r ∨ k = b) w (w.alloc (.cells #[.pointer (some ⟨r, 0, none⟩)] 50)) := Upd.alloc _ _ _
  have hz0 : (w.alloc (.cells #[.pointer (some ⟨r, 0, none⟩)] 50)).heap.size = w.heap.size + 1 := by simp
  simp only [lets11, List.mem_cons, List.not_mem_nil, or_false] at hc
  rcases hc with rfl | rfl | rfl | rfl | rfl | rfl | rfl | rfl | rfl | rfl | rfl
  · rw [show ((83 : UInt8).toNat : Int) = 83 from rfl]
    have c1 := Lib.hid (fun w h => fU8 (L := L) r s a e w h)
    have hG := Lib.hid (fun (q' : Rq) a' e' w2 hp hM hR hu => got_same (q' := q') (a' := a') (e' := e') (w2 := w2) (s := s) (L := L) hown hb hr hp hM hR hu)
    show Calls _ _ _ _ (GotQ r L s b base pv ({ q with session := (rdNum s a e 1).2.2 }, (rdNum s a e 1).1, (rdNum s a e 1).2.1) w)
    generalize rdNum s a e 1 = x at *
    obtain ⟨a1, e1, n1⟩ := x
    dsimp only at c1 ⊢
    replace hG := Lib.hid (hG.out { q with session := n1 } a1 e1)
    generalize GotQ r L s b base pv ({ q with session := n1 }, a1, e1) w = PR at *
    go_enter Tryz.func71, Tryz.ntmps71
    go_wp2_with fail
    refine (c1.out _ hR0).mono ?_
    rintro en w1 ⟨rfl, hR1, hu1⟩
    have hM1 := hu1.heap hM0 (by omega)
    have hb1 := heap_lt hM1
    obtain ⟨c0, f0⟩ := cells_of hM1
    have z : w1.cell? ⟨b, 1, none⟩ = (rqC q pv)[1]? := c0 1
    have zf := f0 1
    unfold rqC at z
    simp only [List.getElem?_toArray, List.getElem?_cons_succ, List.getElem?_cons_zero] at z
    have hg := Lib.hid (hG.out (w1.setCell ⟨b, 1, none⟩ (.int .i64 n1)) (by first | trivial | rfl) (set_blk (j := 1) hM1 (.int .i64 n1)) (hR1.upd (Upd.setCell (S := fun k => k = b) w1 (a := ⟨b, 1, none⟩) rfl (.int .i64 n1)) fun k _ hk => by omega) ((hu0.trans hu1 fun _ _ h => .inl h).trans (Upd.setCell (S := fun k => k = b) w1 (a := ⟨b, 1, none⟩) rfl (.int .i64 n1)) fun _ _ h => .inr h))
    clear c0 f0 hM1 hM0 hG c1
    go_wp2_with fail
    go_returns
    exact hg.out
  · rw [show ((66 : UInt8).toNat : Int) = 66 from rfl]
    have c1 := Lib.hid (fun w h => fU8 (L := L) r s a e w h)
    obtain ⟨z, hz, hz2⟩ := rdNum_nat s a e 1 (by omega)
    have c2 := Lib.hid (fun w h => wRest (L := L) r s (rdNum s a e 1).1 (rdNum s a e 1).2.1 z w h (by omega))
    have hG := Lib.hid (fun (q' : Rq) a' e' w2 hp hM hR hu => got_same (q' := q') (a' := a') (e' := e') (w2 := w2) (s := s) (L := L) hown hb hr hp hM hR hu)
    show Calls _ _ _ _ (GotQ r L s b base pv ({ q with bucket := (rdStr s a e 1).2.2 }, (rdStr s a e 1).1, (rdStr s a e 1).2.1) w)
    unfold rdStr
    rw [hz] at c1 ⊢
    rw [Int.toNat_natCast]
    clear hz
    generalize rdNum s a e 1 = x at *
    obtain ⟨a1, e1, n1⟩ := x
    dsimp only at c1 c2 ⊢
    generalize rdRest s a1 e1 z = x at *
    obtain ⟨a2, e2, t2⟩ := x
    dsimp only at c2 ⊢
    replace hG := Lib.hid (hG.out { q with bucket := t2 } a2 e2)
    generalize GotQ r L s b base pv ({ q with bucket := t2 }, a2, e2) w = PR at *
    have hRd : RdAt (w.alloc (.cells #[.pointer (some ⟨r, 0, none⟩)] 50)).drew r L s a e := hR0.non (Upd.drew _ _)
    have d0 := (Upd.drew Non _).cell y0 fun h => h
    have db := (Upd.drew Non _).heap hM0 fun h => h
    have hud := hu0.then_drew
    unfold rdV1 at c2
    clear hz2 hM0
    go_enter Tryz.func71, Tryz.ntmps71
    go_wp2_with fail
    refine wp_region_held_drew (S := (fun w' => w'.cell? ⟨w.heap.size, 0, none⟩ = some (.pointer (some ⟨r, 0, none⟩)))) (by kernel_rfl) (by (try dsimp only); first | exact g3 | exact g2 | exact g1 | exact d0) (fun hHeld => ?_)
    (refine wpAnyH_take (i := 0) (oi := ?oi_1_0) (v := ?v_1_0) ?ho_1_0 ?hs_1_0 ?hf_1_0 ?hr_1_0 ?hQ_1_0 ?hy_1_0 ?hS_1_0 ?rest_1_0; (case hr_1_0 => kernel_rfl); (case hf_1_0 => kernel_rfl); (case hs_1_0 => kernel_rfl); (case ho_1_0 => (simp only [List.getElem?_toArray, List.getElem?_cons_succ, List.getElem?_cons_zero]; rfl)); (case hS_1_0 => assumption); (case hQ_1_0 => exact fun _ _ _ h => h); (case hy_1_0 => (refine Or.inl ⟨by rfl, ?_⟩; (intro w hSw; (try dsimp only at hSw); go_simp) <;> with_reducible rfl)); (try simp only [Act.put, List.setIfInBounds_toArray, List.set_cons_zero, List.set_cons_succ]))
    (refine wpAnyH_take (i := 1) (oi := ?oi_1_1) (v := ?v_1_1) ?ho_1_1 ?hs_1_1 ?hf_1_1 ?hr_1_1 ?hQ_1_1 ?hy_1_1 ?hS_1_1 ?rest_1_1; (case hr_1_1 => kernel_rfl); (case hf_1_1 => kernel_rfl); (case hs_1_1 => kernel_rfl); (case ho_1_1 => (simp only [List.getElem?_toArray, List.getElem?_cons_succ, List.getElem?_cons_zero]; rfl)); (case hS_1_1 => assumption); (case hQ_1_1 => exact fun _ _ _ h => h); (case hy_1_1 => (refine Or.inl ⟨by rfl, ?_⟩; (intro w hSw; (try dsimp only at hSw); go_simp) <;> with_reducible rfl)); (try simp only [Act.put, List.setIfInBounds_toArray, List.set_cons_zero, List.set_cons_succ]))
    (refine wpAnyH_take (i := 2) (oi := ?oi_1_2) (v := ?v_1_2) ?ho_1_2 ?hs_1_2 ?hf_1_2 ?hr_1_2 ?hQ_1_2 ?hy_1_2 ?hS_1_2 ?rest_1_2; (case hr_1_2 => kernel_rfl); (case hf_1_2 => kernel_rfl); (case hs_1_2 => kernel_rfl); (case ho_1_2 => (simp only [List.getElem?_toArray, List.getElem?_cons_succ, List.getElem?_cons_zero]; rfl)); (case hS_1_2 => assumption); (case hQ_1_2 => exact fun _ _ _ h => h); (case hy_1_2 => (refine Or.inl ⟨by rfl, ?_⟩; (intro w hSw; (try dsimp only at hSw); go_simp) <;> with_reducible rfl)); (try simp only [Act.put, List.setIfInBounds_toArray, List.set_cons_zero, List.set_cons_succ]))
    (refine wpAnyH_take (i := 3) (oi := ?oi_1_3) (v := ?v_1_3) ?ho_1_3 ?hs_1_3 ?hf_1_3 ?hr_1_3 ?hQ_1_3 ?hy_1_3 ?hS_1_3 ?rest_1_3; (case hr_1_3 => kernel_rfl); (case hf_1_3 => kernel_rfl); (case hs_1_3 => kernel_rfl); (case ho_1_3 => (simp only [List.getElem?_toArray, List.getElem?_cons_succ, List.getElem?_cons_zero]; rfl)); (case hS_1_3 => assumption); (case hQ_1_3 => exact fun _ _ _ h => h); (case hy_1_3 => (refine Or.inl ⟨by rfl, ?_⟩; (intro w hSw; (try dsimp only at hSw); go_simp) <;> with_reducible rfl)); (try simp only [Act.put, List.setIfInBounds_toArray, List.set_cons_zero, List.set_cons_succ]))
    (refine wpAnyH_ready (rs := [4]) (by kernel_rfl) (by simp) ?_; refine AllReadyH.cons (o := ?oo_1_4) ?hoo_1_4 ?hst_1_4 AllReadyH.nil; (case hoo_1_4 => (simp only [List.getElem?_toArray, List.getElem?_cons_succ, List.getElem?_cons_zero]; rfl)); intro K hK; go_simp; (first | (go_at_call 9; (with_reducible refine (c1.out _ hRd).mono ?_); rintro en w4 ⟨rfl, hR1, hu4⟩; have g1 := hu4.cell d0 (by dsimp only; omega); have gb1 := hu4.heap db (by omega); clear db) | (go_at_call 94; (with_reducible refine (c2.out _ hR1).mono ?_); rintro en w5 ⟨rfl, hR2, hu5⟩; have g2 := hu5.cell g1 (by dsimp only; omega); have gb2 := hu5.heap gb1 (by omega); clear gb1) | (refine step_store_cell rfl 9 _ _ rfl b 2 (.string ⟨t2.toArray⟩) _ _ rfl rfl gb2 (show 2 < 14 by omega) rfl rfl rfl ?_; intro w6 hb6 hu6; have g3 := hu6.cell g2 (by dsimp only; omega); clear gb2)); (try go_wp2_with fail); refine hK.out _ _ (by (try dsimp only); first | exact g3 | exact g2 | exact g1 | exact d0) (fun hHeld => ?_); clear hK K; (try simp only [Act.put, List.setIfInBounds_toArray, List.set_cons_zero, List.set_cons_succ]))
    (refine wpAnyH_ready (rs := [5]) (by kernel_rfl) (by simp) ?_; refine AllReadyH.cons (o := ?oo_1_5) ?hoo_1_5 ?hst_1_5 AllReadyH.nil; (case hoo_1_5 => (simp only [List.getElem?_toArray, List.getElem?_cons_succ, List.getElem?_cons_zero]; rfl)); intro K hK; go_simp; (first | (go_at_call 9; (with_reducible refine (c1.out _ hRd).mono ?_); rintro en w4 ⟨rfl, hR1, hu4⟩; have g1 := hu4.cell d0 (by dsimp only; omega); have gb1 := hu4.heap db (by omega); clear db) | (go_at_call 94; (with_reducible refine (c2.out _ hR1).mono ?_); rintro en w5 ⟨rfl, hR2, hu5⟩; have g2 := hu5.cell g1 (by dsimp only; omega); have gb2 := hu5.heap gb1 (by omega); clear gb1) | (refine step_store_cell rfl 9 _ _ rfl b 2 (.string ⟨t2.toArray⟩) _ _ rfl rfl gb2 (show 2 < 14 by omega) rfl rfl rfl ?_; intro w6 hb6 hu6; have g3 := hu6.cell g2 (by dsimp only; omega); clear gb2)); (try go_wp2_with fail); refine hK.out _ _ (by (try dsimp only); first | exact g3 | exact g2 | exact g1 | exact d0) (fun hHeld => ?_); clear hK K; (try simp only [Act.put, List.setIfInBounds_toArray, List.set_cons_zero, List.set_cons_succ]))
    (refine wpAnyH_take (i := 6) (oi := ?oi_1_6) (v := ?v_1_6) ?ho_1_6 ?hs_1_6 ?hf_1_6 ?hr_1_6 ?hQ_1_6 ?hy_1_6 ?hS_1_6 ?rest_1_6; (case hr_1_6 => kernel_rfl); (case hf_1_6 => kernel_rfl); (case hs_1_6 => kernel_rfl); (case ho_1_6 => (simp only [List.getElem?_toArray, List.getElem?_cons_succ, List.getElem?_cons_zero]; rfl)); (case hS_1_6 => assumption); (case hQ_1_6 => exact fun _ _ _ h => h); (case hy_1_6 => (refine Or.inl ⟨by rfl, ?_⟩; (intro w hSw; (try dsimp only at hSw); go_simp) <;> with_reducible rfl)); (try simp only [Act.put, List.setIfInBounds_toArray, List.set_cons_zero, List.set_cons_succ]))
    (refine wpAnyH_take (i := 7) (oi := ?oi_1_7) (v := ?v_1_7) ?ho_1_7 ?hs_1_7 ?hf_1_7 ?hr_1_7 ?hQ_1_7 ?hy_1_7 ?hS_1_7 ?rest_1_7; (case hr_1_7 => kernel_rfl); (case hf_1_7 => kernel_rfl); (case hs_1_7 => kernel_rfl); (case ho_1_7 => (simp only [List.getElem?_toArray, List.getElem?_cons_succ, List.getElem?_cons_zero]; rfl)); (case hS_1_7 => assumption); (case hQ_1_7 => exact fun _ _ _ h => h); (case hy_1_7 => (refine Or.inl ⟨by rfl, ?_⟩; (intro w hSw; (try dsimp only at hSw); go_simp) <;> with_reducible rfl)); (try simp only [Act.put, List.setIfInBounds_toArray, List.set_cons_zero, List.set_cons_succ]))
    (refine wpAnyH_ready (rs := [8]) (by kernel_rfl) (by simp) ?_; refine AllReadyH.cons (o := ?oo_1_8) ?hoo_1_8 ?hst_1_8 AllReadyH.nil; (case hoo_1_8 => (simp only [List.getElem?_toArray, List.getElem?_cons_succ, List.getElem?_cons_zero]; rfl)); intro K hK; (first | (go_at_call 9; (with_reducible refine (c1.out _ hRd).mono ?_); rintro en w4 ⟨rfl, hR1, hu4⟩; have g1 := hu4.cell d0 (by dsimp only; omega); have gb1 := hu4.heap db (by omega); clear db) | (go_at_call 94; (with_reducible refine (c2.out _ hR1).mono ?_); rintro en w5 ⟨rfl, hR2, hu5⟩; have g2 := hu5.cell g1 (by dsimp only; omega); have gb2 := hu5.heap gb1 (by omega); clear gb1) | (refine step_store_cell rfl 9 _ _ rfl b 2 (.string ⟨t2.toArray⟩) _ _ rfl rfl gb2 (show 2 < 14 by omega) rfl rfl rfl ?_; intro w6 hb6 hu6; have g3 := hu6.cell g2 (by dsimp only; omega); clear gb2)); (try go_wp2_with fail); refine hK.out _ _ (by (try dsimp only); first | exact g3 | exact g2 | exact g1 | exact d0) (fun hHeld => ?_); clear hK K; (try simp only [Act.put, List.setIfInBounds_toArray, List.set_cons_zero, List.set_cons_succ]))
    refine wpAnyH_done (by kernel_rfl) ?_ _
    have hg := Lib.hid (hG.out w6 (by first | trivial | rfl) hb6 (hR2.upd hu6 fun k _ hk => by omega) (((hud.trans hu4 fun _ _ h => .inl h).trans hu5 fun _ _ h => .inl h).trans hu6 fun _ _ h => .inr h))
    clear hG c1 c2 hb6 hu6 hu5 hu4 hud hR2 hR1 hRd
    go_wp2_with fail
    go_returns
    exact hg.out
  · rw [show ((79 : UInt8).toNat : Int) = 79 from rfl]
    have c1 := Lib.hid (fun w h => fU8 (L := L) r s a e w h)
    obtain ⟨z, hz, hz2⟩ := rdNum_nat s a e 1 (by omega)
    have c2 := Lib.hid (fun w h => wRest (L := L) r s (rdNum s a e 1).1 (rdNum s a e 1).2.1 z w h (by omega))
    have hG := Lib.hid (fun (q' : Rq) a' e' w2 hp hM hR hu => got_same (q' := q') (a' := a') (e' := e') (w2 := w2) (s := s) (L := L) hown hb hr hp hM hR hu)
    show Calls _ _ _ _ (GotQ r L s b base pv ({ q with object := (rdStr s a e 1).2.2 }, (rdStr s a e 1).1, (rdStr s a e 1).2.1) w)
    unfold rdStr
    rw [hz] at c1 ⊢
    rw [Int.toNat_natCast]
    clear hz
    generalize rdNum s a e 1 = x at *
    obtain ⟨a1, e1, n1⟩ := x
    dsimp only at c1 c2 ⊢
    generalize rdRest s a1 e1 z = x at *
    obtain ⟨a2, e2, t2⟩ := x
    dsimp only at c2 ⊢
    replace hG := Lib.hid (hG.out { q with object := t2 } a2 e2)
    generalize GotQ r L s b base pv ({ q with object := t2 }, a2, e2) w = PR at *
    have hRd : RdAt (w.alloc (.cells #[.pointer (some ⟨r, 0, none⟩)] 50)).drew r L s a e := hR0.non (Upd.drew _ _)
    have d0 := (Upd.drew Non _).cell y0 fun h => h
    have db := (Upd.drew Non _).heap hM0 fun h => h
    have hud := hu0.then_drew
    unfold rdV1 at c2
    clear hz2 hM0
    go_enter Tryz.func71, Tryz.ntmps71
    go_wp2_with fail
    refine wp_region_held_drew (S := (fun w' => w'.cell? ⟨w.heap.size, 0, none⟩ = some (.pointer (some ⟨r, 0, none⟩)))) (by kernel_rfl) (by (try dsimp only); first | exact g3 | exact g2 | exact g1 | exact d0) (fun hHeld => ?_)
    (refine wpAnyH_take (i := 0) (oi := ?oi_2_0) (v := ?v_2_0) ?ho_2_0 ?hs_2_0 ?hf_2_0 ?hr_2_0 ?hQ_2_0 ?hy_2_0 ?hS_2_0 ?rest_2_0; (case hr_2_0 => kernel_rfl); (case hf_2_0 => kernel_rfl); (case hs_2_0 => kernel_rfl); (case ho_2_0 => (simp only [List.getElem?_toArray, List.getElem?_cons_succ, List.getElem?_cons_zero]; rfl)); (case hS_2_0 => assumption); (case hQ_2_0 => exact fun _ _ _ h => h); (case hy_2_0 => (refine Or.inl ⟨by rfl, ?_⟩; (intro w hSw; (try dsimp only at hSw); go_simp) <;> with_reducible rfl)); (try simp only [Act.put, List.setIfInBounds_toArray, List.set_cons_zero, List.set_cons_succ]))
    (refine wpAnyH_take (i := 1) (oi := ?oi_2_1) (v := ?v_2_1) ?ho_2_1 ?hs_2_1 ?hf_2_1 ?hr_2_1 ?hQ_2_1 ?hy_2_1 ?hS_2_1 ?rest_2_1; (case hr_2_1 => kernel_rfl); (case hf_2_1 => kernel_rfl); (case hs_2_1 => kernel_rfl); (case ho_2_1 => (simp only [List.getElem?_toArray, List.getElem?_cons_succ, List.getElem?_cons_zero]; rfl)); (case hS_2_1 => assumption); (case hQ_2_1 => exact fun _ _ _ h => h); (case hy_2_1 => (refine Or.inl ⟨by rfl, ?_⟩; (intro w hSw; (try dsimp only at hSw); go_simp) <;> with_reducible rfl)); (try simp only [Act.put, List.setIfInBounds_toArray, List.set_cons_zero, List.set_cons_succ]))
    (refine wpAnyH_take (i := 2) (oi := ?oi_2_2) (v := ?v_2_2) ?ho_2_2 ?hs_2_2 ?hf_2_2 ?hr_2_2 ?hQ_2_2 ?hy_2_2 ?hS_2_2 ?rest_2_2; (case hr_2_2 => kernel_rfl); (case hf_2_2 => kernel_rfl); (case hs_2_2 => kernel_rfl); (case ho_2_2 => (simp only [List.getElem?_toArray, List.getElem?_cons_succ, List.getElem?_cons_zero]; rfl)); (case hS_2_2 => assumption); (case hQ_2_2 => exact fun _ _ _ h => h); (case hy_2_2 => (refine Or.inl ⟨by rfl, ?_⟩; (intro w hSw; (try dsimp only at hSw); go_simp) <;> with_reducible rfl)); (try simp only [Act.put, List.setIfInBounds_toArray, List.set_cons_zero, List.set_cons_succ]))
    (refine wpAnyH_take (i := 3) (oi := ?oi_2_3) (v := ?v_2_3) ?ho_2_3 ?hs_2_3 ?hf_2_3 ?hr_2_3 ?hQ_2_3 ?hy_2_3 ?hS_2_3 ?rest_2_3; (case hr_2_3 => kernel_rfl); (case hf_2_3 => kernel_rfl); (case hs_2_3 => kernel_rfl); (case ho_2_3 => (simp only [List.getElem?_toArray, List.getElem?_cons_succ, List.getElem?_cons_zero]; rfl)); (case hS_2_3 => assumption); (case hQ_2_3 => exact fun _ _ _ h => h); (case hy_2_3 => (refine Or.inl ⟨by rfl, ?_⟩; (intro w hSw; (try dsimp only at hSw); go_simp) <;> with_reducible rfl)); (try simp only [Act.put, List.setIfInBounds_toArray, List.set_cons_zero, List.set_cons_succ]))
    (refine wpAnyH_ready (rs := [4]) (by kernel_rfl) (by simp) ?_; refine AllReadyH.cons (o := ?oo_2_4) ?hoo_2_4 ?hst_2_4 AllReadyH.nil; (case hoo_2_4 => (simp only [List.getElem?_toArray, List.getElem?_cons_succ, List.getElem?_cons_zero]; rfl)); intro K hK; go_simp; (first | (go_at_call 9; (with_reducible refine (c1.out _ hRd).mono ?_); rintro en w4 ⟨rfl, hR1, hu4⟩; have g1 := hu4.cell d0 (by dsimp only; omega); have gb1 := hu4.heap db (by omega); clear db) | (go_at_call 94; (with_reducible refine (c2.out _ hR1).mono ?_); rintro en w5 ⟨rfl, hR2, hu5⟩; have g2 := hu5.cell g1 (by dsimp only; omega); have gb2 := hu5.heap gb1 (by omega); clear gb1) | (refine step_store_cell rfl 9 _ _ rfl b 3 (.string ⟨t2.toArray⟩) _ _ rfl rfl gb2 (show 3 < 14 by omega) rfl rfl rfl ?_; intro w6 hb6 hu6; have g3 := hu6.cell g2 (by dsimp only; omega); clear gb2)); (try go_wp2_with fail); refine hK.out _ _ (by (try dsimp only); first | exact g3 | exact g2 | exact g1 | exact d0) (fun hHeld => ?_); clear hK K; (try simp only [Act.put, List.setIfInBounds_toArray, List.set_cons_zero, List.set_cons_succ]))
    (refine wpAnyH_ready (rs := [5]) (by kernel_rfl) (by simp) ?_; refine AllReadyH.cons (o := ?oo_2_5) ?hoo_2_5 ?hst_2_5 AllReadyH.nil; (case hoo_2_5 => (simp only [List.getElem?_toArray, List.getElem?_cons_succ, List.getElem?_cons_zero]; rfl)); intro K hK; go_simp; (first | (go_at_call 9; (with_reducible refine (c1.out _ hRd).mono ?_); rintro en w4 ⟨rfl, hR1, hu4⟩; have g1 := hu4.cell d0 (by dsimp only; omega); have gb1 := hu4.heap db (by omega); clear db) | (go_at_call 94; (with_reducible refine (c2.out _ hR1).mono ?_); rintro en w5 ⟨rfl, hR2, hu5⟩; have g2 := hu5.cell g1 (by dsimp only; omega); have gb2 := hu5.heap gb1 (by omega); clear gb1) | (refine step_store_cell rfl 9 _ _ rfl b 3 (.string ⟨t2.toArray⟩) _ _ rfl rfl gb2 (show 3 < 14 by omega) rfl rfl rfl ?_; intro w6 hb6 hu6; have g3 := hu6.cell g2 (by dsimp only; omega); clear gb2)); (try go_wp2_with fail); refine hK.out _ _ (by (try dsimp only); first | exact g3 | exact g2 | exact g1 | exact d0) (fun hHeld => ?_); clear hK K; (try simp only [Act.put, List.setIfInBounds_toArray, List.set_cons_zero, List.set_cons_succ]))
    (refine wpAnyH_take (i := 6) (oi := ?oi_2_6) (v := ?v_2_6) ?ho_2_6 ?hs_2_6 ?hf_2_6 ?hr_2_6 ?hQ_2_6 ?hy_2_6 ?hS_2_6 ?rest_2_6; (case hr_2_6 => kernel_rfl); (case hf_2_6 => kernel_rfl); (case hs_2_6 => kernel_rfl); (case ho_2_6 => (simp only [List.getElem?_toArray, List.getElem?_cons_succ, List.getElem?_cons_zero]; rfl)); (case hS_2_6 => assumption); (case hQ_2_6 => exact fun _ _ _ h => h); (case hy_2_6 => (refine Or.inl ⟨by rfl, ?_⟩; (intro w hSw; (try dsimp only at hSw); go_simp) <;> with_reducible rfl)); (try simp only [Act.put, List.setIfInBounds_toArray, List.set_cons_zero, List.set_cons_succ]))
    (refine wpAnyH_take (i := 7) (oi := ?oi_2_7) (v := ?v_2_7) ?ho_2_7 ?hs_2_7 ?hf_2_7 ?hr_2_7 ?hQ_2_7 ?hy_2_7 ?hS_2_7 ?rest_2_7; (case hr_2_7 => kernel_rfl); (case hf_2_7 => kernel_rfl); (case hs_2_7 => kernel_rfl); (case ho_2_7 => (simp only [List.getElem?_toArray, List.getElem?_cons_succ, List.getElem?_cons_zero]; rfl)); (case hS_2_7 => assumption); (case hQ_2_7 => exact fun _ _ _ h => h); (case hy_2_7 => (refine Or.inl ⟨by rfl, ?_⟩; (intro w hSw; (try dsimp only at hSw); go_simp) <;> with_reducible rfl)); (try simp only [Act.put, List.setIfInBounds_toArray, List.set_cons_zero, List.set_cons_succ]))
    (refine wpAnyH_ready (rs := [8]) (by kernel_rfl) (by simp) ?_; refine AllReadyH.cons (o := ?oo_2_8) ?hoo_2_8 ?hst_2_8 AllReadyH.nil; (case hoo_2_8 => (simp only [List.getElem?_toArray, List.getElem?_cons_succ, List.getElem?_cons_zero]; rfl)); intro K hK; (first | (go_at_call 9; (with_reducible refine (c1.out _ hRd).mono ?_); rintro en w4 ⟨rfl, hR1, hu4⟩; have g1 := hu4.cell d0 (by dsimp only; omega); have gb1 := hu4.heap db (by omega); clear db) | (go_at_call 94; (with_reducible refine (c2.out _ hR1).mono ?_); rintro en w5 ⟨rfl, hR2, hu5⟩; have g2 := hu5.cell g1 (by dsimp only; omega); have gb2 := hu5.heap gb1 (by omega); clear gb1) | (refine step_store_cell rfl 9 _ _ rfl b 3 (.string ⟨t2.toArray⟩) _ _ rfl rfl gb2 (show 3 < 14 by omega) rfl rfl rfl ?_; intro w6 hb6 hu6; have g3 := hu6.cell g2 (by dsimp only; omega); clear gb2)); (try go_wp2_with fail); refine hK.out _ _ (by (try dsimp only); first | exact g3 | exact g2 | exact g1 | exact d0) (fun hHeld => ?_); clear hK K; (try simp only [Act.put, List.setIfInBounds_toArray, List.set_cons_zero, List.set_cons_succ]))
    refine wpAnyH_done (by kernel_rfl) ?_ _
    have hg := Lib.hid (hG.out w6 (by first | trivial | rfl) hb6 (hR2.upd hu6 fun k _ hk => by omega) (((hud.trans hu4 fun _ _ h => .inl h).trans hu5 fun _ _ h => .inl h).trans hu6 fun _ _ h => .inr h))
    clear hG c1 c2 hb6 hu6 hu5 hu4 hud hR2 hR1 hRd
    go_wp2_with fail
    go_returns
    exact hg.out
  · rw [show ((86 : UInt8).toNat : Int) = 86 from rfl]
    have c1 := Lib.hid (fun w h => fU8 (L := L) r s a e w h)
    obtain ⟨z, hz, hz2⟩ := rdNum_nat s a e 1 (by omega)
    have c2 := Lib.hid (fun w h => wRest (L := L) r s (rdNum s a e 1).1 (rdNum s a e 1).2.1 z w h (by omega))
    have hG := Lib.hid (fun (q' : Rq) a' e' w2 hp hM hR hu => got_same (q' := q') (a' := a') (e' := e') (w2 := w2) (s := s) (L := L) hown hb hr hp hM hR hu)
    show Calls _ _ _ _ (GotQ r L s b base pv ({ q with version := (rdStr s a e 1).2.2 }, (rdStr s a e 1).1, (rdStr s a e 1).2.1) w)
    unfold rdStr
    rw [hz] at c1 ⊢
    rw [Int.toNat_natCast]
    clear hz
    generalize rdNum s a e 1 = x at *
    obtain ⟨a1, e1, n1⟩ := x
    dsimp only at c1 c2 ⊢
    generalize rdRest s a1 e1 z = x at *
    obtain ⟨a2, e2, t2⟩ := x
    dsimp only at c2 ⊢
    replace hG := Lib.hid (hG.out { q with version := t2 } a2 e2)
    generalize GotQ r L s b base pv ({ q with version := t2 }, a2, e2) w = PR at *
    have hRd : RdAt (w.alloc (.cells #[.pointer (some ⟨r, 0, none⟩)] 50)).drew r L s a e := hR0.non (Upd.drew _ _)
    have d0 := (Upd.drew Non _).cell y0 fun h => h
    have db := (Upd.drew Non _).heap hM0 fun h => h
    have hud := hu0.then_drew
    unfold rdV1 at c2
    clear hz2 hM0
    go_enter Tryz.func71, Tryz.ntmps71
    go_wp2_with fail
    refine wp_region_held_drew (S := (fun w' => w'.cell? ⟨w.heap.size, 0, none⟩ = some (.pointer (some ⟨r, 0, none⟩)))) (by kernel_rfl) (by (try dsimp only); first | exact g3 | exact g2 | exact g1 | exact d0) (fun hHeld => ?_)
    (refine wpAnyH_take (i := 0) (oi := ?oi_3_0) (v := ?v_3_0) ?ho_3_0 ?hs_3_0 ?hf_3_0 ?hr_3_0 ?hQ_3_0 ?hy_3_0 ?hS_3_0 ?rest_3_0; (case hr_3_0 => kernel_rfl); (case hf_3_0 => kernel_rfl); (case hs_3_0 => kernel_rfl); (case ho_3_0 => (simp only [List.getElem?_toArray, List.getElem?_cons_succ, List.getElem?_cons_zero]; rfl)); (case hS_3_0 => assumption); (case hQ_3_0 => exact fun _ _ _ h => h); (case hy_3_0 => (refine Or.inl ⟨by rfl, ?_⟩; (intro w hSw; (try dsimp only at hSw); go_simp) <;> with_reducible rfl)); (try simp only [Act.put, List.setIfInBounds_toArray, List.set_cons_zero, List.set_cons_succ]))
    (refine wpAnyH_take (i := 1) (oi := ?oi_3_1) (v := ?v_3_1) ?ho_3_1 ?hs_3_1 ?hf_3_1 ?hr_3_1 ?hQ_3_1 ?hy_3_1 ?hS_3_1 ?rest_3_1; (case hr_3_1 => kernel_rfl); (case hf_3_1 => kernel_rfl); (case hs_3_1 => kernel_rfl); (case ho_3_1 => (simp only [List.getElem?_toArray, List.getElem?_cons_succ, List.getElem?_cons_zero]; rfl)); (case hS_3_1 => assumption); (case hQ_3_1 => exact fun _ _ _ h => h); (case hy_3_1 => (refine Or.inl ⟨by rfl, ?_⟩; (intro w hSw; (try dsimp only at hSw); go_simp) <;> with_reducible rfl)); (try simp only [Act.put, List.setIfInBounds_toArray, List.set_cons_zero, List.set_cons_succ]))
    (refine wpAnyH_take (i := 2) (oi := ?oi_3_2) (v := ?v_3_2) ?ho_3_2 ?hs_3_2 ?hf_3_2 ?hr_3_2 ?hQ_3_2 ?hy_3_2 ?hS_3_2 ?rest_3_2; (case hr_3_2 => kernel_rfl); (case hf_3_2 => kernel_rfl); (case hs_3_2 => kernel_rfl); (case ho_3_2 => (simp only [List.getElem?_toArray, List.getElem?_cons_succ, List.getElem?_cons_zero]; rfl)); (case hS_3_2 => assumption); (case hQ_3_2 => exact fun _ _ _ h => h); (case hy_3_2 => (refine Or.inl ⟨by rfl, ?_⟩; (intro w hSw; (try dsimp only at hSw); go_simp) <;> with_reducible rfl)); (try simp only [Act.put, List.setIfInBounds_toArray, List.set_cons_zero, List.set_cons_succ]))
    (refine wpAnyH_take (i := 3) (oi := ?oi_3_3) (v := ?v_3_3) ?ho_3_3 ?hs_3_3 ?hf_3_3 ?hr_3_3 ?hQ_3_3 ?hy_3_3 ?hS_3_3 ?rest_3_3; (case hr_3_3 => kernel_rfl); (case hf_3_3 => kernel_rfl); (case hs_3_3 => kernel_rfl); (case ho_3_3 => (simp only [List.getElem?_toArray, List.getElem?_cons_succ, List.getElem?_cons_zero]; rfl)); (case hS_3_3 => assumption); (case hQ_3_3 => exact fun _ _ _ h => h); (case hy_3_3 => (refine Or.inl ⟨by rfl, ?_⟩; (intro w hSw; (try dsimp only at hSw); go_simp) <;> with_reducible rfl)); (try simp only [Act.put, List.setIfInBounds_toArray, List.set_cons_zero, List.set_cons_succ]))
    (refine wpAnyH_ready (rs := [4]) (by kernel_rfl) (by simp) ?_; refine AllReadyH.cons (o := ?oo_3_4) ?hoo_3_4 ?hst_3_4 AllReadyH.nil; (case hoo_3_4 => (simp only [List.getElem?_toArray, List.getElem?_cons_succ, List.getElem?_cons_zero]; rfl)); intro K hK; go_simp; (first | (go_at_call 9; (with_reducible refine (c1.out _ hRd).mono ?_); rintro en w4 ⟨rfl, hR1, hu4⟩; have g1 := hu4.cell d0 (by dsimp only; omega); have gb1 := hu4.heap db (by omega); clear db) | (go_at_call 94; (with_reducible refine (c2.out _ hR1).mono ?_); rintro en w5 ⟨rfl, hR2, hu5⟩; have g2 := hu5.cell g1 (by dsimp only; omega); have gb2 := hu5.heap gb1 (by omega); clear gb1) | (refine step_store_cell rfl 9 _ _ rfl b 4 (.string ⟨t2.toArray⟩) _ _ rfl rfl gb2 (show 4 < 14 by omega) rfl rfl rfl ?_; intro w6 hb6 hu6; have g3 := hu6.cell g2 (by dsimp only; omega); clear gb2)); (try go_wp2_with fail); refine hK.out _ _ (by (try dsimp only); first | exact g3 | exact g2 | exact g1 | exact d0) (fun hHeld => ?_); clear hK K; (try simp only [Act.put, List.setIfInBounds_toArray, List.set_cons_zero, List.set_cons_succ]))
    (refine wpAnyH_ready (rs := [5]) (by kernel_rfl) (by simp) ?_; refine AllReadyH.cons (o := ?oo_3_5) ?hoo_3_5 ?hst_3_5 AllReadyH.nil; (case hoo_3_5 => (simp only [List.getElem?_toArray, List.getElem?_cons_succ, List.getElem?_cons_zero]; rfl)); intro K hK; go_simp; (first | (go_at_call 9; (with_reducible refine (c1.out _ hRd).mono ?_); rintro en w4 ⟨rfl, hR1, hu4⟩; have g1 := hu4.cell d0 (by dsimp only; omega); have gb1 := hu4.heap db (by omega); clear db) | (go_at_call 94; (with_reducible refine (c2.out _ hR1).mono ?_); rintro en w5 ⟨rfl, hR2, hu5⟩; have g2 := hu5.cell g1 (by dsimp only; omega); have gb2 := hu5.heap gb1 (by omega); clear gb1) | (refine step_store_cell rfl 9 _ _ rfl b 4 (.string ⟨t2.toArray⟩) _ _ rfl rfl gb2 (show 4 < 14 by omega) rfl rfl rfl ?_; intro w6 hb6 hu6; have g3 := hu6.cell g2 (by dsimp only; omega); clear gb2)); (try go_wp2_with fail); refine hK.out _ _ (by (try dsimp only); first | exact g3 | exact g2 | exact g1 | exact d0) (fun hHeld => ?_); clear hK K; (try simp only [Act.put, List.setIfInBounds_toArray, List.set_cons_zero, List.set_cons_succ]))
    (refine wpAnyH_take (i := 6) (oi := ?oi_3_6) (v := ?v_3_6) ?ho_3_6 ?hs_3_6 ?hf_3_6 ?hr_3_6 ?hQ_3_6 ?hy_3_6 ?hS_3_6 ?rest_3_6; (case hr_3_6 => kernel_rfl); (case hf_3_6 => kernel_rfl); (case hs_3_6 => kernel_rfl); (case ho_3_6 => (simp only [List.getElem?_toArray, List.getElem?_cons_succ, List.getElem?_cons_zero]; rfl)); (case hS_3_6 => assumption); (case hQ_3_6 => exact fun _ _ _ h => h); (case hy_3_6 => (refine Or.inl ⟨by rfl, ?_⟩; (intro w hSw; (try dsimp only at hSw); go_simp) <;> with_reducible rfl)); (try simp only [Act.put, List.setIfInBounds_toArray, List.set_cons_zero, List.set_cons_succ]))
    (refine wpAnyH_take (i := 7) (oi := ?oi_3_7) (v := ?v_3_7) ?ho_3_7 ?hs_3_7 ?hf_3_7 ?hr_3_7 ?hQ_3_7 ?hy_3_7 ?hS_3_7 ?rest_3_7; (case hr_3_7 => kernel_rfl); (case hf_3_7 => kernel_rfl); (case hs_3_7 => kernel_rfl); (case ho_3_7 => (simp only [List.getElem?_toArray, List.getElem?_cons_succ, List.getElem?_cons_zero]; rfl)); (case hS_3_7 => assumption); (case hQ_3_7 => exact fun _ _ _ h => h); (case hy_3_7 => (refine Or.inl ⟨by rfl, ?_⟩; (intro w hSw; (try dsimp only at hSw); go_simp) <;> with_reducible rfl)); (try simp only [Act.put, List.setIfInBounds_toArray, List.set_cons_zero, List.set_cons_succ]))
    (refine wpAnyH_ready (rs := [8]) (by kernel_rfl) (by simp) ?_; refine AllReadyH.cons (o := ?oo_3_8) ?hoo_3_8 ?hst_3_8 AllReadyH.nil; (case hoo_3_8 => (simp only [List.getElem?_toArray, List.getElem?_cons_succ, List.getElem?_cons_zero]; rfl)); intro K hK; (first | (go_at_call 9; (with_reducible refine (c1.out _ hRd).mono ?_); rintro en w4 ⟨rfl, hR1, hu4⟩; have g1 := hu4.cell d0 (by dsimp only; omega); have gb1 := hu4.heap db (by omega); clear db) | (go_at_call 94; (with_reducible refine (c2.out _ hR1).mono ?_); rintro en w5 ⟨rfl, hR2, hu5⟩; have g2 := hu5.cell g1 (by dsimp only; omega); have gb2 := hu5.heap gb1 (by omega); clear gb1) | (refine step_store_cell rfl 9 _ _ rfl b 4 (.string ⟨t2.toArray⟩) _ _ rfl rfl gb2 (show 4 < 14 by omega) rfl rfl rfl ?_; intro w6 hb6 hu6; have g3 := hu6.cell g2 (by dsimp only; omega); clear gb2)); (try go_wp2_with fail); refine hK.out _ _ (by (try dsimp only); first | exact g3 | exact g2 | exact g1 | exact d0) (fun hHeld => ?_); clear hK K; (try simp only [Act.put, List.setIfInBounds_toArray, List.set_cons_zero, List.set_cons_succ]))
    refine wpAnyH_done (by kernel_rfl) ?_ _
    have hg := Lib.hid (hG.out w6 (by first | trivial | rfl) hb6 (hR2.upd hu6 fun k _ hk => by omega) (((hud.trans hu4 fun _ _ h => .inl h).trans hu5 fun _ _ h => .inl h).trans hu6 fun _ _ h => .inr h))
    clear hG c1 c2 hb6 hu6 hu5 hu4 hud hR2 hR1 hRd
    go_wp2_with fail
    go_returns
    exact hg.out
  · rw [show ((80 : UInt8).toNat : Int) = 80 from rfl]
    have c1 := Lib.hid (fun w h => fU8 (L := L) r s a e w h)
    obtain ⟨z, hz, hz2⟩ := rdNum_nat s a e 1 (by omega)
    have c2 := Lib.hid (fun w h => wRest (L := L) r s (rdNum s a e 1).1 (rdNum s a e 1).2.1 z w h (by omega))
    have hG := Lib.hid (fun (q' : Rq) a' e' w2 hp hM hR hu => got_same (q' := q') (a' := a') (e' := e') (w2 := w2) (s := s) (L := L) hown hb hr hp hM hR hu)
    show Calls _ _ _ _ (GotQ r L s b base pv ({ q with pre := (rdStr s a e 1).2.2 }, (rdStr s a e 1).1, (rdStr s a e 1).2.1) w)
    unfold rdStr
    rw [hz] at c1 ⊢
    rw [Int.toNat_natCast]
    clear hz
    generalize rdNum s a e 1 = x at *
    obtain ⟨a1, e1, n1⟩ := x
    dsimp only at c1 c2 ⊢
    generalize rdRest s a1 e1 z = x at *
    obtain ⟨a2, e2, t2⟩ := x
    dsimp only at c2 ⊢
    replace hG := Lib.hid (hG.out { q with pre := t2 } a2 e2)
    generalize GotQ r L s b base pv ({ q with pre := t2 }, a2, e2) w = PR at *
    have hRd : RdAt (w.alloc (.cells #[.pointer (some ⟨r, 0, none⟩)] 50)).drew r L s a e := hR0.non (Upd.drew _ _)
    have d0 := (Upd.drew Non _).cell y0 fun h => h
    have db := (Upd.drew Non _).heap hM0 fun h => h
    have hud := hu0.then_drew
    unfold rdV1 at c2
    clear hz2 hM0
    go_enter Tryz.func71, Tryz.ntmps71
    go_wp2_with fail
    refine wp_region_held_drew (S := (fun w' => w'.cell? ⟨w.heap.size, 0, none⟩ = some (.pointer (some ⟨r, 0, none⟩)))) (by kernel_rfl) (by (try dsimp only); first | exact g3 | exact g2 | exact g1 | exact d0) (fun hHeld => ?_)
    (refine wpAnyH_take (i := 0) (oi := ?oi_4_0) (v := ?v_4_0) ?ho_4_0 ?hs_4_0 ?hf_4_0 ?hr_4_0 ?hQ_4_0 ?hy_4_0 ?hS_4_0 ?rest_4_0; (case hr_4_0 => kernel_rfl); (case hf_4_0 => kernel_rfl); (case hs_4_0 => kernel_rfl); (case ho_4_0 => (simp only [List.getElem?_toArray, List.getElem?_cons_succ, List.getElem?_cons_zero]; rfl)); (case hS_4_0 => assumption); (case hQ_4_0 => exact fun _ _ _ h => h); (case hy_4_0 => (refine Or.inl ⟨by rfl, ?_⟩; (intro w hSw; (try dsimp only at hSw); go_simp) <;> with_reducible rfl)); (try simp only [Act.put, List.setIfInBounds_toArray, List.set_cons_zero, List.set_cons_succ]))
    (refine wpAnyH_take (i := 1) (oi := ?oi_4_1) (v := ?v_4_1) ?ho_4_1 ?hs_4_1 ?hf_4_1 ?hr_4_1 ?hQ_4_1 ?hy_4_1 ?hS_4_1 ?rest_4_1; (case hr_4_1 => kernel_rfl); (case hf_4_1 => kernel_rfl); (case hs_4_1 => kernel_rfl); (case ho_4_1 => (simp only [List.getElem?_toArray, List.getElem?_cons_succ, List.getElem?_cons_zero]; rfl)); (case hS_4_1 => assumption); (case hQ_4_1 => exact fun _ _ _ h => h); (case hy_4_1 => (refine Or.inl ⟨by rfl, ?_⟩; (intro w hSw; (try dsimp only at hSw); go_simp) <;> with_reducible rfl)); (try simp only [Act.put, List.setIfInBounds_toArray, List.set_cons_zero, List.set_cons_succ]))
    (refine wpAnyH_take (i := 2) (oi := ?oi_4_2) (v := ?v_4_2) ?ho_4_2 ?hs_4_2 ?hf_4_2 ?hr_4_2 ?hQ_4_2 ?hy_4_2 ?hS_4_2 ?rest_4_2; (case hr_4_2 => kernel_rfl); (case hf_4_2 => kernel_rfl); (case hs_4_2 => kernel_rfl); (case ho_4_2 => (simp only [List.getElem?_toArray, List.getElem?_cons_succ, List.getElem?_cons_zero]; rfl)); (case hS_4_2 => assumption); (case hQ_4_2 => exact fun _ _ _ h => h); (case hy_4_2 => (refine Or.inl ⟨by rfl, ?_⟩; (intro w hSw; (try dsimp only at hSw); go_simp) <;> with_reducible rfl)); (try simp only [Act.put, List.setIfInBounds_toArray, List.set_cons_zero, List.set_cons_succ]))
    (refine wpAnyH_take (i := 3) (oi := ?oi_4_3) (v := ?v_4_3) ?ho_4_3 ?hs_4_3 ?hf_4_3 ?hr_4_3 ?hQ_4_3 ?hy_4_3 ?hS_4_3 ?rest_4_3; (case hr_4_3 => kernel_rfl); (case hf_4_3 => kernel_rfl); (case hs_4_3 => kernel_rfl); (case ho_4_3 => (simp only [List.getElem?_toArray, List.getElem?_cons_succ, List.getElem?_cons_zero]; rfl)); (case hS_4_3 => assumption); (case hQ_4_3 => exact fun _ _ _ h => h); (case hy_4_3 => (refine Or.inl ⟨by rfl, ?_⟩; (intro w hSw; (try dsimp only at hSw); go_simp) <;> with_reducible rfl)); (try simp only [Act.put, List.setIfInBounds_toArray, List.set_cons_zero, List.set_cons_succ]))
    (refine wpAnyH_ready (rs := [4]) (by kernel_rfl) (by simp) ?_; refine AllReadyH.cons (o := ?oo_4_4) ?hoo_4_4 ?hst_4_4 AllReadyH.nil; (case hoo_4_4 => (simp only [List.getElem?_toArray, List.getElem?_cons_succ, List.getElem?_cons_zero]; rfl)); intro K hK; go_simp; (first | (go_at_call 9; (with_reducible refine (c1.out _ hRd).mono ?_); rintro en w4 ⟨rfl, hR1, hu4⟩; have g1 := hu4.cell d0 (by dsimp only; omega); have gb1 := hu4.heap db (by omega); clear db) | (go_at_call 94; (with_reducible refine (c2.out _ hR1).mono ?_); rintro en w5 ⟨rfl, hR2, hu5⟩; have g2 := hu5.cell g1 (by dsimp only; omega); have gb2 := hu5.heap gb1 (by omega); clear gb1) | (refine step_store_cell rfl 9 _ _ rfl b 5 (.string ⟨t2.toArray⟩) _ _ rfl rfl gb2 (show 5 < 14 by omega) rfl rfl rfl ?_; intro w6 hb6 hu6; have g3 := hu6.cell g2 (by dsimp only; omega); clear gb2)); (try go_wp2_with fail); refine hK.out _ _ (by (try dsimp only); first | exact g3 | exact g2 | exact g1 | exact d0) (fun hHeld => ?_); clear hK K; (try simp only [Act.put, List.setIfInBounds_toArray, List.set_cons_zero, List.set_cons_succ]))
    (refine wpAnyH_ready (rs := [5]) (by kernel_rfl) (by simp) ?_; refine AllReadyH.cons (o := ?oo_4_5) ?hoo_4_5 ?hst_4_5 AllReadyH.nil; (case hoo_4_5 => (simp only [List.getElem?_toArray, List.getElem?_cons_succ, List.getElem?_cons_zero]; rfl)); intro K hK; go_simp; (first | (go_at_call 9; (with_reducible refine (c1.out _ hRd).mono ?_); rintro en w4 ⟨rfl, hR1, hu4⟩; have g1 := hu4.cell d0 (by dsimp only; omega); have gb1 := hu4.heap db (by omega); clear db) | (go_at_call 94; (with_reducible refine (c2.out _ hR1).mono ?_); rintro en w5 ⟨rfl, hR2, hu5⟩; have g2 := hu5.cell g1 (by dsimp only; omega); have gb2 := hu5.heap gb1 (by omega); clear gb1) | (refine step_store_cell rfl 9 _ _ rfl b 5 (.string ⟨t2.toArray⟩) _ _ rfl rfl gb2 (show 5 < 14 by omega) rfl rfl rfl ?_; intro w6 hb6 hu6; have g3 := hu6.cell g2 (by dsimp only; omega); clear gb2)); (try go_wp2_with fail); refine hK.out _ _ (by (try dsimp only); first | exact g3 | exact g2 | exact g1 | exact d0) (fun hHeld => ?_); clear hK K; (try simp only [Act.put, List.setIfInBounds_toArray, List.set_cons_zero, List.set_cons_succ]))
    (refine wpAnyH_take (i := 6) (oi := ?oi_4_6) (v := ?v_4_6) ?ho_4_6 ?hs_4_6 ?hf_4_6 ?hr_4_6 ?hQ_4_6 ?hy_4_6 ?hS_4_6 ?rest_4_6; (case hr_4_6 => kernel_rfl); (case hf_4_6 => kernel_rfl); (case hs_4_6 => kernel_rfl); (case ho_4_6 => (simp only [List.getElem?_toArray, List.getElem?_cons_succ, List.getElem?_cons_zero]; rfl)); (case hS_4_6 => assumption); (case hQ_4_6 => exact fun _ _ _ h => h); (case hy_4_6 => (refine Or.inl ⟨by rfl, ?_⟩; (intro w hSw; (try dsimp only at hSw); go_simp) <;> with_reducible rfl)); (try simp only [Act.put, List.setIfInBounds_toArray, List.set_cons_zero, List.set_cons_succ]))
    (refine wpAnyH_take (i := 7) (oi := ?oi_4_7) (v := ?v_4_7) ?ho_4_7 ?hs_4_7 ?hf_4_7 ?hr_4_7 ?hQ_4_7 ?hy_4_7 ?hS_4_7 ?rest_4_7; (case hr_4_7 => kernel_rfl); (case hf_4_7 => kernel_rfl); (case hs_4_7 => kernel_rfl); (case ho_4_7 => (simp only [List.getElem?_toArray, List.getElem?_cons_succ, List.getElem?_cons_zero]; rfl)); (case hS_4_7 => assumption); (case hQ_4_7 => exact fun _ _ _ h => h); (case hy_4_7 => (refine Or.inl ⟨by rfl, ?_⟩; (intro w hSw; (try dsimp only at hSw); go_simp) <;> with_reducible rfl)); (try simp only [Act.put, List.setIfInBounds_toArray, List.set_cons_zero, List.set_cons_succ]))
    (refine wpAnyH_ready (rs := [8]) (by kernel_rfl) (by simp) ?_; refine AllReadyH.cons (o := ?oo_4_8) ?hoo_4_8 ?hst_4_8 AllReadyH.nil; (case hoo_4_8 => (simp only [List.getElem?_toArray, List.getElem?_cons_succ, List.getElem?_cons_zero]; rfl)); intro K hK; (first | (go_at_call 9; (with_reducible refine (c1.out _ hRd).mono ?_); rintro en w4 ⟨rfl, hR1, hu4⟩; have g1 := hu4.cell d0 (by dsimp only; omega); have gb1 := hu4.heap db (by omega); clear db) | (go_at_call 94; (with_reducible refine (c2.out _ hR1).mono ?_); rintro en w5 ⟨rfl, hR2, hu5⟩; have g2 := hu5.cell g1 (by dsimp only; omega); have gb2 := hu5.heap gb1 (by omega); clear gb1) | (refine step_store_cell rfl 9 _ _ rfl b 5 (.string ⟨t2.toArray⟩) _ _ rfl rfl gb2 (show 5 < 14 by omega) rfl rfl rfl ?_; intro w6 hb6 hu6; have g3 := hu6.cell g2 (by dsimp only; omega); clear gb2)); (try go_wp2_with fail); refine hK.out _ _ (by (try dsimp only); first | exact g3 | exact g2 | exact g1 | exact d0) (fun hHeld => ?_); clear hK K; (try simp only [Act.put, List.setIfInBounds_toArray, List.set_cons_zero, List.set_cons_succ]))
    refine wpAnyH_done (by kernel_rfl) ?_ _
    have hg := Lib.hid (hG.out w6 (by first | trivial | rfl) hb6 (hR2.upd hu6 fun k _ hk => by omega) (((hud.trans hu4 fun _ _ h => .inl h).trans hu5 fun _ _ h => .inl h).trans hu6 fun _ _ h => .inr h))
    clear hG c1 c2 hb6 hu6 hu5 hu4 hud hR2 hR1 hRd
    go_wp2_with fail
    go_returns
    exact hg.out
  · rw [show ((68 : UInt8).toNat : Int) = 68 from rfl]
    have c1 := Lib.hid (fun w h => fU8 (L := L) r s a e w h)
    obtain ⟨z, hz, hz2⟩ := rdNum_nat s a e 1 (by omega)
    have c2 := Lib.hid (fun w h => wRest (L := L) r s (rdNum s a e 1).1 (rdNum s a e 1).2.1 z w h (by omega))
    have hG := Lib.hid (fun (q' : Rq) a' e' w2 hp hM hR hu => got_same (q' := q') (a' := a') (e' := e') (w2 := w2) (s := s) (L := L) hown hb hr hp hM hR hu)
    show Calls _ _ _ _ (GotQ r L s b base pv ({ q with delim := (rdStr s a e 1).2.2 }, (rdStr s a e 1).1, (rdStr s a e 1).2.1) w)
    unfold rdStr
    rw [hz] at c1 ⊢
    rw [Int.toNat_natCast]
    clear hz
    generalize rdNum s a e 1 = x at *
    obtain ⟨a1, e1, n1⟩ := x
    dsimp only at c1 c2 ⊢
    generalize rdRest s a1 e1 z = x at *
    obtain ⟨a2, e2, t2⟩ := x
    dsimp only at c2 ⊢
    replace hG := Lib.hid (hG.out { q with delim := t2 } a2 e2)
    generalize GotQ r L s b base pv ({ q with delim := t2 }, a2, e2) w = PR at *
    have hRd : RdAt (w.alloc (.cells #[.pointer (some ⟨r, 0, none⟩)] 50)).drew r L s a e := hR0.non (Upd.drew _ _)
    have d0 := (Upd.drew Non _).cell y0 fun h => h
    have db := (Upd.drew Non _).heap hM0 fun h => h
    have hud := hu0.then_drew
    unfold rdV1 at c2
    clear hz2 hM0
    go_enter Tryz.func71, Tryz.ntmps71
    go_wp2_with fail
    refine wp_region_held_drew (S := (fun w' => w'.cell? ⟨w.heap.size, 0, none⟩ = some (.pointer (some ⟨r, 0, none⟩)))) (by kernel_rfl) (by (try dsimp only); first | exact g3 | exact g2 | exact g1 | exact d0) (fun hHeld => ?_)
    (refine wpAnyH_take (i := 0) (oi := ?oi_5_0) (v := ?v_5_0) ?ho_5_0 ?hs_5_0 ?hf_5_0 ?hr_5_0 ?hQ_5_0 ?hy_5_0 ?hS_5_0 ?rest_5_0; (case hr_5_0 => kernel_rfl); (case hf_5_0 => kernel_rfl); (case hs_5_0 => kernel_rfl); (case ho_5_0 => (simp only [List.getElem?_toArray, List.getElem?_cons_succ, List.getElem?_cons_zero]; rfl)); (case hS_5_0 => assumption); (case hQ_5_0 => exact fun _ _ _ h => h); (case hy_5_0 => (refine Or.inl ⟨by rfl, ?_⟩; (intro w hSw; (try dsimp only at hSw); go_simp) <;> with_reducible rfl)); (try simp only [Act.put, List.setIfInBounds_toArray, List.set_cons_zero, List.set_cons_succ]))
    (refine wpAnyH_take (i := 1) (oi := ?oi_5_1) (v := ?v_5_1) ?ho_5_1 ?hs_5_1 ?hf_5_1 ?hr_5_1 ?hQ_5_1 ?hy_5_1 ?hS_5_1 ?rest_5_1; (case hr_5_1 => kernel_rfl); (case hf_5_1 => kernel_rfl); (case hs_5_1 => kernel_rfl); (case ho_5_1 => (simp only [List.getElem?_toArray, List.getElem?_cons_succ, List.getElem?_cons_zero]; rfl)); (case hS_5_1 => assumption); (case hQ_5_1 => exact fun _ _ _ h => h); (case hy_5_1 => (refine Or.inl ⟨by rfl, ?_⟩; (intro w hSw; (try dsimp only at hSw); go_simp) <;> with_reducible rfl)); (try simp only [Act.put, List.setIfInBounds_toArray, List.set_cons_zero, List.set_cons_succ]))
    (refine wpAnyH_take (i := 2) (oi := ?oi_5_2) (v := ?v_5_2) ?ho_5_2 ?hs_5_2 ?hf_5_2 ?hr_5_2 ?hQ_5_2 ?hy_5_2 ?hS_5_2 ?rest_5_2; (case hr_5_2 => kernel_rfl); (case hf_5_2 => kernel_rfl); (case hs_5_2 => kernel_rfl); (case ho_5_2 => (simp only [List.getElem?_toArray, List.getElem?_cons_succ, List.getElem?_cons_zero]; rfl)); (case hS_5_2 => assumption); (case hQ_5_2 => exact fun _ _ _ h => h); (case hy_5_2 => (refine Or.inl ⟨by rfl, ?_⟩; (intro w hSw; (try dsimp only at hSw); go_simp) <;> with_reducible rfl)); (try simp only [Act.put, List.setIfInBounds_toArray, List.set_cons_zero, List.set_cons_succ]))
    (refine wpAnyH_take (i := 3) (oi := ?oi_5_3) (v := ?v_5_3) ?ho_5_3 ?hs_5_3 ?hf_5_3 ?hr_5_3 ?hQ_5_3 ?hy_5_3 ?hS_5_3 ?rest_5_3; (case hr_5_3 => kernel_rfl); (case hf_5_3 => kernel_rfl); (case hs_5_3 => kernel_rfl); (case ho_5_3 => (simp only [List.getElem?_toArray, List.getElem?_cons_succ, List.getElem?_cons_zero]; rfl)); (case hS_5_3 => assumption); (case hQ_5_3 => exact fun _ _ _ h => h); (case hy_5_3 => (refine Or.inl ⟨by rfl, ?_⟩; (intro w hSw; (try dsimp only at hSw); go_simp) <;> with_reducible rfl)); (try simp only [Act.put, List.setIfInBounds_toArray, List.set_cons_zero, List.set_cons_succ]))
    (refine wpAnyH_ready (rs := [4]) (by kernel_rfl) (by simp) ?_; refine AllReadyH.cons (o := ?oo_5_4) ?hoo_5_4 ?hst_5_4 AllReadyH.nil; (case hoo_5_4 => (simp only [List.getElem?_toArray, List.getElem?_cons_succ, List.getElem?_cons_zero]; rfl)); intro K hK; go_simp; (first | (go_at_call 9; (with_reducible refine (c1.out _ hRd).mono ?_); rintro en w4 ⟨rfl, hR1, hu4⟩; have g1 := hu4.cell d0 (by dsimp only; omega); have gb1 := hu4.heap db (by omega); clear db) | (go_at_call 94; (with_reducible refine (c2.out _ hR1).mono ?_); rintro en w5 ⟨rfl, hR2, hu5⟩; have g2 := hu5.cell g1 (by dsimp only; omega); have gb2 := hu5.heap gb1 (by omega); clear gb1) | (refine step_store_cell rfl 9 _ _ rfl b 6 (.string ⟨t2.toArray⟩) _ _ rfl rfl gb2 (show 6 < 14 by omega) rfl rfl rfl ?_; intro w6 hb6 hu6; have g3 := hu6.cell g2 (by dsimp only; omega); clear gb2)); (try go_wp2_with fail); refine hK.out _ _ (by (try dsimp only); first | exact g3 | exact g2 | exact g1 | exact d0) (fun hHeld => ?_); clear hK K; (try simp only [Act.put, List.setIfInBounds_toArray, List.set_cons_zero, List.set_cons_succ]))
    (refine wpAnyH_ready (rs := [5]) (by kernel_rfl) (by simp) ?_; refine AllReadyH.cons (o := ?oo_5_5) ?hoo_5_5 ?hst_5_5 AllReadyH.nil; (case hoo_5_5 => (simp only [List.getElem?_toArray, List.getElem?_cons_succ, List.getElem?_cons_zero]; rfl)); intro K hK; go_simp; (first | (go_at_call 9; (with_reducible refine (c1.out _ hRd).mono ?_); rintro en w4 ⟨rfl, hR1, hu4⟩; have g1 := hu4.cell d0 (by dsimp only; omega); have gb1 := hu4.heap db (by omega); clear db) | (go_at_call 94; (with_reducible refine (c2.out _ hR1).mono ?_); rintro en w5 ⟨rfl, hR2, hu5⟩; have g2 := hu5.cell g1 (by dsimp only; omega); have gb2 := hu5.heap gb1 (by omega); clear gb1) | (refine step_store_cell rfl 9 _ _ rfl b 6 (.string ⟨t2.toArray⟩) _ _ rfl rfl gb2 (show 6 < 14 by omega) rfl rfl rfl ?_; intro w6 hb6 hu6; have g3 := hu6.cell g2 (by dsimp only; omega); clear gb2)); (try go_wp2_with fail); refine hK.out _ _ (by (try dsimp only); first | exact g3 | exact g2 | exact g1 | exact d0) (fun hHeld => ?_); clear hK K; (try simp only [Act.put, List.setIfInBounds_toArray, List.set_cons_zero, List.set_cons_succ]))
    (refine wpAnyH_take (i := 6) (oi := ?oi_5_6) (v := ?v_5_6) ?ho_5_6 ?hs_5_6 ?hf_5_6 ?hr_5_6 ?hQ_5_6 ?hy_5_6 ?hS_5_6 ?rest_5_6; (case hr_5_6 => kernel_rfl); (case hf_5_6 => kernel_rfl); (case hs_5_6 => kernel_rfl); (case ho_5_6 => (simp only [List.getElem?_toArray, List.getElem?_cons_succ, List.getElem?_cons_zero]; rfl)); (case hS_5_6 => assumption); (case hQ_5_6 => exact fun _ _ _ h => h); (case hy_5_6 => (refine Or.inl ⟨by rfl, ?_⟩; (intro w hSw; (try dsimp only at hSw); go_simp) <;> with_reducible rfl)); (try simp only [Act.put, List.setIfInBounds_toArray, List.set_cons_zero, List.set_cons_succ]))
    (refine wpAnyH_take (i := 7) (oi := ?oi_5_7) (v := ?v_5_7) ?ho_5_7 ?hs_5_7 ?hf_5_7 ?hr_5_7 ?hQ_5_7 ?hy_5_7 ?hS_5_7 ?rest_5_7; (case hr_5_7 => kernel_rfl); (case hf_5_7 => kernel_rfl); (case hs_5_7 => kernel_rfl); (case ho_5_7 => (simp only [List.getElem?_toArray, List.getElem?_cons_succ, List.getElem?_cons_zero]; rfl)); (case hS_5_7 => assumption); (case hQ_5_7 => exact fun _ _ _ h => h); (case hy_5_7 => (refine Or.inl ⟨by rfl, ?_⟩; (intro w hSw; (try dsimp only at hSw); go_simp) <;> with_reducible rfl)); (try simp only [Act.put, List.setIfInBounds_toArray, List.set_cons_zero, List.set_cons_succ]))
    (refine wpAnyH_ready (rs := [8]) (by kernel_rfl) (by simp) ?_; refine AllReadyH.cons (o := ?oo_5_8) ?hoo_5_8 ?hst_5_8 AllReadyH.nil; (case hoo_5_8 => (simp only [List.getElem?_toArray, List.getElem?_cons_succ, List.getElem?_cons_zero]; rfl)); intro K hK; (first | (go_at_call 9; (with_reducible refine (c1.out _ hRd).mono ?_); rintro en w4 ⟨rfl, hR1, hu4⟩; have g1 := hu4.cell d0 (by dsimp only; omega); have gb1 := hu4.heap db (by omega); clear db) | (go_at_call 94; (with_reducible refine (c2.out _ hR1).mono ?_); rintro en w5 ⟨rfl, hR2, hu5⟩; have g2 := hu5.cell g1 (by dsimp only; omega); have gb2 := hu5.heap gb1 (by omega); clear gb1) | (refine step_store_cell rfl 9 _ _ rfl b 6 (.string ⟨t2.toArray⟩) _ _ rfl rfl gb2 (show 6 < 14 by omega) rfl rfl rfl ?_; intro w6 hb6 hu6; have g3 := hu6.cell g2 (by dsimp only; omega); clear gb2)); (try go_wp2_with fail); refine hK.out _ _ (by (try dsimp only); first | exact g3 | exact g2 | exact g1 | exact d0) (fun hHeld => ?_); clear hK K; (try simp only [Act.put, List.setIfInBounds_toArray, List.set_cons_zero, List.set_cons_succ]))
    refine wpAnyH_done (by kernel_rfl) ?_ _
    have hg := Lib.hid (hG.out w6 (by first | trivial | rfl) hb6 (hR2.upd hu6 fun k _ hk => by omega) (((hud.trans hu4 fun _ _ h => .inl h).trans hu5 fun _ _ h => .inl h).trans hu6 fun _ _ h => .inr h))
    clear hG c1 c2 hb6 hu6 hu5 hu4 hud hR2 hR1 hRd
    go_wp2_with fail
    go_returns
    exact hg.out
  · rw [show ((67 : UInt8).toNat : Int) = 67 from rfl]
    have c1 := Lib.hid (fun w h => fU8 (L := L) r s a e w h)
    have hG := Lib.hid (fun (q' : Rq) a' e' w2 hp hM hR hu => got_same (q' := q') (a' := a') (e' := e') (w2 := w2) (s := s) (L := L) hown hb hr hp hM hR hu)
    show Calls _ _ _ _ (GotQ r L s b base pv (if (rdNum s a e 1).2.2 = 2 then ({ q with ck := 2, re := (rdTag s (rdNum s a e 1).1 (rdNum s a e 1).2.1).2.2.1, im := (rdTag s (rdNum s a e 1).1 (rdNum s a e 1).2.1).2.2.2 }, (rdTag s (rdNum s a e 1).1 (rdNum s a e 1).2.1).1, (rdTag s (rdNum s a e 1).1 (rdNum s a e 1).2.1).2.1) else ({ q with ck := (rdNum s a e 1).2.2 }, (rdNum s a e 1).1, (rdNum s a e 1).2.1)) w)
    generalize rdNum s a e 1 = x at *
    obtain ⟨a1, e1, n1⟩ := x
    dsimp only at c1 ⊢
    have c2 := Lib.hid (fun w h => wTag (L := L) r s a1 e1 w h)
    unfold tagV rdV1 at c2
    generalize rdTag s a1 e1 = x at *
    obtain ⟨a2, e2, re2, im2⟩ := x
    dsimp only at c2 ⊢
    have hszT : Hid ((Tryz.prog.info? 25).map (·.size) = some (#[Value.int .i64 re2, .int .i64 im2] : Array Value).size) := Lib.hid (by kernel_rfl)
    by_cases h2 : n1 = 2
    · subst h2
      rw [if_pos rfl]
      replace hG := Lib.hid (hG.out { q with ck := 2, re := re2, im := im2 } a2 e2)
      generalize GotQ r L s b base pv ({ q with ck := 2, re := re2, im := im2 }, a2, e2) w = PR at *
      go_enter Tryz.func71, Tryz.ntmps71
      go_wp2_with fail
      refine (c1.out _ hR0).mono ?_
      rintro en w1 ⟨rfl, hR1, hu1⟩
      have hM1 := hu1.heap hM0 (by omega)
      have hb1 := heap_lt hM1
      obtain ⟨c0, f0⟩ := cells_of hM1
      have z : w1.cell? ⟨b, 8, none⟩ = (rqC q pv)[8]? := c0 8
      have zf := f0 8
      unfold rqC at z
      simp only [List.getElem?_toArray, List.getElem?_cons_succ, List.getElem?_cons_zero] at z
      have y1 := hu1.cell y0 (by dsimp only; omega)
      have us := Upd.setCell (S := fun k => k = b) w1 (a := ⟨b, 8, none⟩) rfl (.int .i64 2)
      have hM2 := set_blk (j := 8) hM1 (.int .i64 2)
      have hR2 := hR1.upd us fun k _ hk => by omega
      have hu2 : Upd (fun k => k = r ∨ k = b) w (w1.setCell ⟨b, 8, none⟩ (.int .i64 2)) := (hu0.trans hu1 fun _ _ h => .inl h).trans us fun _ _ h => .inr h
      have y2 := us.cell y1 (by dsimp only; omega)
      have z2 : (w1.setCell ⟨b, 8, none⟩ (.int .i64 2)).cell? ⟨b, 8, none⟩ = some (.int .i64 2) := by rw [(cells_of hM2).1]; rfl
      obtain ⟨W2, hW2⟩ : ∃ W2, w1.setCell ⟨b, 8, none⟩ (.int .i64 2) = W2 := ⟨_, rfl⟩
      rw [hW2] at us hM2 hR2 hu2 y2 z2
      clear c0 f0 hM1 hM0 c1 us hR1 hu1
      go_wp2_with fail
      refine (c2.out _ hR2).mono ?_
      rintro en w3 ⟨rfl, hR3, hu3⟩
      have hM3 := hu3.heap hM2 (by omega)
      have hth : w3.there b 9 (#[Value.int .i64 re2, .int .i64 im2] : Array Value).size := by
        obtain ⟨c0, f0⟩ := cells_of hM3
        intro j hj
        refine ⟨?_, f0 _⟩
        have hj3 : j < 2 := hj
        rw [c0, Array.getElem?_eq_getElem (show 9 + j < ((rqC q pv).setIfInBounds 8 (.int .i64 2)).size by rw [Array.size_setIfInBounds]; show 9 + j < 14; omega)]
        rfl
      have hs := heap_setCells b 86 [.int .i64 re2, .int .i64 im2] 9 w3 _ hM3 (show 9 + 2 ≤ 14 by omega)
      have hu4 := upd_setCells b [.int .i64 re2, .int .i64 im2] 9 w3
      have hg := Lib.hid (hG.out _ (by first | trivial | rfl) hs (hR3.upd hu4 fun k _ hk => by omega) ((hu2.trans hu3 fun _ _ h => .inl h).trans hu4 fun _ _ h => .inr h))
      clear hs hu4 hM3 hM2 hG c2 hR3 hu3 hR2 hu2
      go_wp2_with ((with_reducible (show wpList _ _ _ (⟨_, Op.store _ _ _, _, _, _, _⟩ :: _) _ _)); refine wpList_store_mid rfl 25 _ _ rfl b 9 #[.int .i64 re2, .int .i64 im2] rfl rfl hth hszT.out (by simp [Value.oneCell']) ?_)
      go_wp2_with fail
      go_returns
      exact hg.out
    · rw [if_neg h2]
      have h2b : (n1 == 2) = false := by simp [h2]
      replace hG := Lib.hid (hG.out { q with ck := n1 } a1 e1)
      generalize GotQ r L s b base pv ({ q with ck := n1 }, a1, e1) w = PR at *
      go_enter Tryz.func71, Tryz.ntmps71
      go_wp2_with fail
      refine (c1.out _ hR0).mono ?_
      rintro en w1 ⟨rfl, hR1, hu1⟩
      have hM1 := hu1.heap hM0 (by omega)
      have hb1 := heap_lt hM1
      obtain ⟨c0, f0⟩ := cells_of hM1
      have z : w1.cell? ⟨b, 8, none⟩ = (rqC q pv)[8]? := c0 8
      have zf := f0 8
      unfold rqC at z
      simp only [List.getElem?_toArray, List.getElem?_cons_succ, List.getElem?_cons_zero] at z
      have hg := Lib.hid (hG.out (w1.setCell ⟨b, 8, none⟩ (.int .i64 n1)) (by first | trivial | rfl) (set_blk (j := 8) hM1 (.int .i64 n1)) (hR1.upd (Upd.setCell (S := fun k => k = b) w1 (a := ⟨b, 8, none⟩) rfl (.int .i64 n1)) fun k _ hk => by omega) ((hu0.trans hu1 fun _ _ h => .inl h).trans (Upd.setCell (S := fun k => k = b) w1 (a := ⟨b, 8, none⟩) rfl (.int .i64 n1)) fun _ _ h => .inr h))
      have z2 : (w1.setCell ⟨b, 8, none⟩ (.int .i64 n1)).cell? ⟨b, 8, none⟩ = some (.int .i64 n1) := by rw [(cells_of (set_blk (j := 8) hM1 (.int .i64 n1))).1]; rfl
      clear c0 f0 hM1 hM0 hG c1
      go_wp2_with fail
      go_returns
      exact hg.out
  · rw [show ((73 : UInt8).toNat : Int) = 73 from rfl]
    have c1 := Lib.hid (fun w h => fI64 (L := L) r s a e w h)
    have hG := Lib.hid (fun (q' : Rq) a' e' w2 hp hM hR hu => got_same (q' := q') (a' := a') (e' := e') (w2 := w2) (s := s) (L := L) hown hb hr hp hM hR hu)
    show Calls _ _ _ _ (GotQ r L s b base pv ({ q with id := (rdNum s a e 8).2.2 }, (rdNum s a e 8).1, (rdNum s a e 8).2.1) w)
    generalize rdNum s a e 8 = x at *
    obtain ⟨a1, e1, n1⟩ := x
    dsimp only at c1 ⊢
    replace hG := Lib.hid (hG.out { q with id := n1 } a1 e1)
    generalize GotQ r L s b base pv ({ q with id := n1 }, a1, e1) w = PR at *
    go_enter Tryz.func71, Tryz.ntmps71
    go_wp2_with fail
    refine (c1.out _ hR0).mono ?_
    rintro en w1 ⟨rfl, hR1, hu1⟩
    have hM1 := hu1.heap hM0 (by omega)
    have hb1 := heap_lt hM1
    obtain ⟨c0, f0⟩ := cells_of hM1
    have z : w1.cell? ⟨b, 11, none⟩ = (rqC q pv)[11]? := c0 11
    have zf := f0 11
    unfold rqC at z
    simp only [List.getElem?_toArray, List.getElem?_cons_succ, List.getElem?_cons_zero] at z
    have hg := Lib.hid (hG.out (w1.setCell ⟨b, 11, none⟩ (.int .i64 n1)) (by first | trivial | rfl) (set_blk (j := 11) hM1 (.int .i64 n1)) (hR1.upd (Upd.setCell (S := fun k => k = b) w1 (a := ⟨b, 11, none⟩) rfl (.int .i64 n1)) fun k _ hk => by omega) ((hu0.trans hu1 fun _ _ h => .inl h).trans (Upd.setCell (S := fun k => k = b) w1 (a := ⟨b, 11, none⟩) rfl (.int .i64 n1)) fun _ _ h => .inr h))
    clear c0 f0 hM1 hM0 hG c1
    go_wp2_with fail
    go_returns
    exact hg.out
  · rw [show ((78 : UInt8).toNat : Int) = 78 from rfl]
    have c1 := Lib.hid (fun w h => fU16 (L := L) r s a e w h)
    have hG := Lib.hid (fun (q' : Rq) a' e' w2 hp hM hR hu => got_same (q' := q') (a' := a') (e' := e') (w2 := w2) (s := s) (L := L) hown hb hr hp hM hR hu)
    show Calls _ _ _ _ (GotQ r L s b base pv ({ q with n := (rdNum s a e 2).2.2 }, (rdNum s a e 2).1, (rdNum s a e 2).2.1) w)
    generalize rdNum s a e 2 = x at *
    obtain ⟨a1, e1, n1⟩ := x
    dsimp only at c1 ⊢
    replace hG := Lib.hid (hG.out { q with n := n1 } a1 e1)
    generalize GotQ r L s b base pv ({ q with n := n1 }, a1, e1) w = PR at *
    go_enter Tryz.func71, Tryz.ntmps71
    go_wp2_with fail
    refine (c1.out _ hR0).mono ?_
    rintro en w1 ⟨rfl, hR1, hu1⟩
    have hM1 := hu1.heap hM0 (by omega)
    have hb1 := heap_lt hM1
    obtain ⟨c0, f0⟩ := cells_of hM1
    have z : w1.cell? ⟨b, 12, none⟩ = (rqC q pv)[12]? := c0 12
    have zf := f0 12
    unfold rqC at z
    simp only [List.getElem?_toArray, List.getElem?_cons_succ, List.getElem?_cons_zero] at z
    have hg := Lib.hid (hG.out (w1.setCell ⟨b, 12, none⟩ (.int .i64 n1)) (by first | trivial | rfl) (set_blk (j := 12) hM1 (.int .i64 n1)) (hR1.upd (Upd.setCell (S := fun k => k = b) w1 (a := ⟨b, 12, none⟩) rfl (.int .i64 n1)) fun k _ hk => by omega) ((hu0.trans hu1 fun _ _ h => .inl h).trans (Upd.setCell (S := fun k => k = b) w1 (a := ⟨b, 12, none⟩) rfl (.int .i64 n1)) fun _ _ h => .inr h))
    clear c0 f0 hM1 hM0 hG c1
    go_wp2_with fail
    go_returns
    exact hg.out
  · rw [show ((76 : UInt8).toNat : Int) = 76 from rfl]
    have c1 := Lib.hid (fun w h => fU8 (L := L) r s a e w h)
    obtain ⟨z, hz, hz2⟩ := rdNum_nat s a e 1 (by omega)
    show Calls _ _ _ _ (GotQ r L s b base pv ({ q with parts := (rdParts s (rdNum s a e 1).2.2.toNat (rdNum s a e 1).1 (rdNum s a e 1).2.1 q.parts).2.2 }, (rdParts s (rdNum s a e 1).2.2.toNat (rdNum s a e 1).1 (rdNum s a e 1).2.1 q.parts).1, (rdParts s (rdNum s a e 1).2.2.toNat (rdNum s a e 1).1 (rdNum s a e 1).2.1 q.parts).2.1) w)
    rw [hz] at c1 ⊢
    rw [Int.toNat_natCast]
    clear hz
    generalize rdNum s a e 1 = x at *
    obtain ⟨a1, e1, n1⟩ := x
    dsimp only at c1 ⊢
    obtain ⟨R, hRR⟩ : ∃ R, rdParts s z a1 e1 q.parts = R := ⟨_, rfl⟩
    rw [hRR]
    replace hRR := Lib.hid hRR
    obtain ⟨PR, hPR⟩ : ∃ PR, GotQ r L s b base pv ({ q with parts := R.2.2 }, R.1, R.2.1) w = PR := ⟨_, rfl⟩
    rw [hPR]
    have hG : Hid (∀ w2 pv', w2.heap[b]? = some (.cells (rqC { q with parts := R.2.2 } pv') 86 (0, 0)) → w2.ownsRow base 3 1 pv' R.2.2.length (R.2.2.map (.int .i64)) → RdAt w2 r L s R.1 R.2.1 → Upd (fun k => k = r ∨ k = b ∨ At pv k) w w2 → (∀ k, At pv' k → At pv k ∨ w.heap.size ≤ k) → PR (.returned (.tuple #[])) w2) := Lib.hid (fun w2 pv' hM ho hR hu hf => by rw [← hPR]; exact ⟨rfl, pv', hM, ho, hR, hu, hf⟩)
    clear hPR
    have hii : Hid ((Tryz.prog.info? 3).map (fun i => (i.zero, i.size, i.bytes)) = some (some (.int .i64 0), 1, 8)) := Lib.hid (by kernel_rfl)
    go_enter Tryz.func71, Tryz.ntmps71
    go_wp2_with fail
    refine (c1.out _ hR0).mono ?_
    rintro en w1 ⟨rfl, hR1, hu1⟩
    have hM1 := hu1.heap hM0 (by omega)
    have y1 := hu1.cell y0 (by dsimp only; omega)
    have hu01 : Upd (fun k => k = r ∨ k = b ∨ At pv k) w w1 := (hu0.trans hu1 fun _ _ h => .inl h).mono fun k _ h => h.imp id .inl
    have hu02 : Upd (fun k => k = r ∨ k = b) w w1 := hu0.trans hu1 fun _ _ h => .inl h
    have ho1 := hu02.owns hown fun k hk h => by have := own_ge hown hk; omega
    clear hu02
    clear hM0 hR0 c1 hu1 hu0 y0
    go_wp2_with fail
    go_loopw [107] (fun iv wr => ∃ (k : Nat) (pv' : Value) (ps : List Int) (a' : Nat) (e' : Int), iv = .int .i64 (k : Int) ∧ k ≤ z ∧ ps.length ≤ q.parts.length + k ∧ Hid (rdParts s (z - k) a' e' ps = R) ∧ wr.heap[b]? = some (.cells (rqC { q with parts := ps } pv') 86 (0, 0)) ∧ wr.ownsRow base 3 1 pv' ps.length (ps.map (.int .i64)) ∧ RdAt wr r L s a' e' ∧ wr.cell? ⟨w.heap.size, 0, none⟩ = some (.pointer (some ⟨r, 0, none⟩)) ∧ Upd (fun k => k = r ∨ k = b ∨ At pv k) w wr ∧ (∀ k, At pv' k → At pv k ∨ w.heap.size ≤ k) ∧ (∀ k, At pv' k → k ≠ w.heap.size)) (fun iv _ => z - (intOf iv).toNat)
    case atStart => exact ⟨0, pv, q.parts, a1, e1, rfl, Nat.zero_le _, Nat.le_refl _, hRR, hM1, ho1, hR1, y1, hu01, fun k h => .inl h, fun k h => by have := own_lt hown h; omega⟩
    case round =>
      clear ho1 hR1 hM1 y1 hu01 hRR
      obtain ⟨k, pv', ps, a', e', rfl, hk, hps, hRR, hM', ho', hR', y0, hu', hf', hnb⟩ := hrel
      have hzw := World.block_lt_of_cell? _ _ y0
      dsimp only at hzw
      by_cases hlt : k < z
      · have hltI : (k : Int) < (z : Int) := by omega
        have cE := Lib.hid (fErr r s a' e' wr hR')
        obtain ⟨m, hm⟩ : ∃ m, z - k = m + 1 := ⟨z - k - 1, by omega⟩
        rw [hm] at hRR
        go_wp2_with fail
        refine cE.out.mono ?_
        rintro en w2 ⟨rfl, rfl⟩
        by_cases he : e' = 0
        · subst he
          have c3 := Lib.hid (fun w h => fU8 (L := L) r s a' 0 w h)
          have hRR2 : Hid (rdParts s m (rdNum s a' 0 1).1 (rdNum s a' 0 1).2.1 (ps ++ [(rdNum s a' 0 1).2.2]) = R) := Lib.hid (by have := hRR.out; unfold rdParts at this; rwa [if_pos rfl] at this)
          generalize rdNum s a' 0 1 = x at *
          obtain ⟨a3, e3, n3⟩ := x
          dsimp only at c3 hRR2
          have hRd : RdAt wr.drew r L s a' 0 := hR'.non (Upd.drew _ _)
          have d0 := (Upd.drew Non _).cell y0 fun h => h
          have db := (Upd.drew Non _).heap hM' fun h => h
          have hod := (Upd.drew Non wr).owns ho' fun _ _ h => h
          have zd : wr.drew.cell? ⟨b, 13, none⟩ = some pv' := (cells_of db).1 13
          clear cE hRR hR'
          go_wp2_with fail
          refine wp_region_held_drew (S := (fun w' => w'.cell? ⟨w.heap.size, 0, none⟩ = some (.pointer (some ⟨r, 0, none⟩)))) (by kernel_rfl) (by (try dsimp only); exact d0) (fun hHeld => ?_)
          (refine wpAnyH_take (i := 0) (oi := ?oi_6_0) (v := ?v_6_0) ?ho_6_0 ?hs_6_0 ?hf_6_0 ?hr_6_0 ?hQ_6_0 ?hy_6_0 ?hS_6_0 ?rest_6_0; (case hr_6_0 => kernel_rfl); (case hf_6_0 => kernel_rfl); (case hs_6_0 => kernel_rfl); (case ho_6_0 => (simp only [List.getElem?_toArray, List.getElem?_cons_succ, List.getElem?_cons_zero]; rfl)); (case hS_6_0 => assumption); (case hQ_6_0 => exact fun _ _ _ h => h); (case hy_6_0 => (refine Or.inl ⟨by rfl, ?_⟩; (intro w hSw; (try dsimp only at hSw); go_simp) <;> with_reducible rfl)); (try simp only [Act.put, List.setIfInBounds_toArray, List.set_cons_zero, List.set_cons_succ]))
          (refine wpAnyH_take (i := 1) (oi := ?oi_6_1) (v := ?v_6_1) ?ho_6_1 ?hs_6_1 ?hf_6_1 ?hr_6_1 ?hQ_6_1 ?hy_6_1 ?hS_6_1 ?rest_6_1; (case hr_6_1 => kernel_rfl); (case hf_6_1 => kernel_rfl); (case hs_6_1 => kernel_rfl); (case ho_6_1 => (simp only [List.getElem?_toArray, List.getElem?_cons_succ, List.getElem?_cons_zero]; rfl)); (case hS_6_1 => assumption); (case hQ_6_1 => exact fun _ _ _ h => h); (case hy_6_1 => (refine Or.inl ⟨by rfl, ?_⟩; (intro w hSw; (try dsimp only at hSw); go_simp) <;> with_reducible rfl)); (try simp only [Act.put, List.setIfInBounds_toArray, List.set_cons_zero, List.set_cons_succ]))
          (refine wpAnyH_take (i := 2) (oi := ?oi_6_2) (v := ?v_6_2) ?ho_6_2 ?hs_6_2 ?hf_6_2 ?hr_6_2 ?hQ_6_2 ?hy_6_2 ?hS_6_2 ?rest_6_2; (case hr_6_2 => kernel_rfl); (case hf_6_2 => kernel_rfl); (case hs_6_2 => kernel_rfl); (case ho_6_2 => (simp only [List.getElem?_toArray, List.getElem?_cons_succ, List.getElem?_cons_zero]; rfl)); (case hS_6_2 => assumption); (case hQ_6_2 => exact fun _ _ _ h => h); (case hy_6_2 => (refine Or.inl ⟨by rfl, ?_⟩; (intro w hSw; (try dsimp only at hSw); go_simp) <;> with_reducible rfl)); (try simp only [Act.put, List.setIfInBounds_toArray, List.set_cons_zero, List.set_cons_succ]))
          (refine wpAnyH_take (i := 3) (oi := ?oi_6_3) (v := ?v_6_3) ?ho_6_3 ?hs_6_3 ?hf_6_3 ?hr_6_3 ?hQ_6_3 ?hy_6_3 ?hS_6_3 ?rest_6_3; (case hr_6_3 => kernel_rfl); (case hf_6_3 => kernel_rfl); (case hs_6_3 => kernel_rfl); (case ho_6_3 => (simp only [List.getElem?_toArray, List.getElem?_cons_succ, List.getElem?_cons_zero]; rfl)); (case hS_6_3 => assumption); (case hQ_6_3 => exact fun _ _ _ h => h); (case hy_6_3 => (refine Or.inl ⟨by rfl, ?_⟩; (intro w hSw; (try dsimp only at hSw); go_simp) <;> with_reducible rfl)); (try simp only [Act.put, List.setIfInBounds_toArray, List.set_cons_zero, List.set_cons_succ]))
          (refine wpAnyH_take (i := 5) (oi := ?oi_6_5) (v := ?v_6_5) ?ho_6_5 ?hs_6_5 ?hf_6_5 ?hr_6_5 ?hQ_6_5 ?hy_6_5 ?hS_6_5 ?rest_6_5; (case hr_6_5 => kernel_rfl); (case hf_6_5 => kernel_rfl); (case hs_6_5 => kernel_rfl); (case ho_6_5 => (simp only [List.getElem?_toArray, List.getElem?_cons_succ, List.getElem?_cons_zero]; rfl)); (case hS_6_5 => assumption); (case hQ_6_5 => exact fun _ _ _ h => h); (case hy_6_5 => (refine Or.inl ⟨by rfl, ?_⟩; (intro w hSw; (try dsimp only at hSw); go_simp) <;> with_reducible rfl)); (try simp only [Act.put, List.setIfInBounds_toArray, List.set_cons_zero, List.set_cons_succ]))
          (refine wpAnyH_take (i := 6) (oi := ?oi_6_6) (v := ?v_6_6) ?ho_6_6 ?hs_6_6 ?hf_6_6 ?hr_6_6 ?hQ_6_6 ?hy_6_6 ?hS_6_6 ?rest_6_6; (case hr_6_6 => kernel_rfl); (case hf_6_6 => kernel_rfl); (case hs_6_6 => kernel_rfl); (case ho_6_6 => (simp only [List.getElem?_toArray, List.getElem?_cons_succ, List.getElem?_cons_zero]; rfl)); (case hS_6_6 => assumption); (case hQ_6_6 => exact fun _ _ _ h => h); (case hy_6_6 => (refine Or.inl ⟨by rfl, ?_⟩; (intro w hSw; (try dsimp only at hSw); go_simp) <;> with_reducible rfl)); (try simp only [Act.put, List.setIfInBounds_toArray, List.set_cons_zero, List.set_cons_succ]))
          refine wpAnyH_ready (rs := [4, 7]) (by kernel_rfl) (by simp) ?_
          refine AllReadyH.cons (o := ?oA) ?hA ?sA (AllReadyH.cons (o := ?oB) ?hB ?sB AllReadyH.nil)
          case hA => (simp only [List.getElem?_toArray, List.getElem?_cons_succ, List.getElem?_cons_zero]; rfl)
          case hB => (simp only [List.getElem?_toArray, List.getElem?_cons_succ, List.getElem?_cons_zero]; rfl)
          case sA =>
            intro K hK
            go_simp
            refine hK.out _ _ (by exact d0) (fun hHeld => ?_)
            clear hK K
            try simp only [Act.put, List.setIfInBounds_toArray, List.set_cons_zero, List.set_cons_succ]
            (refine wpAnyH_ready (rs := [7]) (by kernel_rfl) (by simp) ?_; refine AllReadyH.cons (o := ?oo_7_7) ?hoo_7_7 ?hst_7_7 AllReadyH.nil; (case hoo_7_7 => (simp only [List.getElem?_toArray, List.getElem?_cons_succ, List.getElem?_cons_zero]; rfl)); intro K hK; go_simp; ((go_at_call 9; (with_reducible refine (c3.out _ hRd).mono ?_); rintro en w4 ⟨rfl, hR4, hu4⟩; have g1 := hu4.cell d0 (by dsimp only; omega))); (try go_wp2_with fail); refine hK.out _ _ (by (try dsimp only); exact g1) (fun hHeld => ?_); clear hK K; (try simp only [Act.put, List.setIfInBounds_toArray, List.set_cons_zero, List.set_cons_succ]))
            have gb1 := hu4.heap db (by omega)
            have ho4 := hu4.owns hod (fun j hj e => by have := own_ge hod hj; omega)
            have z4 : w4.cell? ⟨b, 13, none⟩ = some pv' := (cells_of gb1).1 13
            have hux := (Upd.refl Non w4).then_alloc (.cells #[.int .i64 n3] 3)
            have gw := hux.cell g1 fun h => h
            have zw := hux.cell z4 fun h => h
            have hz4 : wr.heap.size ≤ w4.heap.size := hu4.size
            (refine wpAnyH_ready (rs := [8]) (by kernel_rfl) (by simp) ?_; refine AllReadyH.cons (o := ?oo_8_8) ?hoo_8_8 ?hst_8_8 AllReadyH.nil; (case hoo_8_8 => (simp only [List.getElem?_toArray, List.getElem?_cons_succ, List.getElem?_cons_zero]; rfl)); intro K hK; go_simp; (skip); (try go_wp2_with fail); refine hK.out _ _ (by (try dsimp only); exact gw) (fun hHeld => ?_); clear hK K; (try simp only [Act.put, List.setIfInBounds_toArray, List.set_cons_zero, List.set_cons_succ]))
            (refine wpAnyH_ready (rs := [9]) (by kernel_rfl) (by simp) ?_; refine AllReadyH.cons (o := ?oo_9_9) ?hoo_9_9 ?hst_9_9 AllReadyH.nil; (case hoo_9_9 => (simp only [List.getElem?_toArray, List.getElem?_cons_succ, List.getElem?_cons_zero]; rfl)); intro K hK; ((go_must (refine step_app1p rfl _ _ 84 rfl base 3 (.int .i64 0) 1 8 Tryz.underlying84 hii.out rfl pv' ps.length (ps.map (.int .i64)) rfl ho4 [.int .i64 n3] w4.heap.size rfl rfl rfl (by intro u hu; rw [List.mem_singleton.1 hu]; rfl) (by unfold maxLen; omega) (by omega) (by omega) ?_); intro v6 w6 ho6 hu6 hf6; have g6 := hu6.cell g1 (fun h => hnb _ h rfl); have gb6 := hu6.heap gb1 (fun h => by have := own_ge ho4 h; omega))); (try go_wp2_with fail); refine hK.out _ _ (by (try dsimp only); exact g6) (fun hHeld => ?_); clear hK K; (try simp only [Act.put, List.setIfInBounds_toArray, List.set_cons_zero, List.set_cons_succ]))
            (refine wpAnyH_take (i := 10) (oi := ?oi_10_10) (v := ?v_10_10) ?ho_10_10 ?hs_10_10 ?hf_10_10 ?hr_10_10 ?hQ_10_10 ?hy_10_10 ?hS_10_10 ?rest_10_10; (case hr_10_10 => kernel_rfl); (case hf_10_10 => kernel_rfl); (case hs_10_10 => kernel_rfl); (case ho_10_10 => (simp only [List.getElem?_toArray, List.getElem?_cons_succ, List.getElem?_cons_zero]; rfl)); (case hS_10_10 => assumption); (case hQ_10_10 => exact fun _ _ _ h => h); (case hy_10_10 => (refine Or.inl ⟨by rfl, ?_⟩; (intro w hSw; (try dsimp only at hSw); go_simp) <;> with_reducible rfl)); (try simp only [Act.put, List.setIfInBounds_toArray, List.set_cons_zero, List.set_cons_succ]))
            (refine wpAnyH_take (i := 11) (oi := ?oi_10_11) (v := ?v_10_11) ?ho_10_11 ?hs_10_11 ?hf_10_11 ?hr_10_11 ?hQ_10_11 ?hy_10_11 ?hS_10_11 ?rest_10_11; (case hr_10_11 => kernel_rfl); (case hf_10_11 => kernel_rfl); (case hs_10_11 => kernel_rfl); (case ho_10_11 => (simp only [List.getElem?_toArray, List.getElem?_cons_succ, List.getElem?_cons_zero]; rfl)); (case hS_10_11 => assumption); (case hQ_10_11 => exact fun _ _ _ h => h); (case hy_10_11 => (refine Or.inl ⟨by rfl, ?_⟩; (intro w hSw; (try dsimp only at hSw); go_simp) <;> with_reducible rfl)); (try simp only [Act.put, List.setIfInBounds_toArray, List.set_cons_zero, List.set_cons_succ]))
            (refine wpAnyH_ready (rs := [12]) (by kernel_rfl) (by simp) ?_; refine AllReadyH.cons (o := ?oo_10_12) ?hoo_10_12 ?hst_10_12 AllReadyH.nil; (case hoo_10_12 => (simp only [List.getElem?_toArray, List.getElem?_cons_succ, List.getElem?_cons_zero]; rfl)); intro K hK; ((refine step_store_cell rfl 84 _ _ rfl b 13 v6 _ _ rfl rfl gb6 (show 13 < 14 by omega) rfl (by obtain ⟨_, aa, cc, rfl, -⟩ := has_of_owns ho6; rfl) (by obtain ⟨_, aa, cc, rfl, -⟩ := has_of_owns ho6; rfl) ?_; intro w7 hb7 hu7; have g7 := hu7.cell g6 (by dsimp only; omega))); (try go_wp2_with fail); refine hK.out _ _ (by (try dsimp only); first | exact g7 | exact g6) (fun hHeld => ?_); clear hK K; (try simp only [Act.put, List.setIfInBounds_toArray, List.set_cons_zero, List.set_cons_succ]))
            refine wpAnyH_done (by kernel_rfl) ?_ _
            have hu47 : Upd (fun k => k = r ∨ k = b ∨ At pv k) w w7 := (((hu'.trans (Upd.drew Non wr) fun _ _ h => h.elim).trans hu4 fun _ _ h => .inl h).trans hu6 fun j hj h => by rcases hf' j h with h | h; exact .inr (.inr h); omega).trans hu7 fun _ _ h => .inr (.inl h)
            have hR7 : RdAt w7 r L s a3 e3 := (hR4.upd hu6 fun j _ hj => .inr (by have := own_ge ho4 hj; omega)).upd hu7 fun j _ hj => by omega
            have ho7 := hu7.owns ho6 (fun j hj e => by have := own_ge ho6 hj; omega)
            have hf7 : ∀ k, At v6 k → At pv k ∨ w.heap.size ≤ k := fun k hk => (hf6 k hk).elim (hf' k) fun h => by omega
            have hn7 : ∀ k, At v6 k → k ≠ w.heap.size := fun k hk => (hf6 k hk).elim (hnb k) fun h => by omega
            have hb8 : w7.heap[b]? = some (.cells (rqC { q with parts := ps ++ [n3] } v6) 86 (0, 0)) := hb7
            have ho8 : w7.ownsRow base 3 1 v6 (ps ++ [n3]).length ((ps ++ [n3]).map (.int .i64)) := by rw [List.length_append, List.map_append]; exact ho7
            clear hb7 ho7 ho6 hu6 hu7 hf6 gb6 hux gb1 ho4 hR4 hu4 z4 gw zw g1 db hod zd hRd c3
            go_wp2_with fail
            go_roundw
            case rel => exact ⟨k + 1, v6, ps ++ [n3], a3, e3, by go_num, by omega, by rw [List.length_append, List.length_singleton]; omega, by rw [show z - (k + 1) = m by omega]; exact hRR2, hb8, ho8, hR7, g7, hu47, hf7, hn7⟩
            case measure => simp [intOf]; omega
          case sB =>
            intro K hK
            go_simp
            (go_at_call 9; (with_reducible refine (c3.out _ hRd).mono ?_); rintro en w4 ⟨rfl, hR4, hu4⟩; have g1 := hu4.cell d0 (by dsimp only; omega))
            have gb1 := hu4.heap db (by omega)
            have ho4 := hu4.owns hod (fun j hj e => by have := own_ge hod hj; omega)
            have z4 : w4.cell? ⟨b, 13, none⟩ = some pv' := (cells_of gb1).1 13
            have hux := (Upd.refl Non w4).then_alloc (.cells #[.int .i64 n3] 3)
            have gw := hux.cell g1 fun h => h
            have zw := hux.cell z4 fun h => h
            have hz4 : wr.heap.size ≤ w4.heap.size := hu4.size
            try go_wp2_with fail
            refine hK.out _ _ (by exact g1) (fun hHeld => ?_)
            clear hK K
            try simp only [Act.put, List.setIfInBounds_toArray, List.set_cons_zero, List.set_cons_succ]
            refine wpAnyH_ready (rs := [4, 8]) (by kernel_rfl) (by simp) ?_
            refine AllReadyH.cons (o := ?oC) ?hC ?sC (AllReadyH.cons (o := ?oD) ?hD ?sD AllReadyH.nil)
            case hC => (simp only [List.getElem?_toArray, List.getElem?_cons_succ, List.getElem?_cons_zero]; rfl)
            case hD => (simp only [List.getElem?_toArray, List.getElem?_cons_succ, List.getElem?_cons_zero]; rfl)
            case sC =>
              intro K hK
              go_simp
              refine hK.out _ _ (by exact g1) (fun hHeld => ?_)
              clear hK K
              try simp only [Act.put, List.setIfInBounds_toArray, List.set_cons_zero, List.set_cons_succ]
              (refine wpAnyH_ready (rs := [8]) (by kernel_rfl) (by simp) ?_; refine AllReadyH.cons (o := ?oo_11_8) ?hoo_11_8 ?hst_11_8 AllReadyH.nil; (case hoo_11_8 => (simp only [List.getElem?_toArray, List.getElem?_cons_succ, List.getElem?_cons_zero]; rfl)); intro K hK; go_simp; (skip); (try go_wp2_with fail); refine hK.out _ _ (by (try dsimp only); exact gw) (fun hHeld => ?_); clear hK K; (try simp only [Act.put, List.setIfInBounds_toArray, List.set_cons_zero, List.set_cons_succ]))
              (refine wpAnyH_ready (rs := [9]) (by kernel_rfl) (by simp) ?_; refine AllReadyH.cons (o := ?oo_12_9) ?hoo_12_9 ?hst_12_9 AllReadyH.nil; (case hoo_12_9 => (simp only [List.getElem?_toArray, List.getElem?_cons_succ, List.getElem?_cons_zero]; rfl)); intro K hK; ((go_must (refine step_app1p rfl _ _ 84 rfl base 3 (.int .i64 0) 1 8 Tryz.underlying84 hii.out rfl pv' ps.length (ps.map (.int .i64)) rfl ho4 [.int .i64 n3] w4.heap.size rfl rfl rfl (by intro u hu; rw [List.mem_singleton.1 hu]; rfl) (by unfold maxLen; omega) (by omega) (by omega) ?_); intro v6 w6 ho6 hu6 hf6; have g6 := hu6.cell g1 (fun h => hnb _ h rfl); have gb6 := hu6.heap gb1 (fun h => by have := own_ge ho4 h; omega))); (try go_wp2_with fail); refine hK.out _ _ (by (try dsimp only); exact g6) (fun hHeld => ?_); clear hK K; (try simp only [Act.put, List.setIfInBounds_toArray, List.set_cons_zero, List.set_cons_succ]))
              (refine wpAnyH_take (i := 10) (oi := ?oi_13_10) (v := ?v_13_10) ?ho_13_10 ?hs_13_10 ?hf_13_10 ?hr_13_10 ?hQ_13_10 ?hy_13_10 ?hS_13_10 ?rest_13_10; (case hr_13_10 => kernel_rfl); (case hf_13_10 => kernel_rfl); (case hs_13_10 => kernel_rfl); (case ho_13_10 => (simp only [List.getElem?_toArray, List.getElem?_cons_succ, List.getElem?_cons_zero]; rfl)); (case hS_13_10 => assumption); (case hQ_13_10 => exact fun _ _ _ h => h); (case hy_13_10 => (refine Or.inl ⟨by rfl, ?_⟩; (intro w hSw; (try dsimp only at hSw); go_simp) <;> with_reducible rfl)); (try simp only [Act.put, List.setIfInBounds_toArray, List.set_cons_zero, List.set_cons_succ]))
              (refine wpAnyH_take (i := 11) (oi := ?oi_13_11) (v := ?v_13_11) ?ho_13_11 ?hs_13_11 ?hf_13_11 ?hr_13_11 ?hQ_13_11 ?hy_13_11 ?hS_13_11 ?rest_13_11; (case hr_13_11 => kernel_rfl); (case hf_13_11 => kernel_rfl); (case hs_13_11 => kernel_rfl); (case ho_13_11 => (simp only [List.getElem?_toArray, List.getElem?_cons_succ, List.getElem?_cons_zero]; rfl)); (case hS_13_11 => assumption); (case hQ_13_11 => exact fun _ _ _ h => h); (case hy_13_11 => (refine Or.inl ⟨by rfl, ?_⟩; (intro w hSw; (try dsimp only at hSw); go_simp) <;> with_reducible rfl)); (try simp only [Act.put, List.setIfInBounds_toArray, List.set_cons_zero, List.set_cons_succ]))
              (refine wpAnyH_ready (rs := [12]) (by kernel_rfl) (by simp) ?_; refine AllReadyH.cons (o := ?oo_13_12) ?hoo_13_12 ?hst_13_12 AllReadyH.nil; (case hoo_13_12 => (simp only [List.getElem?_toArray, List.getElem?_cons_succ, List.getElem?_cons_zero]; rfl)); intro K hK; ((refine step_store_cell rfl 84 _ _ rfl b 13 v6 _ _ rfl rfl gb6 (show 13 < 14 by omega) rfl (by obtain ⟨_, aa, cc, rfl, -⟩ := has_of_owns ho6; rfl) (by obtain ⟨_, aa, cc, rfl, -⟩ := has_of_owns ho6; rfl) ?_; intro w7 hb7 hu7; have g7 := hu7.cell g6 (by dsimp only; omega))); (try go_wp2_with fail); refine hK.out _ _ (by (try dsimp only); first | exact g7 | exact g6) (fun hHeld => ?_); clear hK K; (try simp only [Act.put, List.setIfInBounds_toArray, List.set_cons_zero, List.set_cons_succ]))
              refine wpAnyH_done (by kernel_rfl) ?_ _
              have hu47 : Upd (fun k => k = r ∨ k = b ∨ At pv k) w w7 := (((hu'.trans (Upd.drew Non wr) fun _ _ h => h.elim).trans hu4 fun _ _ h => .inl h).trans hu6 fun j hj h => by rcases hf' j h with h | h; exact .inr (.inr h); omega).trans hu7 fun _ _ h => .inr (.inl h)
              have hR7 : RdAt w7 r L s a3 e3 := (hR4.upd hu6 fun j _ hj => .inr (by have := own_ge ho4 hj; omega)).upd hu7 fun j _ hj => by omega
              have ho7 := hu7.owns ho6 (fun j hj e => by have := own_ge ho6 hj; omega)
              have hf7 : ∀ k, At v6 k → At pv k ∨ w.heap.size ≤ k := fun k hk => (hf6 k hk).elim (hf' k) fun h => by omega
              have hn7 : ∀ k, At v6 k → k ≠ w.heap.size := fun k hk => (hf6 k hk).elim (hnb k) fun h => by omega
              have hb8 : w7.heap[b]? = some (.cells (rqC { q with parts := ps ++ [n3] } v6) 86 (0, 0)) := hb7
              have ho8 : w7.ownsRow base 3 1 v6 (ps ++ [n3]).length ((ps ++ [n3]).map (.int .i64)) := by rw [List.length_append, List.map_append]; exact ho7
              clear hb7 ho7 ho6 hu6 hu7 hf6 gb6 hux gb1 ho4 hR4 hu4 z4 gw zw g1 db hod zd hRd c3
              go_wp2_with fail
              go_roundw
              case rel => exact ⟨k + 1, v6, ps ++ [n3], a3, e3, by go_num, by omega, by rw [List.length_append, List.length_singleton]; omega, by rw [show z - (k + 1) = m by omega]; exact hRR2, hb8, ho8, hR7, g7, hu47, hf7, hn7⟩
              case measure => simp [intOf]; omega
            case sD =>
              intro K hK
              go_simp
              refine hK.out _ _ (by exact gw) (fun hHeld => ?_)
              clear hK K
              try simp only [Act.put, List.setIfInBounds_toArray, List.set_cons_zero, List.set_cons_succ]
              (refine wpAnyH_ready (rs := [4]) (by kernel_rfl) (by simp) ?_; refine AllReadyH.cons (o := ?oo_14_4) ?hoo_14_4 ?hst_14_4 AllReadyH.nil; (case hoo_14_4 => (simp only [List.getElem?_toArray, List.getElem?_cons_succ, List.getElem?_cons_zero]; rfl)); intro K hK; go_simp; (skip); (try go_wp2_with fail); refine hK.out _ _ (by (try dsimp only); exact gw) (fun hHeld => ?_); clear hK K; (try simp only [Act.put, List.setIfInBounds_toArray, List.set_cons_zero, List.set_cons_succ]))
              (refine wpAnyH_ready (rs := [9]) (by kernel_rfl) (by simp) ?_; refine AllReadyH.cons (o := ?oo_15_9) ?hoo_15_9 ?hst_15_9 AllReadyH.nil; (case hoo_15_9 => (simp only [List.getElem?_toArray, List.getElem?_cons_succ, List.getElem?_cons_zero]; rfl)); intro K hK; ((go_must (refine step_app1p rfl _ _ 84 rfl base 3 (.int .i64 0) 1 8 Tryz.underlying84 hii.out rfl pv' ps.length (ps.map (.int .i64)) rfl ho4 [.int .i64 n3] w4.heap.size rfl rfl rfl (by intro u hu; rw [List.mem_singleton.1 hu]; rfl) (by unfold maxLen; omega) (by omega) (by omega) ?_); intro v6 w6 ho6 hu6 hf6; have g6 := hu6.cell g1 (fun h => hnb _ h rfl); have gb6 := hu6.heap gb1 (fun h => by have := own_ge ho4 h; omega))); (try go_wp2_with fail); refine hK.out _ _ (by (try dsimp only); exact g6) (fun hHeld => ?_); clear hK K; (try simp only [Act.put, List.setIfInBounds_toArray, List.set_cons_zero, List.set_cons_succ]))
              (refine wpAnyH_take (i := 10) (oi := ?oi_16_10) (v := ?v_16_10) ?ho_16_10 ?hs_16_10 ?hf_16_10 ?hr_16_10 ?hQ_16_10 ?hy_16_10 ?hS_16_10 ?rest_16_10; (case hr_16_10 => kernel_rfl); (case hf_16_10 => kernel_rfl); (case hs_16_10 => kernel_rfl); (case ho_16_10 => (simp only [List.getElem?_toArray, List.getElem?_cons_succ, List.getElem?_cons_zero]; rfl)); (case hS_16_10 => assumption); (case hQ_16_10 => exact fun _ _ _ h => h); (case hy_16_10 => (refine Or.inl ⟨by rfl, ?_⟩; (intro w hSw; (try dsimp only at hSw); go_simp) <;> with_reducible rfl)); (try simp only [Act.put, List.setIfInBounds_toArray, List.set_cons_zero, List.set_cons_succ]))
              (refine wpAnyH_take (i := 11) (oi := ?oi_16_11) (v := ?v_16_11) ?ho_16_11 ?hs_16_11 ?hf_16_11 ?hr_16_11 ?hQ_16_11 ?hy_16_11 ?hS_16_11 ?rest_16_11; (case hr_16_11 => kernel_rfl); (case hf_16_11 => kernel_rfl); (case hs_16_11 => kernel_rfl); (case ho_16_11 => (simp only [List.getElem?_toArray, List.getElem?_cons_succ, List.getElem?_cons_zero]; rfl)); (case hS_16_11 => assumption); (case hQ_16_11 => exact fun _ _ _ h => h); (case hy_16_11 => (refine Or.inl ⟨by rfl, ?_⟩; (intro w hSw; (try dsimp only at hSw); go_simp) <;> with_reducible rfl)); (try simp only [Act.put, List.setIfInBounds_toArray, List.set_cons_zero, List.set_cons_succ]))
              (refine wpAnyH_ready (rs := [12]) (by kernel_rfl) (by simp) ?_; refine AllReadyH.cons (o := ?oo_16_12) ?hoo_16_12 ?hst_16_12 AllReadyH.nil; (case hoo_16_12 => (simp only [List.getElem?_toArray, List.getElem?_cons_succ, List.getElem?_cons_zero]; rfl)); intro K hK; ((refine step_store_cell rfl 84 _ _ rfl b 13 v6 _ _ rfl rfl gb6 (show 13 < 14 by omega) rfl (by obtain ⟨_, aa, cc, rfl, -⟩ := has_of_owns ho6; rfl) (by obtain ⟨_, aa, cc, rfl, -⟩ := has_of_owns ho6; rfl) ?_; intro w7 hb7 hu7; have g7 := hu7.cell g6 (by dsimp only; omega))); (try go_wp2_with fail); refine hK.out _ _ (by (try dsimp only); first | exact g7 | exact g6) (fun hHeld => ?_); clear hK K; (try simp only [Act.put, List.setIfInBounds_toArray, List.set_cons_zero, List.set_cons_succ]))
              refine wpAnyH_done (by kernel_rfl) ?_ _
              have hu47 : Upd (fun k => k = r ∨ k = b ∨ At pv k) w w7 := (((hu'.trans (Upd.drew Non wr) fun _ _ h => h.elim).trans hu4 fun _ _ h => .inl h).trans hu6 fun j hj h => by rcases hf' j h with h | h; exact .inr (.inr h); omega).trans hu7 fun _ _ h => .inr (.inl h)
              have hR7 : RdAt w7 r L s a3 e3 := (hR4.upd hu6 fun j _ hj => .inr (by have := own_ge ho4 hj; omega)).upd hu7 fun j _ hj => by omega
              have ho7 := hu7.owns ho6 (fun j hj e => by have := own_ge ho6 hj; omega)
              have hf7 : ∀ k, At v6 k → At pv k ∨ w.heap.size ≤ k := fun k hk => (hf6 k hk).elim (hf' k) fun h => by omega
              have hn7 : ∀ k, At v6 k → k ≠ w.heap.size := fun k hk => (hf6 k hk).elim (hnb k) fun h => by omega
              have hb8 : w7.heap[b]? = some (.cells (rqC { q with parts := ps ++ [n3] } v6) 86 (0, 0)) := hb7
              have ho8 : w7.ownsRow base 3 1 v6 (ps ++ [n3]).length ((ps ++ [n3]).map (.int .i64)) := by rw [List.length_append, List.map_append]; exact ho7
              clear hb7 ho7 ho6 hu6 hu7 hf6 gb6 hux gb1 ho4 hR4 hu4 z4 gw zw g1 db hod zd hRd c3
              go_wp2_with fail
              go_roundw
              case rel => exact ⟨k + 1, v6, ps ++ [n3], a3, e3, by go_num, by omega, by rw [List.length_append, List.length_singleton]; omega, by rw [show z - (k + 1) = m by omega]; exact hRR2, hb8, ho8, hR7, g7, hu47, hf7, hn7⟩
              case measure => simp [intOf]; omega
        · have heb : (e' == 0) = false := by simp [he]
          go_wp2_with fail
          go_roundw
          case rel => exact ⟨k + 1, pv', ps, a', e', by go_num, by omega, by omega, Lib.hid (by have := hRR.out; unfold rdParts at this; rw [if_neg he] at this; rw [show z - (k + 1) = m by omega]; exact this), hM', ho', hR', y0, hu', hf', hnb⟩
          case measure => simp [intOf]; omega
      · have hltI : ¬ (k : Int) < (z : Int) := by omega
        obtain rfl : k = z := by omega
        rw [Nat.sub_self] at hRR
        have hRR2 : (a', e', ps) = R := hRR.out
        subst hRR2
        have hg := Lib.hid (hG.out wr pv' hM' ho' hR' hu' hf')
        clear hM' ho' hR' hu' hf' hG hRR
        go_wp2_with fail
        go_returns
        exact hg.out
  · rw [show ((88 : UInt8).toNat : Int) = 88 from rfl]
    have c1 := Lib.hid (fun w h => fU16 (L := L) r s a e w h)
    obtain ⟨z, hz, hz2⟩ := rdNum_nat s a e 2 (by omega)
    have c2 := Lib.hid (fun w h => wRest (L := L) r s (rdNum s a e 2).1 (rdNum s a e 2).2.1 z w h (by omega))
    have hG := Lib.hid (fun (q' : Rq) a' e' w2 hp hM hR hu => got_same (q' := q') (a' := a') (e' := e') (w2 := w2) (s := s) (L := L) hown hb hr hp hM hR hu)
    show Calls _ _ _ _ (GotQ r L s b base pv ({ q with body := (rdStr s a e 2).2.2 }, (rdStr s a e 2).1, (rdStr s a e 2).2.1) w)
    unfold rdStr
    rw [hz] at c1 ⊢
    rw [Int.toNat_natCast]
    clear hz
    generalize rdNum s a e 2 = x at *
    obtain ⟨a1, e1, n1⟩ := x
    dsimp only at c1 c2 ⊢
    generalize rdRest s a1 e1 z = x at *
    obtain ⟨a2, e2, t2⟩ := x
    dsimp only at c2 ⊢
    replace hG := Lib.hid (hG.out { q with body := t2 } a2 e2)
    generalize GotQ r L s b base pv ({ q with body := t2 }, a2, e2) w = PR at *
    have hRd : RdAt (w.alloc (.cells #[.pointer (some ⟨r, 0, none⟩)] 50)).drew r L s a e := hR0.non (Upd.drew _ _)
    have d0 := (Upd.drew Non _).cell y0 fun h => h
    have db := (Upd.drew Non _).heap hM0 fun h => h
    have hud := hu0.then_drew
    unfold rdV1 at c2
    clear hz2 hM0
    go_enter Tryz.func71, Tryz.ntmps71
    go_wp2_with fail
    refine wp_region_held_drew (S := (fun w' => w'.cell? ⟨w.heap.size, 0, none⟩ = some (.pointer (some ⟨r, 0, none⟩)))) (by kernel_rfl) (by (try dsimp only); first | exact g3 | exact g2 | exact g1 | exact d0) (fun hHeld => ?_)
    (refine wpAnyH_take (i := 0) (oi := ?oi_17_0) (v := ?v_17_0) ?ho_17_0 ?hs_17_0 ?hf_17_0 ?hr_17_0 ?hQ_17_0 ?hy_17_0 ?hS_17_0 ?rest_17_0; (case hr_17_0 => kernel_rfl); (case hf_17_0 => kernel_rfl); (case hs_17_0 => kernel_rfl); (case ho_17_0 => (simp only [List.getElem?_toArray, List.getElem?_cons_succ, List.getElem?_cons_zero]; rfl)); (case hS_17_0 => assumption); (case hQ_17_0 => exact fun _ _ _ h => h); (case hy_17_0 => (refine Or.inl ⟨by rfl, ?_⟩; (intro w hSw; (try dsimp only at hSw); go_simp) <;> with_reducible rfl)); (try simp only [Act.put, List.setIfInBounds_toArray, List.set_cons_zero, List.set_cons_succ]))
    (refine wpAnyH_take (i := 1) (oi := ?oi_17_1) (v := ?v_17_1) ?ho_17_1 ?hs_17_1 ?hf_17_1 ?hr_17_1 ?hQ_17_1 ?hy_17_1 ?hS_17_1 ?rest_17_1; (case hr_17_1 => kernel_rfl); (case hf_17_1 => kernel_rfl); (case hs_17_1 => kernel_rfl); (case ho_17_1 => (simp only [List.getElem?_toArray, List.getElem?_cons_succ, List.getElem?_cons_zero]; rfl)); (case hS_17_1 => assumption); (case hQ_17_1 => exact fun _ _ _ h => h); (case hy_17_1 => (refine Or.inl ⟨by rfl, ?_⟩; (intro w hSw; (try dsimp only at hSw); go_simp) <;> with_reducible rfl)); (try simp only [Act.put, List.setIfInBounds_toArray, List.set_cons_zero, List.set_cons_succ]))
    (refine wpAnyH_take (i := 2) (oi := ?oi_17_2) (v := ?v_17_2) ?ho_17_2 ?hs_17_2 ?hf_17_2 ?hr_17_2 ?hQ_17_2 ?hy_17_2 ?hS_17_2 ?rest_17_2; (case hr_17_2 => kernel_rfl); (case hf_17_2 => kernel_rfl); (case hs_17_2 => kernel_rfl); (case ho_17_2 => (simp only [List.getElem?_toArray, List.getElem?_cons_succ, List.getElem?_cons_zero]; rfl)); (case hS_17_2 => assumption); (case hQ_17_2 => exact fun _ _ _ h => h); (case hy_17_2 => (refine Or.inl ⟨by rfl, ?_⟩; (intro w hSw; (try dsimp only at hSw); go_simp) <;> with_reducible rfl)); (try simp only [Act.put, List.setIfInBounds_toArray, List.set_cons_zero, List.set_cons_succ]))
    (refine wpAnyH_take (i := 3) (oi := ?oi_17_3) (v := ?v_17_3) ?ho_17_3 ?hs_17_3 ?hf_17_3 ?hr_17_3 ?hQ_17_3 ?hy_17_3 ?hS_17_3 ?rest_17_3; (case hr_17_3 => kernel_rfl); (case hf_17_3 => kernel_rfl); (case hs_17_3 => kernel_rfl); (case ho_17_3 => (simp only [List.getElem?_toArray, List.getElem?_cons_succ, List.getElem?_cons_zero]; rfl)); (case hS_17_3 => assumption); (case hQ_17_3 => exact fun _ _ _ h => h); (case hy_17_3 => (refine Or.inl ⟨by rfl, ?_⟩; (intro w hSw; (try dsimp only at hSw); go_simp) <;> with_reducible rfl)); (try simp only [Act.put, List.setIfInBounds_toArray, List.set_cons_zero, List.set_cons_succ]))
    (refine wpAnyH_ready (rs := [4]) (by kernel_rfl) (by simp) ?_; refine AllReadyH.cons (o := ?oo_17_4) ?hoo_17_4 ?hst_17_4 AllReadyH.nil; (case hoo_17_4 => (simp only [List.getElem?_toArray, List.getElem?_cons_succ, List.getElem?_cons_zero]; rfl)); intro K hK; go_simp; (first | (go_at_call 20; (with_reducible refine (c1.out _ hRd).mono ?_); rintro en w4 ⟨rfl, hR1, hu4⟩; have g1 := hu4.cell d0 (by dsimp only; omega); have gb1 := hu4.heap db (by omega); clear db) | (go_at_call 94; (with_reducible refine (c2.out _ hR1).mono ?_); rintro en w5 ⟨rfl, hR2, hu5⟩; have g2 := hu5.cell g1 (by dsimp only; omega); have gb2 := hu5.heap gb1 (by omega); clear gb1) | (refine step_store_cell rfl 9 _ _ rfl b 7 (.string ⟨t2.toArray⟩) _ _ rfl rfl gb2 (show 7 < 14 by omega) rfl rfl rfl ?_; intro w6 hb6 hu6; have g3 := hu6.cell g2 (by dsimp only; omega); clear gb2)); (try go_wp2_with fail); refine hK.out _ _ (by (try dsimp only); first | exact g3 | exact g2 | exact g1 | exact d0) (fun hHeld => ?_); clear hK K; (try simp only [Act.put, List.setIfInBounds_toArray, List.set_cons_zero, List.set_cons_succ]))
    (refine wpAnyH_ready (rs := [5]) (by kernel_rfl) (by simp) ?_; refine AllReadyH.cons (o := ?oo_17_5) ?hoo_17_5 ?hst_17_5 AllReadyH.nil; (case hoo_17_5 => (simp only [List.getElem?_toArray, List.getElem?_cons_succ, List.getElem?_cons_zero]; rfl)); intro K hK; go_simp; (first | (go_at_call 20; (with_reducible refine (c1.out _ hRd).mono ?_); rintro en w4 ⟨rfl, hR1, hu4⟩; have g1 := hu4.cell d0 (by dsimp only; omega); have gb1 := hu4.heap db (by omega); clear db) | (go_at_call 94; (with_reducible refine (c2.out _ hR1).mono ?_); rintro en w5 ⟨rfl, hR2, hu5⟩; have g2 := hu5.cell g1 (by dsimp only; omega); have gb2 := hu5.heap gb1 (by omega); clear gb1) | (refine step_store_cell rfl 9 _ _ rfl b 7 (.string ⟨t2.toArray⟩) _ _ rfl rfl gb2 (show 7 < 14 by omega) rfl rfl rfl ?_; intro w6 hb6 hu6; have g3 := hu6.cell g2 (by dsimp only; omega); clear gb2)); (try go_wp2_with fail); refine hK.out _ _ (by (try dsimp only); first | exact g3 | exact g2 | exact g1 | exact d0) (fun hHeld => ?_); clear hK K; (try simp only [Act.put, List.setIfInBounds_toArray, List.set_cons_zero, List.set_cons_succ]))
    (refine wpAnyH_take (i := 6) (oi := ?oi_17_6) (v := ?v_17_6) ?ho_17_6 ?hs_17_6 ?hf_17_6 ?hr_17_6 ?hQ_17_6 ?hy_17_6 ?hS_17_6 ?rest_17_6; (case hr_17_6 => kernel_rfl); (case hf_17_6 => kernel_rfl); (case hs_17_6 => kernel_rfl); (case ho_17_6 => (simp only [List.getElem?_toArray, List.getElem?_cons_succ, List.getElem?_cons_zero]; rfl)); (case hS_17_6 => assumption); (case hQ_17_6 => exact fun _ _ _ h => h); (case hy_17_6 => (refine Or.inl ⟨by rfl, ?_⟩; (intro w hSw; (try dsimp only at hSw); go_simp) <;> with_reducible rfl)); (try simp only [Act.put, List.setIfInBounds_toArray, List.set_cons_zero, List.set_cons_succ]))
    (refine wpAnyH_take (i := 7) (oi := ?oi_17_7) (v := ?v_17_7) ?ho_17_7 ?hs_17_7 ?hf_17_7 ?hr_17_7 ?hQ_17_7 ?hy_17_7 ?hS_17_7 ?rest_17_7; (case hr_17_7 => kernel_rfl); (case hf_17_7 => kernel_rfl); (case hs_17_7 => kernel_rfl); (case ho_17_7 => (simp only [List.getElem?_toArray, List.getElem?_cons_succ, List.getElem?_cons_zero]; rfl)); (case hS_17_7 => assumption); (case hQ_17_7 => exact fun _ _ _ h => h); (case hy_17_7 => (refine Or.inl ⟨by rfl, ?_⟩; (intro w hSw; (try dsimp only at hSw); go_simp) <;> with_reducible rfl)); (try simp only [Act.put, List.setIfInBounds_toArray, List.set_cons_zero, List.set_cons_succ]))
    (refine wpAnyH_ready (rs := [8]) (by kernel_rfl) (by simp) ?_; refine AllReadyH.cons (o := ?oo_17_8) ?hoo_17_8 ?hst_17_8 AllReadyH.nil; (case hoo_17_8 => (simp only [List.getElem?_toArray, List.getElem?_cons_succ, List.getElem?_cons_zero]; rfl)); intro K hK; (first | (go_at_call 20; (with_reducible refine (c1.out _ hRd).mono ?_); rintro en w4 ⟨rfl, hR1, hu4⟩; have g1 := hu4.cell d0 (by dsimp only; omega); have gb1 := hu4.heap db (by omega); clear db) | (go_at_call 94; (with_reducible refine (c2.out _ hR1).mono ?_); rintro en w5 ⟨rfl, hR2, hu5⟩; have g2 := hu5.cell g1 (by dsimp only; omega); have gb2 := hu5.heap gb1 (by omega); clear gb1) | (refine step_store_cell rfl 9 _ _ rfl b 7 (.string ⟨t2.toArray⟩) _ _ rfl rfl gb2 (show 7 < 14 by omega) rfl rfl rfl ?_; intro w6 hb6 hu6; have g3 := hu6.cell g2 (by dsimp only; omega); clear gb2)); (try go_wp2_with fail); refine hK.out _ _ (by (try dsimp only); first | exact g3 | exact g2 | exact g1 | exact d0) (fun hHeld => ?_); clear hK K; (try simp only [Act.put, List.setIfInBounds_toArray, List.set_cons_zero, List.set_cons_succ]))
    refine wpAnyH_done (by kernel_rfl) ?_ _
    have hg := Lib.hid (hG.out w6 (by first | trivial | rfl) hb6 (hR2.upd hu6 fun k _ hk => by omega) (((hud.trans hu4 fun _ _ h => .inl h).trans hu5 fun _ _ h => .inl h).trans hu6 fun _ _ h => .inr h))
    clear hG c1 c2 hb6 hu6 hu5 hu4 hud hR2 hR1 hRd
    go_wp2_with fail
    go_returns
    exact hg.out
end Go.Proofs.YtogekobpjjmnjaaGreat
