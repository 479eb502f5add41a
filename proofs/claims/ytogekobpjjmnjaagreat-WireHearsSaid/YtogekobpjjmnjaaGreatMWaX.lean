/- wire.reader: texts, lines. -/
import Derived.Test.YtogekobpjjmnjaaGreatMWaW
namespace Go.Proofs.YtogekobpjjmnjaaGreat
open Go.RowKit Go.Amb
set_option linter.unusedVariables false
set_option linter.unusedSimpArgs false
set_option maxRecDepth 100000
variable {L : Nat}
attribute [local go_sem ↓] Go.wp_at_zero Go.wp_at_succ
theorem flat_txC (l : List (List UInt8)) : l.flatMap txC = l.map fun s => .string ⟨s.toArray⟩ := by
  induction l with
  | nil => rfl
  | cons x l ih => rw [List.flatMap_cons, ih]; rfl
/-- A reading call that answers v; its blocks are new. -/
def RNew (r L : Nat) (s : List UInt8) (a' : Nat) (e' : Int) (G : World → Value → Prop) (w : World) : Ending → World → Prop := fun en w' =>
  ∃ v, en = .returned v ∧ RdAt w' r L s a' e' ∧ G w' v ∧ Upd (fun k => k = r) w w'
/-- A slice in new blocks. -/
def NewTx (w : World) (ts : List (List UInt8)) (w' : World) (v : Value) : Prop := Txts w' v ts ∧ ∀ k, At v k → w.heap.size ≤ k ∧ k < w'.heap.size
set_option maxHeartbeats 2000000 in
theorem wRTexts (r : Nat) (s : List UInt8) (a : Nat) (e : Int) (w : World) (h : RdAt w r L s a e) :
    Calls Tryz.prog 14 #[rdV1 r] w (RNew r L s (rdTxs wTx s a e).1 (rdTxs wTx s a e).2.1 (NewTx w (rdTxs wTx s a e).2.2) w) := by
  have hlt := h.lt
  have hzz : ((w.alloc (.cells #[.pointer (some ⟨r, 0, none⟩)] 50)).alloc (.cells #[.slice none 0 0] 30)).heap.size = w.heap.size + 2 := by simp
  have y0 : ((w.alloc (.cells #[.pointer (some ⟨r, 0, none⟩)] 50)).alloc (.cells #[.slice none 0 0] 30)).cell? ⟨w.heap.size, 0, none⟩ = some (.pointer (some ⟨r, 0, none⟩)) := (cells_of (heap_alloc2_old w _ _)).1 0
  have hb0 : ((w.alloc (.cells #[.pointer (some ⟨r, 0, none⟩)] 50)).alloc (.cells #[.slice none 0 0] 30)).heap[w.heap.size + 1]? = some (.cells #[.slice none 0 0] 30 (0, 0)) := heap_alloc2_new w _ _
  have h1 : RdAt ((w.alloc (.cells #[.pointer (some ⟨r, 0, none⟩)] 50)).alloc (.cells #[.slice none 0 0] 30)) r L s a e := (h.non (Upd.alloc _ _ _)).non (Upd.alloc _ _ _)
  have hu1 : Upd (fun k => k = r) w ((w.alloc (.cells #[.pointer (some ⟨r, 0, none⟩)] 50)).alloc (.cells #[.slice none 0 0] 30)) := (Upd.alloc _ _ _).then_alloc _
  have cM := Lib.hid (wMany 45 #[.pointer (some ⟨w.heap.size + 1, 0, none⟩), .pointer (some ⟨w.heap.size, 0, none⟩)] r L s (w.heap.size + 1) w.heap.size 30 9 1 (fun v => #[v]) (wTx s) txC a e _ h1 ⟨hb0, World.ownsRow_nil _ _ _ _⟩ y0 (by omega) (by omega) (by omega) (stTexts r s _ _ _ (by omega) (by omega) (by omega) (by omega) (by omega)) (fun w => by rfl))
  have hRe : Hid (rdTxs wTx s a e = rdMany (wTx s) (rdNum s a e 2).2.2.toNat (rdNum s a e 2).1 (rdNum s a e 2).2.1 []) := Lib.hid rfl
  rw [← hRe.out] at cM
  generalize rdTxs wTx s a e = R at *
  obtain ⟨a', e', ts⟩ := R
  unfold Manyd at cM
  dsimp only at cM ⊢
  obtain ⟨PR, hPR⟩ : ∃ PR, RNew r L s a' e' (NewTx w ts) w = PR := ⟨_, rfl⟩
  rw [hPR]
  have hfin : Hid (∀ w' v, RdAt w' r L s a' e' → Txts w' v ts → (∀ k, At v k → w.heap.size ≤ k ∧ k < w'.heap.size) → Upd (fun k => k = r) w w' → PR (.returned v) w') := Lib.hid (fun w' v e1 e2 e3 e4 => by rw [← hPR]; exact ⟨v, rfl, e1, ⟨e2, e3⟩, e4⟩)
  unfold rdV1 at cM ⊢
  clear hPR hRe
  go_enter Tryz.func14, Tryz.ntmps14
  go_wp2_with fail
  refine cM.out.mono ?_
  rintro en w3 ⟨rfl, v, hR3, ⟨hb3, ho3⟩, hu3⟩
  have z3 : w3.cell? ⟨w.heap.size + 1, 0, none⟩ = some v := (cells_of hb3).1 0
  have hU3 : Upd (fun k => k = r) w w3 := hu1.trans hu3 fun j hj h => by
    rcases h with h | h
    · exact h
    · omega
  have hT3 := has_of_owns ho3
  rw [flat_txC] at hT3
  have hg := Lib.hid (hfin.out w3 v hR3 hT3 (fun k hk => ⟨by have := own_ge ho3 hk; rw [hzz] at this; omega, own_lt ho3 hk⟩) hU3)
  clear h h1 hu1 y0 hb0 hR3 hb3 ho3 hu3 hU3 hT3 cM hfin
  go_wp2_with fail
  exact hg.out
/-- What lines tells. -/
def NewLns (w : World) (ls : List Ln) (o : List UInt8) (id : Int) (more : Bool) (w' : World) (v : Value) : Prop := ∃ lv, v = lnsV lv o id more ∧ Lns w' lv ls ∧ ∀ k, At lv k → w.heap.size ≤ k ∧ k < w'.heap.size
set_option maxHeartbeats 4000000 in
theorem wRLines (r : Nat) (s : List UInt8) (a : Nat) (e : Int) (w : World) (h : RdAt w r L s a e) :
    Calls Tryz.prog 16 #[rdV1 r] w (RNew r L s (rdLns wTx s a e).1 (rdLns wTx s a e).2.1 (NewLns w (rdLns wTx s a e).2.2.1 (rdLns wTx s a e).2.2.2.1 (rdLns wTx s a e).2.2.2.2.1 (rdLns wTx s a e).2.2.2.2.2) w) := by
  have hlt := h.lt
  obtain ⟨W, hW⟩ : ∃ W, ((w.alloc (.cells #[.pointer (some ⟨r, 0, none⟩)] 50)).alloc (.cells #[.slice none 0 0, .string ⟨#[]⟩, .int .i64 0, .bool false] 35)).alloc (.cells #[.slice none 0 0, .string ⟨#[]⟩, .int .i64 0, .bool false] 35) = W := ⟨_, rfl⟩
  have hzz : W.heap.size = w.heap.size + 3 := by rw [← hW]; simp
  have y0 : W.cell? ⟨w.heap.size, 0, none⟩ = some (.pointer (some ⟨r, 0, none⟩)) := by rw [← hW]; exact (Upd.alloc Non _ _).cell ((cells_of (heap_alloc2_old w _ _)).1 0) fun h => h
  have hZ0 : W.heap[w.heap.size + 1]? = some (.cells #[.slice none 0 0, .string ⟨#[]⟩, .int .i64 0, .bool false] 35 (0, 0)) := by rw [← hW]; exact (Upd.alloc Non _ _).heap (heap_alloc2_new w _ _) fun h => h
  have hb0 : W.heap[w.heap.size + 2]? = some (.cells #[.slice none 0 0, .string ⟨#[]⟩, .int .i64 0, .bool false] 35 (0, 0)) := by
    rw [← hW]
    have := heap_alloc_new ((w.alloc (.cells #[.pointer (some ⟨r, 0, none⟩)] 50)).alloc (.cells #[.slice none 0 0, .string ⟨#[]⟩, .int .i64 0, .bool false] 35)) (.cells #[.slice none 0 0, .string ⟨#[]⟩, .int .i64 0, .bool false] 35)
    rwa [World.size_alloc, World.size_alloc] at this
  have h1 : RdAt W r L s a e := by rw [← hW]; exact ((h.non (Upd.alloc _ _ _)).non (Upd.alloc _ _ _)).non (Upd.alloc _ _ _)
  have hu1 : Upd (fun k => k = r) w W := by rw [← hW]; exact ((Upd.alloc _ _ _).then_alloc _).then_alloc _
  have cM := Lib.hid (wMany 46 #[.pointer (some ⟨w.heap.size, 0, none⟩), .pointer (some ⟨w.heap.size + 2, 0, none⟩)] r L s (w.heap.size + 2) w.heap.size 35 96 8 lnsC (rdLn wTx s) lnC a e _ h1 ⟨hb0, World.ownsRow_nil _ _ _ _⟩ y0 (by omega) (by omega) (by omega) (stLines r s _ _ _ (by omega) (by omega) (by omega) (by omega) (by omega)) (fun w => by rfl))
  obtain ⟨X, hX⟩ : ∃ X, rdLns wTx s a e = X := ⟨_, rfl⟩
  rw [hX]
  unfold rdLns at hX
  generalize rdNum s a e 2 = x at *
  obtain ⟨ra, re, rn⟩ := x
  dsimp only at *
  generalize rdMany (rdLn wTx s) rn.toNat ra re [] = x at *
  obtain ⟨a1, e1, ls⟩ := x
  unfold Manyd at cM
  dsimp only at *
  have c1 := Lib.hid (fun w h => wRText (L := L) r s a1 e1 w h)
  generalize wTx s a1 e1 = x at *
  obtain ⟨a2, e2, ob⟩ := x
  dsimp only at *
  have c2 := Lib.hid (fun w h => fI64 (L := L) r s a2 e2 w h)
  generalize rdNum s a2 e2 8 = x at *
  obtain ⟨a3, e3, id⟩ := x
  dsimp only at *
  have c3 := Lib.hid (fun w h => wRTruth (L := L) r s a3 e3 w h)
  generalize rdNum s a3 e3 1 = x at *
  obtain ⟨a4, e4, b4⟩ := x
  dsimp only at *
  generalize decide (b4 = 1) = more at *
  subst hX
  dsimp only
  obtain ⟨PR, hPR⟩ : ∃ PR, RNew r L s a4 e4 (NewLns w ls ob id more) w = PR := ⟨_, rfl⟩
  rw [hPR]
  have hfin : Hid (∀ w' lv, RdAt w' r L s a4 e4 → Lns w' lv ls → (∀ k, At lv k → w.heap.size ≤ k ∧ k < w'.heap.size) → Upd (fun k => k = r) w w' → PR (.returned (.agg #[lv, .string ⟨ob.toArray⟩, .int .i64 id, .bool more])) w') := Lib.hid (fun w' lv e1 e2 e3 e4 => by rw [← hPR]; exact ⟨_, rfl, e1, ⟨lv, rfl, e2, e3⟩, e4⟩)
  unfold rdV1 at cM c1 c3 ⊢
  clear hPR
  go_enter Tryz.func16, Tryz.ntmps16
  go_wp2_with fail
  refine cM.out.mono ?_
  rintro en w3 ⟨rfl, v, hR3, ⟨hb3, ho3⟩, hu3⟩
  have y3 := hu3.cell y0 (by dsimp only; omega)
  have hZ3 := hu3.heap hZ0 (by omega)
  have hU3 : Upd (fun k => k = r) w w3 := hu1.trans hu3 fun j hj h => by
    rcases h with h | h
    · exact h
    · omega
  have hLn := has_of_owns ho3
  have hBn : ∀ k, At v k → w.heap.size + 3 < k ∧ k < w3.heap.size := fun k hk => ⟨by have := own_ge ho3 hk; rw [hzz] at this; omega, own_lt ho3 hk⟩
  obtain ⟨va, vc, rfl, -⟩ := has_rows (f := lnC) (m := 8) (fun _ => rfl) hLn
  clear h h1 hu1 y0 hb0 hZ0 hu3 cM ho3 hW
  have gq := (Upd.drew Non _).cell y3 fun h => h
  have gb := (Upd.drew Non _).heap hb3 fun h => h
  have gZ := (Upd.drew Non _).heap hZ3 fun h => h
  have hRd : RdAt w3.drew r L s a1 e1 := hR3.non (Upd.drew _ _)
  have gU := hU3.then_drew
  have hLd := hLn.non (Upd.drew Non w3)
  clear hb3 hZ3 hR3 hU3 y3 hLn
  unfold lnsC at gb
  go_wp2_with fail
  refine wp_region_held_drew (S := (fun w' => w'.cell? ⟨w.heap.size, 0, none⟩ = some (.pointer (some ⟨r, 0, none⟩)))) (by kernel_rfl) (by (try dsimp only); exact gq) (fun hHeld => ?_)
  (refine wpAnyH_take (i := 0) (oi := ?oi_1_0) (v := ?v_1_0) ?ho_1_0 ?hs_1_0 ?hf_1_0 ?hr_1_0 ?hQ_1_0 ?hy_1_0 ?hS_1_0 ?rest_1_0; (case hr_1_0 => kernel_rfl); (case hf_1_0 => kernel_rfl); (case hs_1_0 => kernel_rfl); (case ho_1_0 => (simp only [List.getElem?_toArray, List.getElem?_cons_succ, List.getElem?_cons_zero]; rfl)); (case hS_1_0 => assumption); (case hQ_1_0 => exact fun _ _ _ h => h); (case hy_1_0 => (refine Or.inl ⟨by rfl, ?_⟩; (intro w hSw; (try dsimp only at hSw); go_simp) <;> with_reducible rfl)); (try simp only [Act.put, List.setIfInBounds_toArray, List.set_cons_zero, List.set_cons_succ]))
  (refine wpAnyH_take (i := 2) (oi := ?oi_1_2) (v := ?v_1_2) ?ho_1_2 ?hs_1_2 ?hf_1_2 ?hr_1_2 ?hQ_1_2 ?hy_1_2 ?hS_1_2 ?rest_1_2; (case hr_1_2 => kernel_rfl); (case hf_1_2 => kernel_rfl); (case hs_1_2 => kernel_rfl); (case ho_1_2 => (simp only [List.getElem?_toArray, List.getElem?_cons_succ, List.getElem?_cons_zero]; rfl)); (case hS_1_2 => assumption); (case hQ_1_2 => exact fun _ _ _ h => h); (case hy_1_2 => (refine Or.inl ⟨by rfl, ?_⟩; (intro w hSw; (try dsimp only at hSw); go_simp) <;> with_reducible rfl)); (try simp only [Act.put, List.setIfInBounds_toArray, List.set_cons_zero, List.set_cons_succ]))
  (refine wpAnyH_take (i := 3) (oi := ?oi_1_3) (v := ?v_1_3) ?ho_1_3 ?hs_1_3 ?hf_1_3 ?hr_1_3 ?hQ_1_3 ?hy_1_3 ?hS_1_3 ?rest_1_3; (case hr_1_3 => kernel_rfl); (case hf_1_3 => kernel_rfl); (case hs_1_3 => kernel_rfl); (case ho_1_3 => (simp only [List.getElem?_toArray, List.getElem?_cons_succ, List.getElem?_cons_zero]; rfl)); (case hS_1_3 => assumption); (case hQ_1_3 => exact fun _ _ _ h => h); (case hy_1_3 => (refine Or.inl ⟨by rfl, ?_⟩; (intro w hSw; (try dsimp only at hSw); go_simp) <;> with_reducible rfl)); (try simp only [Act.put, List.setIfInBounds_toArray, List.set_cons_zero, List.set_cons_succ]))
  (refine wpAnyH_take (i := 5) (oi := ?oi_1_5) (v := ?v_1_5) ?ho_1_5 ?hs_1_5 ?hf_1_5 ?hr_1_5 ?hQ_1_5 ?hy_1_5 ?hS_1_5 ?rest_1_5; (case hr_1_5 => kernel_rfl); (case hf_1_5 => kernel_rfl); (case hs_1_5 => kernel_rfl); (case ho_1_5 => (simp only [List.getElem?_toArray, List.getElem?_cons_succ, List.getElem?_cons_zero]; rfl)); (case hS_1_5 => assumption); (case hQ_1_5 => exact fun _ _ _ h => h); (case hy_1_5 => (refine Or.inl ⟨by rfl, ?_⟩; (intro w hSw; (try dsimp only at hSw); go_simp) <;> with_reducible rfl)); (try simp only [Act.put, List.setIfInBounds_toArray, List.set_cons_zero, List.set_cons_succ]))
  (refine wpAnyH_ready (rs := [1]) (by kernel_rfl) (by simp) ?_; refine AllReadyH.cons (o := ?oo_1_1) ?hoo_1_1 ?hst_1_1 AllReadyH.nil; (case hoo_1_1 => (simp only [List.getElem?_toArray, List.getElem?_cons_succ, List.getElem?_cons_zero]; rfl)); intro K hK; go_simp; ((go_at_call 11; (refine (c1.out _ hRd).mono ?_); rintro en w4 ⟨rfl, hR4, hu4⟩; have q1 := hu4.cell gq (by dsimp only; omega))); (try go_wp2_with fail); refine hK.out _ _ (by (try dsimp only); exact q1) (fun hHeld => ?_); clear hK K; (try simp only [Act.put, List.setIfInBounds_toArray, List.set_cons_zero, List.set_cons_succ]))
  (refine wpAnyH_take (i := 7) (oi := ?oi_1_7) (v := ?v_1_7) ?ho_1_7 ?hs_1_7 ?hf_1_7 ?hr_1_7 ?hQ_1_7 ?hy_1_7 ?hS_1_7 ?rest_1_7; (case hr_1_7 => kernel_rfl); (case hf_1_7 => kernel_rfl); (case hs_1_7 => kernel_rfl); (case ho_1_7 => (simp only [List.getElem?_toArray, List.getElem?_cons_succ, List.getElem?_cons_zero]; rfl)); (case hS_1_7 => assumption); (case hQ_1_7 => exact fun _ _ _ h => h); (case hy_1_7 => (refine Or.inl ⟨by rfl, ?_⟩; (intro w hSw; (try dsimp only at hSw); go_simp) <;> with_reducible rfl)); (try simp only [Act.put, List.setIfInBounds_toArray, List.set_cons_zero, List.set_cons_succ]))
  (refine wpAnyH_ready (rs := [4]) (by kernel_rfl) (by simp) ?_; refine AllReadyH.cons (o := ?oo_1_4) ?hoo_1_4 ?hst_1_4 AllReadyH.nil; (case hoo_1_4 => (simp only [List.getElem?_toArray, List.getElem?_cons_succ, List.getElem?_cons_zero]; rfl)); intro K hK; go_simp; ((go_at_call 10; (refine (c2.out _ hR4).mono ?_); rintro en w5 ⟨rfl, hR5, hu5⟩; have q2 := hu5.cell q1 (by dsimp only; omega))); (try go_wp2_with fail); refine hK.out _ _ (by (try dsimp only); exact q2) (fun hHeld => ?_); clear hK K; (try simp only [Act.put, List.setIfInBounds_toArray, List.set_cons_zero, List.set_cons_succ]))
  (refine wpAnyH_ready (rs := [6]) (by kernel_rfl) (by simp) ?_; refine AllReadyH.cons (o := ?oo_1_6) ?hoo_1_6 ?hst_1_6 AllReadyH.nil; (case hoo_1_6 => (simp only [List.getElem?_toArray, List.getElem?_cons_succ, List.getElem?_cons_zero]; rfl)); intro K hK; go_simp; ((go_at_call 15; (refine (c3.out _ hR5).mono ?_); rintro en w6 ⟨rfl, hR6, hu6⟩; have q3 := hu6.cell q2 (by dsimp only; omega); have gb6 := ((hu4.trans hu5 fun _ _ h => h).trans hu6 fun _ _ h => h).heap gb (by omega))); (try go_wp2_with fail); refine hK.out _ _ (by (try dsimp only); exact q3) (fun hHeld => ?_); clear hK K; (try simp only [Act.put, List.setIfInBounds_toArray, List.set_cons_zero, List.set_cons_succ]))
  (refine wpAnyH_ready (rs := [8]) (by kernel_rfl) (by simp) ?_; refine AllReadyH.cons (o := ?oo_1_8) ?hoo_1_8 ?hst_1_8 AllReadyH.nil; (case hoo_1_8 => (simp only [List.getElem?_toArray, List.getElem?_cons_succ, List.getElem?_cons_zero]; rfl)); intro K hK; ((refine step_store_cell rfl 9 _ _ rfl (w.heap.size + 2) 1 (.string ⟨ob.toArray⟩) _ _ rfl rfl gb6 (show 1 < 4 by omega) rfl rfl rfl ?_; intro w7 hb7 hu7; have q4 := hu7.cell q3 (by dsimp only; omega))); (try go_wp2_with fail); refine hK.out _ _ (by (try dsimp only); exact q4) (fun hHeld => ?_); clear hK K; (try simp only [Act.put, List.setIfInBounds_toArray, List.set_cons_zero, List.set_cons_succ]))
  (refine wpAnyH_take (i := 9) (oi := ?oi_1_9) (v := ?v_1_9) ?ho_1_9 ?hs_1_9 ?hf_1_9 ?hr_1_9 ?hQ_1_9 ?hy_1_9 ?hS_1_9 ?rest_1_9; (case hr_1_9 => kernel_rfl); (case hf_1_9 => kernel_rfl); (case hs_1_9 => kernel_rfl); (case ho_1_9 => (simp only [List.getElem?_toArray, List.getElem?_cons_succ, List.getElem?_cons_zero]; rfl)); (case hS_1_9 => assumption); (case hQ_1_9 => exact fun _ _ _ h => h); (case hy_1_9 => (refine Or.inl ⟨by rfl, ?_⟩; (intro w hSw; (try dsimp only at hSw); go_simp) <;> with_reducible rfl)); (try simp only [Act.put, List.setIfInBounds_toArray, List.set_cons_zero, List.set_cons_succ]))
  (refine wpAnyH_ready (rs := [10]) (by kernel_rfl) (by simp) ?_; refine AllReadyH.cons (o := ?oo_1_10) ?hoo_1_10 ?hst_1_10 AllReadyH.nil; (case hoo_1_10 => (simp only [List.getElem?_toArray, List.getElem?_cons_succ, List.getElem?_cons_zero]; rfl)); intro K hK; ((refine step_store_cell rfl 3 _ _ rfl (w.heap.size + 2) 2 (.int .i64 id) _ _ rfl rfl hb7 (show 2 < 4 by omega) rfl rfl rfl ?_; intro w8 hb8 hu8; have q5 := hu8.cell q4 (by dsimp only; omega))); (try go_wp2_with fail); refine hK.out _ _ (by (try dsimp only); exact q5) (fun hHeld => ?_); clear hK K; (try simp only [Act.put, List.setIfInBounds_toArray, List.set_cons_zero, List.set_cons_succ]))
  (refine wpAnyH_take (i := 11) (oi := ?oi_1_11) (v := ?v_1_11) ?ho_1_11 ?hs_1_11 ?hf_1_11 ?hr_1_11 ?hQ_1_11 ?hy_1_11 ?hS_1_11 ?rest_1_11; (case hr_1_11 => kernel_rfl); (case hf_1_11 => kernel_rfl); (case hs_1_11 => kernel_rfl); (case ho_1_11 => (simp only [List.getElem?_toArray, List.getElem?_cons_succ, List.getElem?_cons_zero]; rfl)); (case hS_1_11 => assumption); (case hQ_1_11 => exact fun _ _ _ h => h); (case hy_1_11 => (refine Or.inl ⟨by rfl, ?_⟩; (intro w hSw; (try dsimp only at hSw); go_simp) <;> with_reducible rfl)); (try simp only [Act.put, List.setIfInBounds_toArray, List.set_cons_zero, List.set_cons_succ]))
  (refine wpAnyH_ready (rs := [12]) (by kernel_rfl) (by simp) ?_; refine AllReadyH.cons (o := ?oo_1_12) ?hoo_1_12 ?hst_1_12 AllReadyH.nil; (case hoo_1_12 => (simp only [List.getElem?_toArray, List.getElem?_cons_succ, List.getElem?_cons_zero]; rfl)); intro K hK; ((refine step_store_cell rfl 4 _ _ rfl (w.heap.size + 2) 3 (.bool more) _ _ rfl rfl hb8 (show 3 < 4 by omega) rfl rfl rfl ?_; intro w9 hb9 hu9; have q6 := hu9.cell q5 (by dsimp only; omega))); (try go_wp2_with fail); refine hK.out _ _ (by (try dsimp only); exact q6) (fun hHeld => ?_); clear hK K; (try simp only [Act.put, List.setIfInBounds_toArray, List.set_cons_zero, List.set_cons_succ]))
  refine wpAnyH_done (by kernel_rfl) ?_ _
  have hb10 : w9.heap[w.heap.size + 2]? = some (.cells #[.slice va ls.length vc, .string ⟨ob.toArray⟩, .int .i64 id, .bool more] 35 (0, 0)) := hb9
  have huA : Upd (fun k => k = r) w3.drew w6 := (hu4.trans hu5 fun _ _ h => h).trans hu6 fun _ _ h => h
  have huB : Upd (fun k => k = w.heap.size + 2) w6 w9 := (hu7.trans hu8 fun _ _ h => h).trans hu9 fun _ _ h => h
  have hZ9 := huB.heap (huA.heap gZ (by omega)) (by omega)
  have hR9 : RdAt w9 r L s a4 e4 := hR6.upd huB fun j _ hj => .inr (by omega)
  have hL9 := (hLd.upd huA fun k hk => by have := hBn k hk; omega).upd huB fun k hk => by have := hBn k hk; omega
  have hU9 : Upd (fun k => k = r) w w9 := (gU.trans huA fun _ _ h => h).trans huB fun j hj h => by omega
  have hz9 := huA.size
  have hz10 := huB.size
  have hz11 : w3.heap.size ≤ w3.drew.heap.size := Nat.le_refl _
  clear hu4 hu5 hu6 hu7 hu8 hu9 hb7 hb8 hb9 gb gb6 gZ gU q1 q2 q3 q4 q5 q6 gq hR4 hR5 hR6 hRd hLd huA huB
  have hsz : Hid ((Tryz.prog.info? 35).map (·.size) = some (#[Value.slice va ls.length vc, .string ⟨ob.toArray⟩, .int .i64 id, .bool more] : Array Value).size) := Lib.hid (by kernel_rfl)
  go_wp2_with (first | ((with_reducible (show wpList _ _ _ (⟨_, Op.load _ _, _, _, _, _⟩ :: _) _ _)); refine loadB_list rfl 35 _ rfl (w.heap.size + 2) #[.slice va ls.length vc, .string ⟨ob.toArray⟩, .int .i64 id, .bool more] _ _ rfl hb10 Tryz.underlying35 rfl hsz.out ?_) | ((with_reducible (show wpList _ _ _ (⟨_, Op.store _ _ _, _, _, _, _⟩ :: _) _ _)); refine storeB_list rfl 35 _ _ rfl (w.heap.size + 1) #[.slice va ls.length vc, .string ⟨ob.toArray⟩, .int .i64 id, .bool more] _ _ rfl rfl hZ9 rfl hsz.out (by simp [Value.oneCell']) ?_))
  intro wF hbF huF
  have hg := Lib.hid (hfin.out wF _ (hR9.upd huF fun j _ hj => .inr (by omega)) (hL9.upd huF fun k hk => by have := hBn k hk; omega) (fun k hk => ⟨by have := hBn k hk; omega, by have := hBn k hk; have := huF.size; omega⟩) (hU9.trans huF fun j hj h => by omega))
  clear hR9 hL9 hU9 huF hb10 hZ9 hfin
  go_wp2_with fail
  (try simp only [Exit.inBlock, Exit.then])
  refine bodyPost_ret (results_cell_row rfl _ _ (w.heap.size + 1) _ _ _ _ rfl hbF Tryz.underlying35 rfl hsz.out) rfl ?_
  exact hg.out
end Go.Proofs.YtogekobpjjmnjaaGreat
