/- The reference: truth, putTag, putHead, head, texts, putTexts. -/
import Derived.Test.YtogekobpjjmnjaaGreatMWaD
import Derived.Test.YtogekobpjjmnjaaGreatMWrM
namespace Go.Proofs.YtogekobpjjmnjaaGreat
open Go.RowKit Go.Amb
set_option linter.unusedVariables false
set_option linter.unusedSimpArgs false
set_option maxRecDepth 100000
attribute [local go_sem ↓] Go.wp_at_zero Go.wp_at_succ
theorem rTruth (b : Bool) (w : World) : Calls Tryz.prog 67 #[.bool b] w (Ret (.string ⟨(truF b).toArray⟩) w) := by
  cases b
  · go_enter Tryz.func67, Tryz.ntmps67
    go_wp2_with fail
    go_ret
    exact ⟨rfl, Upd.refl _ _⟩
  · go_enter Tryz.func67, Tryz.ntmps67
    go_wp2_with fail
    go_ret
    exact ⟨rfl, Upd.refl _ _⟩
theorem fld8 (n : Int) (m : Nat) (hm : m ≤ 8) (h : i64 n) (w : World) : Calls Tryz.prog 62 #[.int .i64 n, .int .i64 (m : Int)] w (Ret (.string ⟨(fld n m).toArray⟩) w) := refField n m w h.1 h.2 hm
set_option maxHeartbeats 1000000 in
theorem rPutTag (re im : Int) (h1 : i64 re) (h2 : i64 im) (w : World) : Calls Tryz.prog 64 #[tagV re im] w (Ret (.string ⟨(fld re 4 ++ fld im 4).toArray⟩) w) := by
  have hl : (9223372036854775807 < (fld re 4).length + (fld im 4).length) = False := eq_false (by rw [fld_length, fld_length]; omega)
  have cre := Lib.hid (show ∀ w, Calls Tryz.prog 62 #[.int .i64 re, .int .i64 4] w (Ret (.string ⟨(fld re 4).toArray⟩) w) from fld8 re 4 (by omega) h1)
  have cim := Lib.hid (show ∀ w, Calls Tryz.prog 62 #[.int .i64 im, .int .i64 4] w (Ret (.string ⟨(fld im 4).toArray⟩) w) from fld8 im 4 (by omega) h2)
  have hst := cells_of ((Upd.drew Non _).heap (heap_alloc_new w (.cells #[.int .i64 re, .int .i64 im] 25)) fun h => h)
  have d0 := hst.1 0
  have d1 := hst.1 1
  have hj : Value.string ((⟨(fld re 4).toArray⟩ : ByteArray) ++ ⟨(fld im 4).toArray⟩) = .string ⟨(fld re 4 ++ fld im 4).toArray⟩ := by rw [ByteArray.mk_append_mk] <;> simp
  replace hj := Lib.hid hj
  obtain ⟨PR, hPR⟩ : ∃ PR, Ret (.string ⟨(fld re 4 ++ fld im 4).toArray⟩) w = PR := ⟨_, rfl⟩
  have hfin : Hid (∀ w', Upd Non w w' → PR (.returned (.string ((⟨(fld re 4).toArray⟩ : ByteArray) ++ ⟨(fld im 4).toArray⟩))) w') := Lib.hid (fun w' hu => by rw [← hPR]; exact ⟨congrArg _ hj.out, hu⟩)
  rw [hPR]
  have hu0 : Upd Non w (w.alloc (.cells #[.int .i64 re, .int .i64 im] 25)).drew := (Upd.alloc Non w _).then_drew
  clear hst hPR hj
  unfold tagV
  go_enter Tryz.func64, Tryz.ntmps64
  go_wp2_with fail
  refine wp_region_held_drew (S := (fun w' => w'.cell? ⟨w.heap.size, 0, none⟩ = some (.int .i64 re) ∧ w'.cell? ⟨w.heap.size, 1, none⟩ = some (.int .i64 im))) (by kernel_rfl) (by (try dsimp only); exact ⟨d0, d1⟩) (fun hHeld => ?_)
  (refine wpAnyH_take (i := 0) (oi := ?oi_1_0) (v := ?v_1_0) ?ho_1_0 ?hs_1_0 ?hf_1_0 ?hr_1_0 ?hQ_1_0 ?hy_1_0 ?hS_1_0 ?rest_1_0; (case hr_1_0 => kernel_rfl); (case hf_1_0 => kernel_rfl); (case hs_1_0 => kernel_rfl); (case ho_1_0 => (simp only [List.getElem?_toArray, List.getElem?_cons_succ, List.getElem?_cons_zero]; rfl)); (case hS_1_0 => assumption); (case hQ_1_0 => exact fun _ _ _ h => h); (case hy_1_0 => (refine Or.inl ⟨by rfl, ?_⟩; (intro w hSw; (try dsimp only at hSw); go_simp) <;> with_reducible rfl)); (try simp only [Act.put, List.setIfInBounds_toArray, List.set_cons_zero, List.set_cons_succ]))
  (refine wpAnyH_take (i := 1) (oi := ?oi_1_1) (v := ?v_1_1) ?ho_1_1 ?hs_1_1 ?hf_1_1 ?hr_1_1 ?hQ_1_1 ?hy_1_1 ?hS_1_1 ?rest_1_1; (case hr_1_1 => kernel_rfl); (case hf_1_1 => kernel_rfl); (case hs_1_1 => kernel_rfl); (case ho_1_1 => (simp only [List.getElem?_toArray, List.getElem?_cons_succ, List.getElem?_cons_zero]; rfl)); (case hS_1_1 => assumption); (case hQ_1_1 => exact fun _ _ _ h => h); (case hy_1_1 => (refine Or.inl ⟨by rfl, ?_⟩; (intro w hSw; (try dsimp only at hSw); go_simp) <;> with_reducible rfl)); (try simp only [Act.put, List.setIfInBounds_toArray, List.set_cons_zero, List.set_cons_succ]))
  (refine wpAnyH_take (i := 3) (oi := ?oi_1_3) (v := ?v_1_3) ?ho_1_3 ?hs_1_3 ?hf_1_3 ?hr_1_3 ?hQ_1_3 ?hy_1_3 ?hS_1_3 ?rest_1_3; (case hr_1_3 => kernel_rfl); (case hf_1_3 => kernel_rfl); (case hs_1_3 => kernel_rfl); (case ho_1_3 => (simp only [List.getElem?_toArray, List.getElem?_cons_succ, List.getElem?_cons_zero]; rfl)); (case hS_1_3 => assumption); (case hQ_1_3 => exact fun _ _ _ h => h); (case hy_1_3 => (refine Or.inl ⟨by rfl, ?_⟩; (intro w hSw; (try dsimp only at hSw); go_simp) <;> with_reducible rfl)); (try simp only [Act.put, List.setIfInBounds_toArray, List.set_cons_zero, List.set_cons_succ]))
  (refine wpAnyH_take (i := 4) (oi := ?oi_1_4) (v := ?v_1_4) ?ho_1_4 ?hs_1_4 ?hf_1_4 ?hr_1_4 ?hQ_1_4 ?hy_1_4 ?hS_1_4 ?rest_1_4; (case hr_1_4 => kernel_rfl); (case hf_1_4 => kernel_rfl); (case hs_1_4 => kernel_rfl); (case ho_1_4 => (simp only [List.getElem?_toArray, List.getElem?_cons_succ, List.getElem?_cons_zero]; rfl)); (case hS_1_4 => assumption); (case hQ_1_4 => exact fun _ _ _ h => h); (case hy_1_4 => (refine Or.inl ⟨by rfl, ?_⟩; (intro w hSw; (try dsimp only at hSw); go_simp) <;> with_reducible rfl)); (try simp only [Act.put, List.setIfInBounds_toArray, List.set_cons_zero, List.set_cons_succ]))
  (refine wpAnyH_ready (rs := [2]) (by kernel_rfl) (by simp) ?_; refine AllReadyH.cons (o := ?oo_1_2) ?hoo_1_2 ?hst_1_2 AllReadyH.nil; (case hoo_1_2 => (simp only [List.getElem?_toArray, List.getElem?_cons_succ, List.getElem?_cons_zero]; rfl)); intro K hK; go_simp; ((go_at_call 62; (refine (cre.out _).mono ?_); rintro en w2 ⟨rfl, hu2⟩; have k0 := hu2.cell d0 (fun h => h); have k1 := hu2.cell d1 fun h => h)); (try go_wp2_with fail); refine hK.out _ _ (by (try dsimp only); exact ⟨k0, k1⟩) (fun hHeld => ?_); clear hK K; (try simp only [Act.put, List.setIfInBounds_toArray, List.set_cons_zero, List.set_cons_succ]))
  (refine wpAnyH_ready (rs := [5]) (by kernel_rfl) (by simp) ?_; refine AllReadyH.cons (o := ?oo_1_5) ?hoo_1_5 ?hst_1_5 AllReadyH.nil; (case hoo_1_5 => (simp only [List.getElem?_toArray, List.getElem?_cons_succ, List.getElem?_cons_zero]; rfl)); intro K hK; go_simp; ((go_at_call 62; (refine (cim.out _).mono ?_); rintro en w3 ⟨rfl, hu3⟩; have m0 := hu3.cell k0 (fun h => h); have m1 := hu3.cell k1 fun h => h)); (try go_wp2_with fail); refine hK.out _ _ (by (try dsimp only); exact ⟨m0, m1⟩) (fun hHeld => ?_); clear hK K; (try simp only [Act.put, List.setIfInBounds_toArray, List.set_cons_zero, List.set_cons_succ]))
  (refine wpAnyH_take (i := 6) (oi := ?oi_1_6) (v := ?v_1_6) ?ho_1_6 ?hs_1_6 ?hf_1_6 ?hr_1_6 ?hQ_1_6 ?hy_1_6 ?hS_1_6 ?rest_1_6; (case hr_1_6 => kernel_rfl); (case hf_1_6 => kernel_rfl); (case hs_1_6 => kernel_rfl); (case ho_1_6 => (simp only [List.getElem?_toArray, List.getElem?_cons_succ, List.getElem?_cons_zero]; rfl)); (case hS_1_6 => assumption); (case hQ_1_6 => exact fun _ _ _ h => h); (case hy_1_6 => (refine Or.inl ⟨by rfl, ?_⟩; (intro w hSw; (try dsimp only at hSw); go_simp) <;> with_reducible rfl)); (try simp only [Act.put, List.setIfInBounds_toArray, List.set_cons_zero, List.set_cons_succ]))
  (refine wpAnyH_take (i := 7) (oi := ?oi_1_7) (v := ?v_1_7) ?ho_1_7 ?hs_1_7 ?hf_1_7 ?hr_1_7 ?hQ_1_7 ?hy_1_7 ?hS_1_7 ?rest_1_7; (case hr_1_7 => kernel_rfl); (case hf_1_7 => kernel_rfl); (case hs_1_7 => kernel_rfl); (case ho_1_7 => (simp only [List.getElem?_toArray, List.getElem?_cons_succ, List.getElem?_cons_zero]; rfl)); (case hS_1_7 => assumption); (case hQ_1_7 => exact fun _ _ _ h => h); (case hy_1_7 => (refine Or.inl ⟨by rfl, ?_⟩; (intro w hSw; (try dsimp only at hSw); go_simp) <;> with_reducible rfl)); (try simp only [Act.put, List.setIfInBounds_toArray, List.set_cons_zero, List.set_cons_succ]))
  refine wpAnyH_done (by kernel_rfl) ?_ _
  have hg := Lib.hid (hfin.out _ ((hu0.trans hu2 fun _ _ h => h).trans hu3 fun _ _ h => h))
  clear hfin hu0 hu2 hu3
  go_wp2_with fail
  exact hg.out
set_option maxHeartbeats 2000000 in
theorem rPutHead (h : Hd) (h6 : hd64 h) (w : World) : Calls Tryz.prog 65 #[hdV h] w (Ret (.string ⟨(putHd h).toArray⟩) w) := by
  obtain ⟨size, re, im, gone, null⟩ := h
  obtain ⟨h1, h2, h3⟩ := h6
  dsimp only at h1 h2 h3
  cases gone <;> cases null
  · have hst := cells_of ((Upd.drew Non _).heap (heap_alloc_new w (.cells #[.int .i64 size, .int .i64 re, .int .i64 im, .bool false, .bool false] 27)) fun h => h)
    have d0 := hst.1 0
    have d1 := hst.1 1
    have d2 := hst.1 2
    have c0 := Lib.hid (show ∀ w, Calls Tryz.prog 62 #[.int .i64 0, .int .i64 1] w (Ret (.string ⟨(fld 0 1).toArray⟩) w) from fld8 0 1 (by omega) (by unfold i64; omega))
    have c1 := Lib.hid (show ∀ w, Calls Tryz.prog 62 #[.int .i64 size, .int .i64 2] w (Ret (.string ⟨(fld size 2).toArray⟩) w) from fld8 size 2 (by omega) h1)
    have c2 := Lib.hid (fun w => rPutTag re im h2 h3 w)
    unfold tagV at c2
    have l1 : (9223372036854775807 < (fld 0 1).length + (fld size 2).length) = False := eq_false (by rw [fld_length, fld_length]; omega)
    have l2 : (9223372036854775807 < (fld 0 1).length + (fld size 2).length + (fld re 4 ++ fld im 4).length) = False := eq_false (by rw [List.length_append, fld_length, fld_length, fld_length, fld_length]; omega)
    have hj : Value.string ((⟨(fld 0 1).toArray⟩ : ByteArray) ++ ⟨(fld size 2).toArray⟩ ++ ⟨(fld re 4 ++ fld im 4).toArray⟩) = .string ⟨(putHd ⟨size, re, im, false, false⟩).toArray⟩ := by
      show _ = Value.string ⟨(fld 0 1 ++ (fld size 2 ++ (fld re 4 ++ fld im 4))).toArray⟩
      rw [ByteArray.mk_append_mk, ByteArray.mk_append_mk]; simp
    obtain ⟨PR, hPR⟩ : ∃ PR, Ret (.string ⟨(putHd ⟨size, re, im, false, false⟩).toArray⟩) w = PR := ⟨_, rfl⟩
    generalize fld re 4 ++ fld im 4 = tg at *
    have hfin : Hid (∀ w', Upd Non w w' → PR (.returned (.string ((⟨(fld 0 1).toArray⟩ : ByteArray) ++ ⟨(fld size 2).toArray⟩ ++ ⟨tg.toArray⟩))) w') := Lib.hid (fun w' hu => by rw [← hPR]; exact ⟨congrArg _ hj, hu⟩)
    rw [hPR]
    have hu0 : Upd Non w (w.alloc (.cells #[.int .i64 size, .int .i64 re, .int .i64 im, .bool false, .bool false] 27)).drew := (Upd.alloc Non w _).then_drew
    clear hst hPR hj
    unfold hdV
    dsimp only
    go_enter Tryz.func65, Tryz.ntmps65
    go_wp2_with fail
    refine wp_region_held_drew (S := (fun w' => w'.cell? ⟨w.heap.size, 0, none⟩ = some (.int .i64 size) ∧ w'.cell? ⟨w.heap.size, 1, none⟩ = some (.int .i64 re) ∧ w'.cell? ⟨w.heap.size, 2, none⟩ = some (.int .i64 im))) (by kernel_rfl) (by (try dsimp only); exact ⟨d0, d1, d2⟩) (fun hHeld => ?_)
    (refine wpAnyH_take (i := 0) (oi := ?oi_2_0) (v := ?v_2_0) ?ho_2_0 ?hs_2_0 ?hf_2_0 ?hr_2_0 ?hQ_2_0 ?hy_2_0 ?hS_2_0 ?rest_2_0; (case hr_2_0 => kernel_rfl); (case hf_2_0 => kernel_rfl); (case hs_2_0 => kernel_rfl); (case ho_2_0 => (simp only [List.getElem?_toArray, List.getElem?_cons_succ, List.getElem?_cons_zero]; rfl)); (case hS_2_0 => assumption); (case hQ_2_0 => exact fun _ _ _ h => h); (case hy_2_0 => (refine Or.inl ⟨by rfl, ?_⟩; (intro w hSw; (try dsimp only at hSw); go_simp) <;> with_reducible rfl)); (try simp only [Act.put, List.setIfInBounds_toArray, List.set_cons_zero, List.set_cons_succ]))
    (refine wpAnyH_take (i := 2) (oi := ?oi_2_2) (v := ?v_2_2) ?ho_2_2 ?hs_2_2 ?hf_2_2 ?hr_2_2 ?hQ_2_2 ?hy_2_2 ?hS_2_2 ?rest_2_2; (case hr_2_2 => kernel_rfl); (case hf_2_2 => kernel_rfl); (case hs_2_2 => kernel_rfl); (case ho_2_2 => (simp only [List.getElem?_toArray, List.getElem?_cons_succ, List.getElem?_cons_zero]; rfl)); (case hS_2_2 => assumption); (case hQ_2_2 => exact fun _ _ _ h => h); (case hy_2_2 => (refine Or.inl ⟨by rfl, ?_⟩; (intro w hSw; (try dsimp only at hSw); go_simp) <;> with_reducible rfl)); (try simp only [Act.put, List.setIfInBounds_toArray, List.set_cons_zero, List.set_cons_succ]))
    (refine wpAnyH_take (i := 3) (oi := ?oi_2_3) (v := ?v_2_3) ?ho_2_3 ?hs_2_3 ?hf_2_3 ?hr_2_3 ?hQ_2_3 ?hy_2_3 ?hS_2_3 ?rest_2_3; (case hr_2_3 => kernel_rfl); (case hf_2_3 => kernel_rfl); (case hs_2_3 => kernel_rfl); (case ho_2_3 => (simp only [List.getElem?_toArray, List.getElem?_cons_succ, List.getElem?_cons_zero]; rfl)); (case hS_2_3 => assumption); (case hQ_2_3 => exact fun _ _ _ h => h); (case hy_2_3 => (refine Or.inl ⟨by rfl, ?_⟩; (intro w hSw; (try dsimp only at hSw); go_simp) <;> with_reducible rfl)); (try simp only [Act.put, List.setIfInBounds_toArray, List.set_cons_zero, List.set_cons_succ]))
    (refine wpAnyH_take (i := 6) (oi := ?oi_2_6) (v := ?v_2_6) ?ho_2_6 ?hs_2_6 ?hf_2_6 ?hr_2_6 ?hQ_2_6 ?hy_2_6 ?hS_2_6 ?rest_2_6; (case hr_2_6 => kernel_rfl); (case hf_2_6 => kernel_rfl); (case hs_2_6 => kernel_rfl); (case ho_2_6 => (simp only [List.getElem?_toArray, List.getElem?_cons_succ, List.getElem?_cons_zero]; rfl)); (case hS_2_6 => assumption); (case hQ_2_6 => exact fun _ _ _ h => h); (case hy_2_6 => (refine Or.inl ⟨by rfl, ?_⟩; (intro w hSw; (try dsimp only at hSw); go_simp) <;> with_reducible rfl)); (try simp only [Act.put, List.setIfInBounds_toArray, List.set_cons_zero, List.set_cons_succ]))
    (refine wpAnyH_take (i := 7) (oi := ?oi_2_7) (v := ?v_2_7) ?ho_2_7 ?hs_2_7 ?hf_2_7 ?hr_2_7 ?hQ_2_7 ?hy_2_7 ?hS_2_7 ?rest_2_7; (case hr_2_7 => kernel_rfl); (case hf_2_7 => kernel_rfl); (case hs_2_7 => kernel_rfl); (case ho_2_7 => (simp only [List.getElem?_toArray, List.getElem?_cons_succ, List.getElem?_cons_zero]; rfl)); (case hS_2_7 => assumption); (case hQ_2_7 => exact fun _ _ _ h => h); (case hy_2_7 => (refine Or.inl ⟨by rfl, ?_⟩; (intro w hSw; (try dsimp only at hSw); go_simp) <;> with_reducible rfl)); (try simp only [Act.put, List.setIfInBounds_toArray, List.set_cons_zero, List.set_cons_succ]))
    (refine wpAnyH_ready (rs := [1]) (by kernel_rfl) (by simp) ?_; refine AllReadyH.cons (o := ?oo_2_1) ?hoo_2_1 ?hst_2_1 AllReadyH.nil; (case hoo_2_1 => (simp only [List.getElem?_toArray, List.getElem?_cons_succ, List.getElem?_cons_zero]; rfl)); intro K hK; go_simp; ((go_at_call 62; (refine (c0.out _).mono ?_); rintro en w2 ⟨rfl, hu2⟩; have k0 := hu2.cell d0 (fun h => h); have k1 := hu2.cell d1 (fun h => h); have k2 := hu2.cell d2 fun h => h)); (try go_wp2_with fail); refine hK.out _ _ (by (try dsimp only); exact ⟨k0, k1, k2⟩) (fun hHeld => ?_); clear hK K; (try simp only [Act.put, List.setIfInBounds_toArray, List.set_cons_zero, List.set_cons_succ]))
    (refine wpAnyH_ready (rs := [4]) (by kernel_rfl) (by simp) ?_; refine AllReadyH.cons (o := ?oo_2_4) ?hoo_2_4 ?hst_2_4 AllReadyH.nil; (case hoo_2_4 => (simp only [List.getElem?_toArray, List.getElem?_cons_succ, List.getElem?_cons_zero]; rfl)); intro K hK; go_simp; ((go_at_call 62; (refine (c1.out _).mono ?_); rintro en w3 ⟨rfl, hu3⟩; have m0 := hu3.cell k0 (fun h => h); have m1 := hu3.cell k1 (fun h => h); have m2 := hu3.cell k2 fun h => h)); (try go_wp2_with fail); refine hK.out _ _ (by (try dsimp only); exact ⟨m0, m1, m2⟩) (fun hHeld => ?_); clear hK K; (try simp only [Act.put, List.setIfInBounds_toArray, List.set_cons_zero, List.set_cons_succ]))
    (refine wpAnyH_take (i := 5) (oi := ?oi_2_5) (v := ?v_2_5) ?ho_2_5 ?hs_2_5 ?hf_2_5 ?hr_2_5 ?hQ_2_5 ?hy_2_5 ?hS_2_5 ?rest_2_5; (case hr_2_5 => kernel_rfl); (case hf_2_5 => kernel_rfl); (case hs_2_5 => kernel_rfl); (case ho_2_5 => (simp only [List.getElem?_toArray, List.getElem?_cons_succ, List.getElem?_cons_zero]; rfl)); (case hS_2_5 => assumption); (case hQ_2_5 => exact fun _ _ _ h => h); (case hy_2_5 => (refine Or.inl ⟨by rfl, ?_⟩; (intro w hSw; (try dsimp only at hSw); go_simp) <;> with_reducible rfl)); (try simp only [Act.put, List.setIfInBounds_toArray, List.set_cons_zero, List.set_cons_succ]))
    (refine wpAnyH_ready (rs := [8]) (by kernel_rfl) (by simp) ?_; refine AllReadyH.cons (o := ?oo_2_8) ?hoo_2_8 ?hst_2_8 AllReadyH.nil; (case hoo_2_8 => (simp only [List.getElem?_toArray, List.getElem?_cons_succ, List.getElem?_cons_zero]; rfl)); intro K hK; go_simp; ((go_at_call 64; (refine (c2.out _).mono ?_); rintro en w4 ⟨rfl, hu4⟩; have n0 := hu4.cell m0 (fun h => h); have n1 := hu4.cell m1 (fun h => h); have n2 := hu4.cell m2 fun h => h)); (try go_wp2_with fail); refine hK.out _ _ (by (try dsimp only); exact ⟨n0, n1, n2⟩) (fun hHeld => ?_); clear hK K; (try simp only [Act.put, List.setIfInBounds_toArray, List.set_cons_zero, List.set_cons_succ]))
    (refine wpAnyH_take (i := 9) (oi := ?oi_2_9) (v := ?v_2_9) ?ho_2_9 ?hs_2_9 ?hf_2_9 ?hr_2_9 ?hQ_2_9 ?hy_2_9 ?hS_2_9 ?rest_2_9; (case hr_2_9 => kernel_rfl); (case hf_2_9 => kernel_rfl); (case hs_2_9 => kernel_rfl); (case ho_2_9 => (simp only [List.getElem?_toArray, List.getElem?_cons_succ, List.getElem?_cons_zero]; rfl)); (case hS_2_9 => assumption); (case hQ_2_9 => exact fun _ _ _ h => h); (case hy_2_9 => (refine Or.inl ⟨by rfl, ?_⟩; (intro w hSw; (try dsimp only at hSw); go_simp) <;> with_reducible rfl)); (try simp only [Act.put, List.setIfInBounds_toArray, List.set_cons_zero, List.set_cons_succ]))
    (refine wpAnyH_take (i := 10) (oi := ?oi_2_10) (v := ?v_2_10) ?ho_2_10 ?hs_2_10 ?hf_2_10 ?hr_2_10 ?hQ_2_10 ?hy_2_10 ?hS_2_10 ?rest_2_10; (case hr_2_10 => kernel_rfl); (case hf_2_10 => kernel_rfl); (case hs_2_10 => kernel_rfl); (case ho_2_10 => (simp only [List.getElem?_toArray, List.getElem?_cons_succ, List.getElem?_cons_zero]; rfl)); (case hS_2_10 => assumption); (case hQ_2_10 => exact fun _ _ _ h => h); (case hy_2_10 => (refine Or.inl ⟨by rfl, ?_⟩; (intro w hSw; (try dsimp only at hSw); go_simp) <;> with_reducible rfl)); (try simp only [Act.put, List.setIfInBounds_toArray, List.set_cons_zero, List.set_cons_succ]))
    refine wpAnyH_done (by kernel_rfl) ?_ _
    have hg := Lib.hid (hfin.out _ (((hu0.trans hu2 fun _ _ h => h).trans hu3 fun _ _ h => h).trans hu4 fun _ _ h => h))
    clear hfin hu0 hu2 hu3 hu4
    go_wp2_with fail
    exact hg.out
  · have hst := cells_of ((Upd.drew Non _).heap (heap_alloc_new w (.cells #[.int .i64 size, .int .i64 re, .int .i64 im, .bool false, .bool true] 27)) fun h => h)
    have d0 := hst.1 0
    have d1 := hst.1 1
    have d2 := hst.1 2
    have c0 := Lib.hid (show ∀ w, Calls Tryz.prog 62 #[.int .i64 2, .int .i64 1] w (Ret (.string ⟨(fld 2 1).toArray⟩) w) from fld8 2 1 (by omega) (by unfold i64; omega))
    have c1 := Lib.hid (show ∀ w, Calls Tryz.prog 62 #[.int .i64 size, .int .i64 2] w (Ret (.string ⟨(fld size 2).toArray⟩) w) from fld8 size 2 (by omega) h1)
    have c2 := Lib.hid (fun w => rPutTag re im h2 h3 w)
    unfold tagV at c2
    have l1 : (9223372036854775807 < (fld 2 1).length + (fld size 2).length) = False := eq_false (by rw [fld_length, fld_length]; omega)
    have l2 : (9223372036854775807 < (fld 2 1).length + (fld size 2).length + (fld re 4 ++ fld im 4).length) = False := eq_false (by rw [List.length_append, fld_length, fld_length, fld_length, fld_length]; omega)
    have hj : Value.string ((⟨(fld 2 1).toArray⟩ : ByteArray) ++ ⟨(fld size 2).toArray⟩ ++ ⟨(fld re 4 ++ fld im 4).toArray⟩) = .string ⟨(putHd ⟨size, re, im, false, true⟩).toArray⟩ := by
      show _ = Value.string ⟨(fld 2 1 ++ (fld size 2 ++ (fld re 4 ++ fld im 4))).toArray⟩
      rw [ByteArray.mk_append_mk, ByteArray.mk_append_mk]; simp
    obtain ⟨PR, hPR⟩ : ∃ PR, Ret (.string ⟨(putHd ⟨size, re, im, false, true⟩).toArray⟩) w = PR := ⟨_, rfl⟩
    generalize fld re 4 ++ fld im 4 = tg at *
    have hfin : Hid (∀ w', Upd Non w w' → PR (.returned (.string ((⟨(fld 2 1).toArray⟩ : ByteArray) ++ ⟨(fld size 2).toArray⟩ ++ ⟨tg.toArray⟩))) w') := Lib.hid (fun w' hu => by rw [← hPR]; exact ⟨congrArg _ hj, hu⟩)
    rw [hPR]
    have hu0 : Upd Non w (w.alloc (.cells #[.int .i64 size, .int .i64 re, .int .i64 im, .bool false, .bool true] 27)).drew := (Upd.alloc Non w _).then_drew
    clear hst hPR hj
    unfold hdV
    dsimp only
    go_enter Tryz.func65, Tryz.ntmps65
    go_wp2_with fail
    refine wp_region_held_drew (S := (fun w' => w'.cell? ⟨w.heap.size, 0, none⟩ = some (.int .i64 size) ∧ w'.cell? ⟨w.heap.size, 1, none⟩ = some (.int .i64 re) ∧ w'.cell? ⟨w.heap.size, 2, none⟩ = some (.int .i64 im))) (by kernel_rfl) (by (try dsimp only); exact ⟨d0, d1, d2⟩) (fun hHeld => ?_)
    (refine wpAnyH_take (i := 0) (oi := ?oi_3_0) (v := ?v_3_0) ?ho_3_0 ?hs_3_0 ?hf_3_0 ?hr_3_0 ?hQ_3_0 ?hy_3_0 ?hS_3_0 ?rest_3_0; (case hr_3_0 => kernel_rfl); (case hf_3_0 => kernel_rfl); (case hs_3_0 => kernel_rfl); (case ho_3_0 => (simp only [List.getElem?_toArray, List.getElem?_cons_succ, List.getElem?_cons_zero]; rfl)); (case hS_3_0 => assumption); (case hQ_3_0 => exact fun _ _ _ h => h); (case hy_3_0 => (refine Or.inl ⟨by rfl, ?_⟩; (intro w hSw; (try dsimp only at hSw); go_simp) <;> with_reducible rfl)); (try simp only [Act.put, List.setIfInBounds_toArray, List.set_cons_zero, List.set_cons_succ]))
    (refine wpAnyH_take (i := 2) (oi := ?oi_3_2) (v := ?v_3_2) ?ho_3_2 ?hs_3_2 ?hf_3_2 ?hr_3_2 ?hQ_3_2 ?hy_3_2 ?hS_3_2 ?rest_3_2; (case hr_3_2 => kernel_rfl); (case hf_3_2 => kernel_rfl); (case hs_3_2 => kernel_rfl); (case ho_3_2 => (simp only [List.getElem?_toArray, List.getElem?_cons_succ, List.getElem?_cons_zero]; rfl)); (case hS_3_2 => assumption); (case hQ_3_2 => exact fun _ _ _ h => h); (case hy_3_2 => (refine Or.inl ⟨by rfl, ?_⟩; (intro w hSw; (try dsimp only at hSw); go_simp) <;> with_reducible rfl)); (try simp only [Act.put, List.setIfInBounds_toArray, List.set_cons_zero, List.set_cons_succ]))
    (refine wpAnyH_take (i := 3) (oi := ?oi_3_3) (v := ?v_3_3) ?ho_3_3 ?hs_3_3 ?hf_3_3 ?hr_3_3 ?hQ_3_3 ?hy_3_3 ?hS_3_3 ?rest_3_3; (case hr_3_3 => kernel_rfl); (case hf_3_3 => kernel_rfl); (case hs_3_3 => kernel_rfl); (case ho_3_3 => (simp only [List.getElem?_toArray, List.getElem?_cons_succ, List.getElem?_cons_zero]; rfl)); (case hS_3_3 => assumption); (case hQ_3_3 => exact fun _ _ _ h => h); (case hy_3_3 => (refine Or.inl ⟨by rfl, ?_⟩; (intro w hSw; (try dsimp only at hSw); go_simp) <;> with_reducible rfl)); (try simp only [Act.put, List.setIfInBounds_toArray, List.set_cons_zero, List.set_cons_succ]))
    (refine wpAnyH_take (i := 6) (oi := ?oi_3_6) (v := ?v_3_6) ?ho_3_6 ?hs_3_6 ?hf_3_6 ?hr_3_6 ?hQ_3_6 ?hy_3_6 ?hS_3_6 ?rest_3_6; (case hr_3_6 => kernel_rfl); (case hf_3_6 => kernel_rfl); (case hs_3_6 => kernel_rfl); (case ho_3_6 => (simp only [List.getElem?_toArray, List.getElem?_cons_succ, List.getElem?_cons_zero]; rfl)); (case hS_3_6 => assumption); (case hQ_3_6 => exact fun _ _ _ h => h); (case hy_3_6 => (refine Or.inl ⟨by rfl, ?_⟩; (intro w hSw; (try dsimp only at hSw); go_simp) <;> with_reducible rfl)); (try simp only [Act.put, List.setIfInBounds_toArray, List.set_cons_zero, List.set_cons_succ]))
    (refine wpAnyH_take (i := 7) (oi := ?oi_3_7) (v := ?v_3_7) ?ho_3_7 ?hs_3_7 ?hf_3_7 ?hr_3_7 ?hQ_3_7 ?hy_3_7 ?hS_3_7 ?rest_3_7; (case hr_3_7 => kernel_rfl); (case hf_3_7 => kernel_rfl); (case hs_3_7 => kernel_rfl); (case ho_3_7 => (simp only [List.getElem?_toArray, List.getElem?_cons_succ, List.getElem?_cons_zero]; rfl)); (case hS_3_7 => assumption); (case hQ_3_7 => exact fun _ _ _ h => h); (case hy_3_7 => (refine Or.inl ⟨by rfl, ?_⟩; (intro w hSw; (try dsimp only at hSw); go_simp) <;> with_reducible rfl)); (try simp only [Act.put, List.setIfInBounds_toArray, List.set_cons_zero, List.set_cons_succ]))
    (refine wpAnyH_ready (rs := [1]) (by kernel_rfl) (by simp) ?_; refine AllReadyH.cons (o := ?oo_3_1) ?hoo_3_1 ?hst_3_1 AllReadyH.nil; (case hoo_3_1 => (simp only [List.getElem?_toArray, List.getElem?_cons_succ, List.getElem?_cons_zero]; rfl)); intro K hK; go_simp; ((go_at_call 62; (refine (c0.out _).mono ?_); rintro en w2 ⟨rfl, hu2⟩; have k0 := hu2.cell d0 (fun h => h); have k1 := hu2.cell d1 (fun h => h); have k2 := hu2.cell d2 fun h => h)); (try go_wp2_with fail); refine hK.out _ _ (by (try dsimp only); exact ⟨k0, k1, k2⟩) (fun hHeld => ?_); clear hK K; (try simp only [Act.put, List.setIfInBounds_toArray, List.set_cons_zero, List.set_cons_succ]))
    (refine wpAnyH_ready (rs := [4]) (by kernel_rfl) (by simp) ?_; refine AllReadyH.cons (o := ?oo_3_4) ?hoo_3_4 ?hst_3_4 AllReadyH.nil; (case hoo_3_4 => (simp only [List.getElem?_toArray, List.getElem?_cons_succ, List.getElem?_cons_zero]; rfl)); intro K hK; go_simp; ((go_at_call 62; (refine (c1.out _).mono ?_); rintro en w3 ⟨rfl, hu3⟩; have m0 := hu3.cell k0 (fun h => h); have m1 := hu3.cell k1 (fun h => h); have m2 := hu3.cell k2 fun h => h)); (try go_wp2_with fail); refine hK.out _ _ (by (try dsimp only); exact ⟨m0, m1, m2⟩) (fun hHeld => ?_); clear hK K; (try simp only [Act.put, List.setIfInBounds_toArray, List.set_cons_zero, List.set_cons_succ]))
    (refine wpAnyH_take (i := 5) (oi := ?oi_3_5) (v := ?v_3_5) ?ho_3_5 ?hs_3_5 ?hf_3_5 ?hr_3_5 ?hQ_3_5 ?hy_3_5 ?hS_3_5 ?rest_3_5; (case hr_3_5 => kernel_rfl); (case hf_3_5 => kernel_rfl); (case hs_3_5 => kernel_rfl); (case ho_3_5 => (simp only [List.getElem?_toArray, List.getElem?_cons_succ, List.getElem?_cons_zero]; rfl)); (case hS_3_5 => assumption); (case hQ_3_5 => exact fun _ _ _ h => h); (case hy_3_5 => (refine Or.inl ⟨by rfl, ?_⟩; (intro w hSw; (try dsimp only at hSw); go_simp) <;> with_reducible rfl)); (try simp only [Act.put, List.setIfInBounds_toArray, List.set_cons_zero, List.set_cons_succ]))
    (refine wpAnyH_ready (rs := [8]) (by kernel_rfl) (by simp) ?_; refine AllReadyH.cons (o := ?oo_3_8) ?hoo_3_8 ?hst_3_8 AllReadyH.nil; (case hoo_3_8 => (simp only [List.getElem?_toArray, List.getElem?_cons_succ, List.getElem?_cons_zero]; rfl)); intro K hK; go_simp; ((go_at_call 64; (refine (c2.out _).mono ?_); rintro en w4 ⟨rfl, hu4⟩; have n0 := hu4.cell m0 (fun h => h); have n1 := hu4.cell m1 (fun h => h); have n2 := hu4.cell m2 fun h => h)); (try go_wp2_with fail); refine hK.out _ _ (by (try dsimp only); exact ⟨n0, n1, n2⟩) (fun hHeld => ?_); clear hK K; (try simp only [Act.put, List.setIfInBounds_toArray, List.set_cons_zero, List.set_cons_succ]))
    (refine wpAnyH_take (i := 9) (oi := ?oi_3_9) (v := ?v_3_9) ?ho_3_9 ?hs_3_9 ?hf_3_9 ?hr_3_9 ?hQ_3_9 ?hy_3_9 ?hS_3_9 ?rest_3_9; (case hr_3_9 => kernel_rfl); (case hf_3_9 => kernel_rfl); (case hs_3_9 => kernel_rfl); (case ho_3_9 => (simp only [List.getElem?_toArray, List.getElem?_cons_succ, List.getElem?_cons_zero]; rfl)); (case hS_3_9 => assumption); (case hQ_3_9 => exact fun _ _ _ h => h); (case hy_3_9 => (refine Or.inl ⟨by rfl, ?_⟩; (intro w hSw; (try dsimp only at hSw); go_simp) <;> with_reducible rfl)); (try simp only [Act.put, List.setIfInBounds_toArray, List.set_cons_zero, List.set_cons_succ]))
    (refine wpAnyH_take (i := 10) (oi := ?oi_3_10) (v := ?v_3_10) ?ho_3_10 ?hs_3_10 ?hf_3_10 ?hr_3_10 ?hQ_3_10 ?hy_3_10 ?hS_3_10 ?rest_3_10; (case hr_3_10 => kernel_rfl); (case hf_3_10 => kernel_rfl); (case hs_3_10 => kernel_rfl); (case ho_3_10 => (simp only [List.getElem?_toArray, List.getElem?_cons_succ, List.getElem?_cons_zero]; rfl)); (case hS_3_10 => assumption); (case hQ_3_10 => exact fun _ _ _ h => h); (case hy_3_10 => (refine Or.inl ⟨by rfl, ?_⟩; (intro w hSw; (try dsimp only at hSw); go_simp) <;> with_reducible rfl)); (try simp only [Act.put, List.setIfInBounds_toArray, List.set_cons_zero, List.set_cons_succ]))
    refine wpAnyH_done (by kernel_rfl) ?_ _
    have hg := Lib.hid (hfin.out _ (((hu0.trans hu2 fun _ _ h => h).trans hu3 fun _ _ h => h).trans hu4 fun _ _ h => h))
    clear hfin hu0 hu2 hu3 hu4
    go_wp2_with fail
    exact hg.out
  · have hst := cells_of ((Upd.drew Non _).heap (heap_alloc_new w (.cells #[.int .i64 size, .int .i64 re, .int .i64 im, .bool true, .bool false] 27)) fun h => h)
    have d0 := hst.1 0
    have d1 := hst.1 1
    have d2 := hst.1 2
    have c0 := Lib.hid (show ∀ w, Calls Tryz.prog 62 #[.int .i64 1, .int .i64 1] w (Ret (.string ⟨(fld 1 1).toArray⟩) w) from fld8 1 1 (by omega) (by unfold i64; omega))
    have c1 := Lib.hid (show ∀ w, Calls Tryz.prog 62 #[.int .i64 size, .int .i64 2] w (Ret (.string ⟨(fld size 2).toArray⟩) w) from fld8 size 2 (by omega) h1)
    have c2 := Lib.hid (fun w => rPutTag re im h2 h3 w)
    unfold tagV at c2
    have l1 : (9223372036854775807 < (fld 1 1).length + (fld size 2).length) = False := eq_false (by rw [fld_length, fld_length]; omega)
    have l2 : (9223372036854775807 < (fld 1 1).length + (fld size 2).length + (fld re 4 ++ fld im 4).length) = False := eq_false (by rw [List.length_append, fld_length, fld_length, fld_length, fld_length]; omega)
    have hj : Value.string ((⟨(fld 1 1).toArray⟩ : ByteArray) ++ ⟨(fld size 2).toArray⟩ ++ ⟨(fld re 4 ++ fld im 4).toArray⟩) = .string ⟨(putHd ⟨size, re, im, true, false⟩).toArray⟩ := by
      show _ = Value.string ⟨(fld 1 1 ++ (fld size 2 ++ (fld re 4 ++ fld im 4))).toArray⟩
      rw [ByteArray.mk_append_mk, ByteArray.mk_append_mk]; simp
    obtain ⟨PR, hPR⟩ : ∃ PR, Ret (.string ⟨(putHd ⟨size, re, im, true, false⟩).toArray⟩) w = PR := ⟨_, rfl⟩
    generalize fld re 4 ++ fld im 4 = tg at *
    have hfin : Hid (∀ w', Upd Non w w' → PR (.returned (.string ((⟨(fld 1 1).toArray⟩ : ByteArray) ++ ⟨(fld size 2).toArray⟩ ++ ⟨tg.toArray⟩))) w') := Lib.hid (fun w' hu => by rw [← hPR]; exact ⟨congrArg _ hj, hu⟩)
    rw [hPR]
    have hu0 : Upd Non w (w.alloc (.cells #[.int .i64 size, .int .i64 re, .int .i64 im, .bool true, .bool false] 27)).drew := (Upd.alloc Non w _).then_drew
    clear hst hPR hj
    unfold hdV
    dsimp only
    go_enter Tryz.func65, Tryz.ntmps65
    go_wp2_with fail
    refine wp_region_held_drew (S := (fun w' => w'.cell? ⟨w.heap.size, 0, none⟩ = some (.int .i64 size) ∧ w'.cell? ⟨w.heap.size, 1, none⟩ = some (.int .i64 re) ∧ w'.cell? ⟨w.heap.size, 2, none⟩ = some (.int .i64 im))) (by kernel_rfl) (by (try dsimp only); exact ⟨d0, d1, d2⟩) (fun hHeld => ?_)
    (refine wpAnyH_take (i := 0) (oi := ?oi_4_0) (v := ?v_4_0) ?ho_4_0 ?hs_4_0 ?hf_4_0 ?hr_4_0 ?hQ_4_0 ?hy_4_0 ?hS_4_0 ?rest_4_0; (case hr_4_0 => kernel_rfl); (case hf_4_0 => kernel_rfl); (case hs_4_0 => kernel_rfl); (case ho_4_0 => (simp only [List.getElem?_toArray, List.getElem?_cons_succ, List.getElem?_cons_zero]; rfl)); (case hS_4_0 => assumption); (case hQ_4_0 => exact fun _ _ _ h => h); (case hy_4_0 => (refine Or.inl ⟨by rfl, ?_⟩; (intro w hSw; (try dsimp only at hSw); go_simp) <;> with_reducible rfl)); (try simp only [Act.put, List.setIfInBounds_toArray, List.set_cons_zero, List.set_cons_succ]))
    (refine wpAnyH_take (i := 2) (oi := ?oi_4_2) (v := ?v_4_2) ?ho_4_2 ?hs_4_2 ?hf_4_2 ?hr_4_2 ?hQ_4_2 ?hy_4_2 ?hS_4_2 ?rest_4_2; (case hr_4_2 => kernel_rfl); (case hf_4_2 => kernel_rfl); (case hs_4_2 => kernel_rfl); (case ho_4_2 => (simp only [List.getElem?_toArray, List.getElem?_cons_succ, List.getElem?_cons_zero]; rfl)); (case hS_4_2 => assumption); (case hQ_4_2 => exact fun _ _ _ h => h); (case hy_4_2 => (refine Or.inl ⟨by rfl, ?_⟩; (intro w hSw; (try dsimp only at hSw); go_simp) <;> with_reducible rfl)); (try simp only [Act.put, List.setIfInBounds_toArray, List.set_cons_zero, List.set_cons_succ]))
    (refine wpAnyH_take (i := 3) (oi := ?oi_4_3) (v := ?v_4_3) ?ho_4_3 ?hs_4_3 ?hf_4_3 ?hr_4_3 ?hQ_4_3 ?hy_4_3 ?hS_4_3 ?rest_4_3; (case hr_4_3 => kernel_rfl); (case hf_4_3 => kernel_rfl); (case hs_4_3 => kernel_rfl); (case ho_4_3 => (simp only [List.getElem?_toArray, List.getElem?_cons_succ, List.getElem?_cons_zero]; rfl)); (case hS_4_3 => assumption); (case hQ_4_3 => exact fun _ _ _ h => h); (case hy_4_3 => (refine Or.inl ⟨by rfl, ?_⟩; (intro w hSw; (try dsimp only at hSw); go_simp) <;> with_reducible rfl)); (try simp only [Act.put, List.setIfInBounds_toArray, List.set_cons_zero, List.set_cons_succ]))
    (refine wpAnyH_take (i := 6) (oi := ?oi_4_6) (v := ?v_4_6) ?ho_4_6 ?hs_4_6 ?hf_4_6 ?hr_4_6 ?hQ_4_6 ?hy_4_6 ?hS_4_6 ?rest_4_6; (case hr_4_6 => kernel_rfl); (case hf_4_6 => kernel_rfl); (case hs_4_6 => kernel_rfl); (case ho_4_6 => (simp only [List.getElem?_toArray, List.getElem?_cons_succ, List.getElem?_cons_zero]; rfl)); (case hS_4_6 => assumption); (case hQ_4_6 => exact fun _ _ _ h => h); (case hy_4_6 => (refine Or.inl ⟨by rfl, ?_⟩; (intro w hSw; (try dsimp only at hSw); go_simp) <;> with_reducible rfl)); (try simp only [Act.put, List.setIfInBounds_toArray, List.set_cons_zero, List.set_cons_succ]))
    (refine wpAnyH_take (i := 7) (oi := ?oi_4_7) (v := ?v_4_7) ?ho_4_7 ?hs_4_7 ?hf_4_7 ?hr_4_7 ?hQ_4_7 ?hy_4_7 ?hS_4_7 ?rest_4_7; (case hr_4_7 => kernel_rfl); (case hf_4_7 => kernel_rfl); (case hs_4_7 => kernel_rfl); (case ho_4_7 => (simp only [List.getElem?_toArray, List.getElem?_cons_succ, List.getElem?_cons_zero]; rfl)); (case hS_4_7 => assumption); (case hQ_4_7 => exact fun _ _ _ h => h); (case hy_4_7 => (refine Or.inl ⟨by rfl, ?_⟩; (intro w hSw; (try dsimp only at hSw); go_simp) <;> with_reducible rfl)); (try simp only [Act.put, List.setIfInBounds_toArray, List.set_cons_zero, List.set_cons_succ]))
    (refine wpAnyH_ready (rs := [1]) (by kernel_rfl) (by simp) ?_; refine AllReadyH.cons (o := ?oo_4_1) ?hoo_4_1 ?hst_4_1 AllReadyH.nil; (case hoo_4_1 => (simp only [List.getElem?_toArray, List.getElem?_cons_succ, List.getElem?_cons_zero]; rfl)); intro K hK; go_simp; ((go_at_call 62; (refine (c0.out _).mono ?_); rintro en w2 ⟨rfl, hu2⟩; have k0 := hu2.cell d0 (fun h => h); have k1 := hu2.cell d1 (fun h => h); have k2 := hu2.cell d2 fun h => h)); (try go_wp2_with fail); refine hK.out _ _ (by (try dsimp only); exact ⟨k0, k1, k2⟩) (fun hHeld => ?_); clear hK K; (try simp only [Act.put, List.setIfInBounds_toArray, List.set_cons_zero, List.set_cons_succ]))
    (refine wpAnyH_ready (rs := [4]) (by kernel_rfl) (by simp) ?_; refine AllReadyH.cons (o := ?oo_4_4) ?hoo_4_4 ?hst_4_4 AllReadyH.nil; (case hoo_4_4 => (simp only [List.getElem?_toArray, List.getElem?_cons_succ, List.getElem?_cons_zero]; rfl)); intro K hK; go_simp; ((go_at_call 62; (refine (c1.out _).mono ?_); rintro en w3 ⟨rfl, hu3⟩; have m0 := hu3.cell k0 (fun h => h); have m1 := hu3.cell k1 (fun h => h); have m2 := hu3.cell k2 fun h => h)); (try go_wp2_with fail); refine hK.out _ _ (by (try dsimp only); exact ⟨m0, m1, m2⟩) (fun hHeld => ?_); clear hK K; (try simp only [Act.put, List.setIfInBounds_toArray, List.set_cons_zero, List.set_cons_succ]))
    (refine wpAnyH_take (i := 5) (oi := ?oi_4_5) (v := ?v_4_5) ?ho_4_5 ?hs_4_5 ?hf_4_5 ?hr_4_5 ?hQ_4_5 ?hy_4_5 ?hS_4_5 ?rest_4_5; (case hr_4_5 => kernel_rfl); (case hf_4_5 => kernel_rfl); (case hs_4_5 => kernel_rfl); (case ho_4_5 => (simp only [List.getElem?_toArray, List.getElem?_cons_succ, List.getElem?_cons_zero]; rfl)); (case hS_4_5 => assumption); (case hQ_4_5 => exact fun _ _ _ h => h); (case hy_4_5 => (refine Or.inl ⟨by rfl, ?_⟩; (intro w hSw; (try dsimp only at hSw); go_simp) <;> with_reducible rfl)); (try simp only [Act.put, List.setIfInBounds_toArray, List.set_cons_zero, List.set_cons_succ]))
    (refine wpAnyH_ready (rs := [8]) (by kernel_rfl) (by simp) ?_; refine AllReadyH.cons (o := ?oo_4_8) ?hoo_4_8 ?hst_4_8 AllReadyH.nil; (case hoo_4_8 => (simp only [List.getElem?_toArray, List.getElem?_cons_succ, List.getElem?_cons_zero]; rfl)); intro K hK; go_simp; ((go_at_call 64; (refine (c2.out _).mono ?_); rintro en w4 ⟨rfl, hu4⟩; have n0 := hu4.cell m0 (fun h => h); have n1 := hu4.cell m1 (fun h => h); have n2 := hu4.cell m2 fun h => h)); (try go_wp2_with fail); refine hK.out _ _ (by (try dsimp only); exact ⟨n0, n1, n2⟩) (fun hHeld => ?_); clear hK K; (try simp only [Act.put, List.setIfInBounds_toArray, List.set_cons_zero, List.set_cons_succ]))
    (refine wpAnyH_take (i := 9) (oi := ?oi_4_9) (v := ?v_4_9) ?ho_4_9 ?hs_4_9 ?hf_4_9 ?hr_4_9 ?hQ_4_9 ?hy_4_9 ?hS_4_9 ?rest_4_9; (case hr_4_9 => kernel_rfl); (case hf_4_9 => kernel_rfl); (case hs_4_9 => kernel_rfl); (case ho_4_9 => (simp only [List.getElem?_toArray, List.getElem?_cons_succ, List.getElem?_cons_zero]; rfl)); (case hS_4_9 => assumption); (case hQ_4_9 => exact fun _ _ _ h => h); (case hy_4_9 => (refine Or.inl ⟨by rfl, ?_⟩; (intro w hSw; (try dsimp only at hSw); go_simp) <;> with_reducible rfl)); (try simp only [Act.put, List.setIfInBounds_toArray, List.set_cons_zero, List.set_cons_succ]))
    (refine wpAnyH_take (i := 10) (oi := ?oi_4_10) (v := ?v_4_10) ?ho_4_10 ?hs_4_10 ?hf_4_10 ?hr_4_10 ?hQ_4_10 ?hy_4_10 ?hS_4_10 ?rest_4_10; (case hr_4_10 => kernel_rfl); (case hf_4_10 => kernel_rfl); (case hs_4_10 => kernel_rfl); (case ho_4_10 => (simp only [List.getElem?_toArray, List.getElem?_cons_succ, List.getElem?_cons_zero]; rfl)); (case hS_4_10 => assumption); (case hQ_4_10 => exact fun _ _ _ h => h); (case hy_4_10 => (refine Or.inl ⟨by rfl, ?_⟩; (intro w hSw; (try dsimp only at hSw); go_simp) <;> with_reducible rfl)); (try simp only [Act.put, List.setIfInBounds_toArray, List.set_cons_zero, List.set_cons_succ]))
    refine wpAnyH_done (by kernel_rfl) ?_ _
    have hg := Lib.hid (hfin.out _ (((hu0.trans hu2 fun _ _ h => h).trans hu3 fun _ _ h => h).trans hu4 fun _ _ h => h))
    clear hfin hu0 hu2 hu3 hu4
    go_wp2_with fail
    exact hg.out
  · have hst := cells_of ((Upd.drew Non _).heap (heap_alloc_new w (.cells #[.int .i64 size, .int .i64 re, .int .i64 im, .bool true, .bool true] 27)) fun h => h)
    have d0 := hst.1 0
    have d1 := hst.1 1
    have d2 := hst.1 2
    have c0 := Lib.hid (show ∀ w, Calls Tryz.prog 62 #[.int .i64 3, .int .i64 1] w (Ret (.string ⟨(fld 3 1).toArray⟩) w) from fld8 3 1 (by omega) (by unfold i64; omega))
    have c1 := Lib.hid (show ∀ w, Calls Tryz.prog 62 #[.int .i64 size, .int .i64 2] w (Ret (.string ⟨(fld size 2).toArray⟩) w) from fld8 size 2 (by omega) h1)
    have c2 := Lib.hid (fun w => rPutTag re im h2 h3 w)
    unfold tagV at c2
    have l1 : (9223372036854775807 < (fld 3 1).length + (fld size 2).length) = False := eq_false (by rw [fld_length, fld_length]; omega)
    have l2 : (9223372036854775807 < (fld 3 1).length + (fld size 2).length + (fld re 4 ++ fld im 4).length) = False := eq_false (by rw [List.length_append, fld_length, fld_length, fld_length, fld_length]; omega)
    have hj : Value.string ((⟨(fld 3 1).toArray⟩ : ByteArray) ++ ⟨(fld size 2).toArray⟩ ++ ⟨(fld re 4 ++ fld im 4).toArray⟩) = .string ⟨(putHd ⟨size, re, im, true, true⟩).toArray⟩ := by
      show _ = Value.string ⟨(fld 3 1 ++ (fld size 2 ++ (fld re 4 ++ fld im 4))).toArray⟩
      rw [ByteArray.mk_append_mk, ByteArray.mk_append_mk]; simp
    obtain ⟨PR, hPR⟩ : ∃ PR, Ret (.string ⟨(putHd ⟨size, re, im, true, true⟩).toArray⟩) w = PR := ⟨_, rfl⟩
    generalize fld re 4 ++ fld im 4 = tg at *
    have hfin : Hid (∀ w', Upd Non w w' → PR (.returned (.string ((⟨(fld 3 1).toArray⟩ : ByteArray) ++ ⟨(fld size 2).toArray⟩ ++ ⟨tg.toArray⟩))) w') := Lib.hid (fun w' hu => by rw [← hPR]; exact ⟨congrArg _ hj, hu⟩)
    rw [hPR]
    have hu0 : Upd Non w (w.alloc (.cells #[.int .i64 size, .int .i64 re, .int .i64 im, .bool true, .bool true] 27)).drew := (Upd.alloc Non w _).then_drew
    clear hst hPR hj
    unfold hdV
    dsimp only
    go_enter Tryz.func65, Tryz.ntmps65
    go_wp2_with fail
    refine wp_region_held_drew (S := (fun w' => w'.cell? ⟨w.heap.size, 0, none⟩ = some (.int .i64 size) ∧ w'.cell? ⟨w.heap.size, 1, none⟩ = some (.int .i64 re) ∧ w'.cell? ⟨w.heap.size, 2, none⟩ = some (.int .i64 im))) (by kernel_rfl) (by (try dsimp only); exact ⟨d0, d1, d2⟩) (fun hHeld => ?_)
    (refine wpAnyH_take (i := 0) (oi := ?oi_5_0) (v := ?v_5_0) ?ho_5_0 ?hs_5_0 ?hf_5_0 ?hr_5_0 ?hQ_5_0 ?hy_5_0 ?hS_5_0 ?rest_5_0; (case hr_5_0 => kernel_rfl); (case hf_5_0 => kernel_rfl); (case hs_5_0 => kernel_rfl); (case ho_5_0 => (simp only [List.getElem?_toArray, List.getElem?_cons_succ, List.getElem?_cons_zero]; rfl)); (case hS_5_0 => assumption); (case hQ_5_0 => exact fun _ _ _ h => h); (case hy_5_0 => (refine Or.inl ⟨by rfl, ?_⟩; (intro w hSw; (try dsimp only at hSw); go_simp) <;> with_reducible rfl)); (try simp only [Act.put, List.setIfInBounds_toArray, List.set_cons_zero, List.set_cons_succ]))
    (refine wpAnyH_take (i := 2) (oi := ?oi_5_2) (v := ?v_5_2) ?ho_5_2 ?hs_5_2 ?hf_5_2 ?hr_5_2 ?hQ_5_2 ?hy_5_2 ?hS_5_2 ?rest_5_2; (case hr_5_2 => kernel_rfl); (case hf_5_2 => kernel_rfl); (case hs_5_2 => kernel_rfl); (case ho_5_2 => (simp only [List.getElem?_toArray, List.getElem?_cons_succ, List.getElem?_cons_zero]; rfl)); (case hS_5_2 => assumption); (case hQ_5_2 => exact fun _ _ _ h => h); (case hy_5_2 => (refine Or.inl ⟨by rfl, ?_⟩; (intro w hSw; (try dsimp only at hSw); go_simp) <;> with_reducible rfl)); (try simp only [Act.put, List.setIfInBounds_toArray, List.set_cons_zero, List.set_cons_succ]))
    (refine wpAnyH_take (i := 3) (oi := ?oi_5_3) (v := ?v_5_3) ?ho_5_3 ?hs_5_3 ?hf_5_3 ?hr_5_3 ?hQ_5_3 ?hy_5_3 ?hS_5_3 ?rest_5_3; (case hr_5_3 => kernel_rfl); (case hf_5_3 => kernel_rfl); (case hs_5_3 => kernel_rfl); (case ho_5_3 => (simp only [List.getElem?_toArray, List.getElem?_cons_succ, List.getElem?_cons_zero]; rfl)); (case hS_5_3 => assumption); (case hQ_5_3 => exact fun _ _ _ h => h); (case hy_5_3 => (refine Or.inl ⟨by rfl, ?_⟩; (intro w hSw; (try dsimp only at hSw); go_simp) <;> with_reducible rfl)); (try simp only [Act.put, List.setIfInBounds_toArray, List.set_cons_zero, List.set_cons_succ]))
    (refine wpAnyH_take (i := 6) (oi := ?oi_5_6) (v := ?v_5_6) ?ho_5_6 ?hs_5_6 ?hf_5_6 ?hr_5_6 ?hQ_5_6 ?hy_5_6 ?hS_5_6 ?rest_5_6; (case hr_5_6 => kernel_rfl); (case hf_5_6 => kernel_rfl); (case hs_5_6 => kernel_rfl); (case ho_5_6 => (simp only [List.getElem?_toArray, List.getElem?_cons_succ, List.getElem?_cons_zero]; rfl)); (case hS_5_6 => assumption); (case hQ_5_6 => exact fun _ _ _ h => h); (case hy_5_6 => (refine Or.inl ⟨by rfl, ?_⟩; (intro w hSw; (try dsimp only at hSw); go_simp) <;> with_reducible rfl)); (try simp only [Act.put, List.setIfInBounds_toArray, List.set_cons_zero, List.set_cons_succ]))
    (refine wpAnyH_take (i := 7) (oi := ?oi_5_7) (v := ?v_5_7) ?ho_5_7 ?hs_5_7 ?hf_5_7 ?hr_5_7 ?hQ_5_7 ?hy_5_7 ?hS_5_7 ?rest_5_7; (case hr_5_7 => kernel_rfl); (case hf_5_7 => kernel_rfl); (case hs_5_7 => kernel_rfl); (case ho_5_7 => (simp only [List.getElem?_toArray, List.getElem?_cons_succ, List.getElem?_cons_zero]; rfl)); (case hS_5_7 => assumption); (case hQ_5_7 => exact fun _ _ _ h => h); (case hy_5_7 => (refine Or.inl ⟨by rfl, ?_⟩; (intro w hSw; (try dsimp only at hSw); go_simp) <;> with_reducible rfl)); (try simp only [Act.put, List.setIfInBounds_toArray, List.set_cons_zero, List.set_cons_succ]))
    (refine wpAnyH_ready (rs := [1]) (by kernel_rfl) (by simp) ?_; refine AllReadyH.cons (o := ?oo_5_1) ?hoo_5_1 ?hst_5_1 AllReadyH.nil; (case hoo_5_1 => (simp only [List.getElem?_toArray, List.getElem?_cons_succ, List.getElem?_cons_zero]; rfl)); intro K hK; go_simp; ((go_at_call 62; (refine (c0.out _).mono ?_); rintro en w2 ⟨rfl, hu2⟩; have k0 := hu2.cell d0 (fun h => h); have k1 := hu2.cell d1 (fun h => h); have k2 := hu2.cell d2 fun h => h)); (try go_wp2_with fail); refine hK.out _ _ (by (try dsimp only); exact ⟨k0, k1, k2⟩) (fun hHeld => ?_); clear hK K; (try simp only [Act.put, List.setIfInBounds_toArray, List.set_cons_zero, List.set_cons_succ]))
    (refine wpAnyH_ready (rs := [4]) (by kernel_rfl) (by simp) ?_; refine AllReadyH.cons (o := ?oo_5_4) ?hoo_5_4 ?hst_5_4 AllReadyH.nil; (case hoo_5_4 => (simp only [List.getElem?_toArray, List.getElem?_cons_succ, List.getElem?_cons_zero]; rfl)); intro K hK; go_simp; ((go_at_call 62; (refine (c1.out _).mono ?_); rintro en w3 ⟨rfl, hu3⟩; have m0 := hu3.cell k0 (fun h => h); have m1 := hu3.cell k1 (fun h => h); have m2 := hu3.cell k2 fun h => h)); (try go_wp2_with fail); refine hK.out _ _ (by (try dsimp only); exact ⟨m0, m1, m2⟩) (fun hHeld => ?_); clear hK K; (try simp only [Act.put, List.setIfInBounds_toArray, List.set_cons_zero, List.set_cons_succ]))
    (refine wpAnyH_take (i := 5) (oi := ?oi_5_5) (v := ?v_5_5) ?ho_5_5 ?hs_5_5 ?hf_5_5 ?hr_5_5 ?hQ_5_5 ?hy_5_5 ?hS_5_5 ?rest_5_5; (case hr_5_5 => kernel_rfl); (case hf_5_5 => kernel_rfl); (case hs_5_5 => kernel_rfl); (case ho_5_5 => (simp only [List.getElem?_toArray, List.getElem?_cons_succ, List.getElem?_cons_zero]; rfl)); (case hS_5_5 => assumption); (case hQ_5_5 => exact fun _ _ _ h => h); (case hy_5_5 => (refine Or.inl ⟨by rfl, ?_⟩; (intro w hSw; (try dsimp only at hSw); go_simp) <;> with_reducible rfl)); (try simp only [Act.put, List.setIfInBounds_toArray, List.set_cons_zero, List.set_cons_succ]))
    (refine wpAnyH_ready (rs := [8]) (by kernel_rfl) (by simp) ?_; refine AllReadyH.cons (o := ?oo_5_8) ?hoo_5_8 ?hst_5_8 AllReadyH.nil; (case hoo_5_8 => (simp only [List.getElem?_toArray, List.getElem?_cons_succ, List.getElem?_cons_zero]; rfl)); intro K hK; go_simp; ((go_at_call 64; (refine (c2.out _).mono ?_); rintro en w4 ⟨rfl, hu4⟩; have n0 := hu4.cell m0 (fun h => h); have n1 := hu4.cell m1 (fun h => h); have n2 := hu4.cell m2 fun h => h)); (try go_wp2_with fail); refine hK.out _ _ (by (try dsimp only); exact ⟨n0, n1, n2⟩) (fun hHeld => ?_); clear hK K; (try simp only [Act.put, List.setIfInBounds_toArray, List.set_cons_zero, List.set_cons_succ]))
    (refine wpAnyH_take (i := 9) (oi := ?oi_5_9) (v := ?v_5_9) ?ho_5_9 ?hs_5_9 ?hf_5_9 ?hr_5_9 ?hQ_5_9 ?hy_5_9 ?hS_5_9 ?rest_5_9; (case hr_5_9 => kernel_rfl); (case hf_5_9 => kernel_rfl); (case hs_5_9 => kernel_rfl); (case ho_5_9 => (simp only [List.getElem?_toArray, List.getElem?_cons_succ, List.getElem?_cons_zero]; rfl)); (case hS_5_9 => assumption); (case hQ_5_9 => exact fun _ _ _ h => h); (case hy_5_9 => (refine Or.inl ⟨by rfl, ?_⟩; (intro w hSw; (try dsimp only at hSw); go_simp) <;> with_reducible rfl)); (try simp only [Act.put, List.setIfInBounds_toArray, List.set_cons_zero, List.set_cons_succ]))
    (refine wpAnyH_take (i := 10) (oi := ?oi_5_10) (v := ?v_5_10) ?ho_5_10 ?hs_5_10 ?hf_5_10 ?hr_5_10 ?hQ_5_10 ?hy_5_10 ?hS_5_10 ?rest_5_10; (case hr_5_10 => kernel_rfl); (case hf_5_10 => kernel_rfl); (case hs_5_10 => kernel_rfl); (case ho_5_10 => (simp only [List.getElem?_toArray, List.getElem?_cons_succ, List.getElem?_cons_zero]; rfl)); (case hS_5_10 => assumption); (case hQ_5_10 => exact fun _ _ _ h => h); (case hy_5_10 => (refine Or.inl ⟨by rfl, ?_⟩; (intro w hSw; (try dsimp only at hSw); go_simp) <;> with_reducible rfl)); (try simp only [Act.put, List.setIfInBounds_toArray, List.set_cons_zero, List.set_cons_succ]))
    refine wpAnyH_done (by kernel_rfl) ?_ _
    have hg := Lib.hid (hfin.out _ (((hu0.trans hu2 fun _ _ h => h).trans hu3 fun _ _ h => h).trans hu4 fun _ _ h => h))
    clear hfin hu0 hu2 hu3 hu4
    go_wp2_with fail
    exact hg.out
theorem rHead (h : Hd) (w : World) : Calls Tryz.prog 60 #[hdV h] w (Ret (.bool (decide (hdOk h))) w) := by
  have a2 := Lib.hid (fun w => rTagRight h.re h.im w)
  obtain ⟨r, hrr⟩ : ∃ r, decide (hdOk h) = r := ⟨_, rfl⟩
  rw [hrr]
  have hyes : Hid ((0 ≤ h.size ∧ h.size ≤ 65535) → r = decide (tagOk h.re h.im)) := Lib.hid (fun e => by rw [← hrr]; exact decide_eq_decide.2 ⟨fun h => h.2, fun h => ⟨e, h⟩⟩)
  have hno : Hid (¬ (0 ≤ h.size ∧ h.size ≤ 65535) → r = false) := Lib.hid (fun h => by rw [← hrr]; exact decide_eq_false (fun e => h e.1))
  clear hrr
  generalize decide (tagOk h.re h.im) = t at *
  obtain ⟨size, re, im, gone, null⟩ := h
  unfold hdV
  dsimp only at *
  have hst : BxOf #[.int .i64 size, .int .i64 re, .int .i64 im, .bool gone, .bool null] w (w.alloc (.cells #[.int .i64 size, .int .i64 re, .int .i64 im, .bool gone, .bool null] 27)) := BxOf.start (Upd.refl _ _)
  by_cases h1 : 0 ≤ size
  case neg =>
    obtain rfl : r = false := hno.out (fun e => h1 e.1)
    go_enter Tryz.func60, Tryz.ntmps60
    go_wp2_with fail
    go_ret
    exact ⟨rfl, hst.upd⟩
  by_cases h2 : size ≤ 65535
  case neg =>
    obtain rfl : r = false := hno.out (fun e => h2 e.2)
    go_enter Tryz.func60, Tryz.ntmps60
    go_wp2_with fail
    go_ret
    exact ⟨rfl, hst.upd⟩
  obtain rfl := hyes.out ⟨h1, h2⟩
  unfold tagV at a2
  go_enter Tryz.func60, Tryz.ntmps60
  go_wp2_with fail
  refine (a2.out _).mono ?_
  rintro en w1 ⟨rfl, hu⟩
  have hB := hst.next hu
  clear hu hst a2
  go_wp2_with fail
  go_ret
  exact ⟨rfl, hB.upd⟩
theorem all_snoc {α : Type} {p : α → Prop} {l : List α} (k : Nat) (h : k < l.length) (h0 : ∀ x ∈ l.take k, p x) (h1 : p l[k]) : ∀ x ∈ l.take (k + 1), p x := by
  intro x hx
  rw [List.take_add_one, List.getElem?_eq_getElem h, Option.toList_some, List.mem_append, List.mem_singleton] at hx
  rcases hx with hx | rfl
  · exact h0 x hx
  · exact h1
theorem rTexts (tv : Value) (ts : List (List UInt8)) (w : World) (hT : Txts w tv ts) (hl : ∀ s ∈ ts, s.length ≤ maxLen) : Calls Tryz.prog 61 #[tv] w (Ret (.bool (decide (txOk ts))) w) := by
  obtain ⟨a, c, rfl, hlc, hcm, hx⟩ := has1 hT
  unfold maxLen at hcm hl
  replace hx := Lib.hid (fun k (hk : k < ts.length) => hx k (by rw [List.length_map]; exact hk) hk)
  simp only [List.getElem_map] at hx
  obtain ⟨r, hrr⟩ : ∃ r, decide (txOk ts) = r := ⟨_, rfl⟩
  rw [hrr]
  have hyes : Hid (ts.length ≤ 65535 → (∀ s ∈ ts, s.length ≤ 1048576) → r = true) := Lib.hid (fun h1 h2 => by rw [← hrr]; exact decide_eq_true ⟨h1, h2⟩)
  have hno1 : Hid (¬ ts.length ≤ 65535 → r = false) := Lib.hid (fun h => by rw [← hrr]; exact decide_eq_false (fun e => h e.1))
  have hno2 : Hid (∀ k (hk : k < ts.length), ¬ ts[k].length ≤ 1048576 → r = false) := Lib.hid (fun k hk h => by rw [← hrr]; exact decide_eq_false (fun e => h (e.2 _ (List.getElem_mem hk))))
  have hsn := Lib.hid (fun k h h0 h1 => all_snoc (p := fun s : List UInt8 => s.length ≤ 1048576) (l := ts) k h h0 h1)
  replace hl := Lib.hid hl
  clear hrr hT
  by_cases h1 : ts.length ≤ 65535
  case neg =>
    have h1I : ¬ (ts.length : Int) ≤ 65535 := by omega
    obtain rfl := hno1.out h1
    go_enter Tryz.func61, Tryz.ntmps61
    go_wp2_with fail
    go_ret
    exact ⟨rfl, Upd.refl _ _⟩
  have h1I : (ts.length : Int) ≤ 65535 := by omega
  go_enter Tryz.func61, Tryz.ntmps61
  go_wp2_with fail
  go_loopw [3] (fun iv wr => ∃ k : Nat, iv = .int .i64 (k : Int) ∧ k ≤ ts.length ∧ Hid (∀ s ∈ ts.take k, s.length ≤ 1048576) ∧ Upd Non w wr) (fun iv _ => ts.length - (intOf iv).toNat)
  case atStart => exact ⟨0, rfl, Nat.zero_le _, Lib.hid (fun s hs => by rw [List.take_zero] at hs; cases hs), Upd.refl _ _⟩
  case round =>
    obtain ⟨k, rfl, hk, hq, hU⟩ := hrel
    by_cases hlt : k < ts.length
    · have hltI : (k : Int) < (ts.length : Int) := by omega
      have hk0 : (0 : Int) ≤ (k : Int) := by omega
      obtain ⟨gg, off, rfl, x0⟩ := hx.out k hlt
      replace x0 := hU.cell x0 fun h => h
      have hsm := hl.out _ (List.getElem_mem hlt)
      have hs1 := Lib.hid (hsn.out k hlt hq.out)
      have hs2 := Lib.hid (hno2.out k hlt)
      generalize ts[k] = s at *
      by_cases h2 : s.length ≤ 1048576
      · have h2I : (s.length : Int) ≤ 1048576 := by omega
        replace hs1 := Lib.hid (hs1.out h2)
        go_wp2_with fail
        go_roundw
        case rel => exact ⟨k + 1, by go_num, by omega, hs1, hU⟩
        case measure => simp [intOf]; omega
      · have h2I : ¬ (s.length : Int) ≤ 1048576 := by omega
        obtain rfl := hs2.out h2
        go_wp2_with fail
        go_ret
        exact ⟨rfl, hU⟩
    · have hltI : ¬ (k : Int) < (ts.length : Int) := by omega
      obtain rfl : k = ts.length := by omega
      rw [List.take_length] at hq
      obtain rfl := hyes.out h1 hq.out
      go_wp2_with fail
      go_ret
      exact ⟨rfl, hU⟩
theorem rPutTexts (tv : Value) (ts : List (List UInt8)) (w : World) (hT : Txts w tv ts) (hok : txOk ts) : Calls Tryz.prog 66 #[tv] w (Ret (.string ⟨(putTxs ts).toArray⟩) w) := by
  obtain ⟨a, c, rfl, hlc, hcm, hx⟩ := has1 hT
  replace hx := Lib.hid (fun k (hk : k < ts.length) => hx k (by rw [List.length_map]; exact hk) hk)
  simp only [List.getElem_map] at hx
  have hm := putTxs_most hok
  have hfl := Lib.hid (flat_take (fun s => txtF s 4) ts)
  have hsn := Lib.hid (flat_snoc (fun s => txtF s 4) ts)
  have hok2 := Lib.hid hok.2
  have hn := hok.1
  have hm2 : 2 + (ts.flatMap (fun s => txtF s 4)).length ≤ 68719800000 := by unfold putTxs at hm; rw [List.length_append, fld_length] at hm; exact hm
  have hpe : Hid (putTxs ts = fld (ts.length : Int) 2 ++ ts.flatMap (fun s => txtF s 4)) := Lib.hid rfl
  have hc0 := Lib.hid (show ∀ w, Calls Tryz.prog 62 #[.int .i64 (ts.length : Int), .int .i64 2] w (Ret (.string ⟨(fld (ts.length : Int) 2).toArray⟩) w) from fld8 (ts.length : Int) 2 (by omega) (by unfold i64; omega))
  generalize putTxs ts = PT at *
  unfold maxLen at hcm
  clear hT hm hok
  go_enter Tryz.func66, Tryz.ntmps66
  go_wp2_with fail
  refine (hc0.out _).mono ?_
  rintro en w1 ⟨rfl, hu1⟩
  go_wp2_with fail
  go_loopw [3, 4] (fun sv iv wr => ∃ k : Nat, iv = .int .i64 (k : Int) ∧ k ≤ ts.length ∧ sv = .string ⟨(fld (ts.length : Int) 2 ++ (ts.take k).flatMap (fun s => txtF s 4)).toArray⟩ ∧ Upd Non w wr) (fun _ iv _ => ts.length - (intOf iv).toNat)
  case atStart => exact ⟨0, rfl, Nat.zero_le _, by rw [List.take_zero, List.flatMap_nil, List.append_nil], hu1⟩
  case round =>
    clear hu1
    obtain ⟨k, rfl, hk, rfl, hU⟩ := hrel
    by_cases hlt : k < ts.length
    · have hltI : (k : Int) < (ts.length : Int) := by omega
      have hk0 : (0 : Int) ≤ (k : Int) := by omega
      obtain ⟨gg, off, rfl, x0⟩ := hx.out k hlt
      replace x0 := hU.cell x0 fun h => h
      have h1 := hsn.out k hlt
      have h2 := hok2.out _ (List.getElem_mem hlt)
      have h3 := hfl.out k
      have hAl : (fld (ts.length : Int) 2 ++ (ts.take k).flatMap (fun s => txtF s 4)).length ≤ 68719800000 := by rw [List.length_append, fld_length]; omega
      have hsc : Value.string ((⟨(fld (ts.length : Int) 2 ++ (ts.take k).flatMap (fun s => txtF s 4)).toArray⟩ : ByteArray) ++ ⟨(txtF ts[k] 4).toArray⟩) = .string ⟨(fld (ts.length : Int) 2 ++ (ts.take (k + 1)).flatMap (fun s => txtF s 4)).toArray⟩ := by rw [h1, ByteArray.mk_append_mk, List.append_assoc]
      have hlx : (fld (ts.length : Int) 2 ++ (ts.take k).flatMap (fun s => txtF s 4)).length + (txtF ts[k] 4).length ≤ 9223372036854775807 := by rw [txtF_len]; omega
      clear h1 h3
      generalize ts[k] = s at *
      generalize fld (ts.length : Int) 2 ++ (ts.take k).flatMap (fun s => txtF s 4) = A at *
      replace hsc := Lib.hid hsc
      have cT := Lib.hid (show ∀ w, Calls Tryz.prog 63 #[.string ⟨s.toArray⟩, .int .i64 4] w (Ret (.string ⟨(txtF s 4).toArray⟩) w) from fun w => rText s 4 w (by omega) (by omega))
      generalize txtF s 4 = x at *
      go_wp2_with fail
      refine (cT.out _).mono ?_
      rintro en w3 ⟨rfl, hu3⟩
      have hU3 := hU.trans hu3 fun _ _ h => h
      clear hU hu3 x0
      go_wp2_with fail
      go_roundw
      case rel => exact ⟨k + 1, by go_num, by omega, hsc.out, hU3⟩
      case measure => simp [intOf]; omega
    · have hltI : ¬ (k : Int) < (ts.length : Int) := by omega
      obtain rfl : k = ts.length := by omega
      rw [List.take_length, ← hpe.out]
      go_wp2_with fail
      go_ret
      exact ⟨rfl, hU⟩
end Go.Proofs.YtogekobpjjmnjaaGreat
