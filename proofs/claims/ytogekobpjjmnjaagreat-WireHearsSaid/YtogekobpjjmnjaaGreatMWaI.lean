/- The reference: putAnswer (printed by gen/mkwai.py). -/
import Derived.Test.YtogekobpjjmnjaaGreatMWaH
namespace Go.Proofs.YtogekobpjjmnjaaGreat
open Go.RowKit Go.Amb
set_option linter.unusedVariables false
set_option linter.unusedSimpArgs false
set_option maxRecDepth 100000
attribute [local go_sem ↓] Go.wp_at_zero Go.wp_at_succ
theorem tag64 {n : Int} (h : 0 ≤ n ∧ n < 1048573) : i64 n := by unfold i64; omega
theorem hdOk64 {h : Hd} (e : hdOk h) : hd64 h := ⟨by have := e.1; unfold i64; omega, tag64 ⟨e.2.1, e.2.2.1⟩, tag64 ⟨e.2.2.2.1, e.2.2.2.2⟩⟩
theorem len64 {n : Nat} (h : n ≤ 65535) : i64 (n : Int) := by unfold i64; omega
set_option maxHeartbeats 16000000 in
theorem rPutAnswer (r0 : Rs) (S : Sl) (w : World) (hR : RsAt w r0 S) (hr : rightA r0) (hid : ids r0) : Calls Tryz.prog 31 #[rsV r0 S] w (Ret (.string ⟨(putA r0).toArray⟩) w) := by
  have hR' := Lib.hid (fun w' (hu : Upd Non w w') => hR.non hu)
  obtain ⟨hi1, hi2, hi3, hi4, hi5⟩ := hid
  obtain ⟨n1, n2, n3, n4, n5, n6⟩ := S
  obtain ⟨hR1, hR2, hR3, hR4, hR5, hR6⟩ := hR
  dsimp only at *
  obtain ⟨p1, q1, rfl, -⟩ := has1 hR1
  obtain ⟨p2, q2, rfl, -⟩ := has1 hR2
  obtain ⟨p3, q3, rfl, -⟩ := has1 hR3
  obtain ⟨p4, q4, rfl, t4, m4, r4⟩ := has_rows (f := lnC) (m := 8) (fun _ => rfl) hR4
  obtain ⟨p5, q5, rfl, t5, m5, r5⟩ := has_rows (f := upC) (m := 2) (fun _ => rfl) hR5
  obtain ⟨p6, q6, rfl, t6, m6, r6⟩ := has_rows (f := ptC) (m := 6) (fun _ => rfl) hR6
  replace r4 := Lib.hid r4
  replace r5 := Lib.hid r5
  replace r6 := Lib.hid r6
  clear hR1 hR2 hR3 hR4 hR5 hR6
  have hst := heap_alloc_new w (.cells (rsC r0 ⟨.slice p1 r0.names.length q1, .slice p2 r0.lnames.length q2, .slice p3 r0.lpre.length q3, .slice p4 r0.lines.length q4, .slice p5 r0.ups.length q5, .slice p6 r0.parts.length q6⟩) 39)
  have hsu : Upd Non w (w.alloc (.cells (rsC r0 ⟨.slice p1 r0.names.length q1, .slice p2 r0.lnames.length q2, .slice p3 r0.lpre.length q3, .slice p4 r0.lines.length q4, .slice p5 r0.ups.length q5, .slice p6 r0.parts.length q6⟩) 39)) := Upd.alloc _ _ _
  obtain ⟨k1, k2, k3, k4, k5, k6, k7, k8, k9, k10⟩ := hr
  unfold rsV
  obtain ⟨err, id, time, text, re, im, version, ⟨size, hre, him, gone, null⟩, body, names, lnames, lpre, next, more, lines, lobject, lid, lmore, ups, parts⟩ := r0
  have hfin : Hid (∀ w' l, fld err 1 ++ (fld id 8 ++ (fld time 8 ++ (txtF text 4 ++ (fld re 4 ++ (fld im 4 ++ (txtF version 4 ++ (putHd ⟨size, hre, him, gone, null⟩ ++ (txtF body 4 ++ (putTxs names ++ (putTxs lnames ++ (putTxs lpre ++ (txtF next 4 ++ (truF more ++ ((fld (lines.length : Int) 2 ++ (lines.flatMap putLn ++ (txtF lobject 4 ++ (fld lid 8 ++ truF lmore)))) ++ ((fld (ups.length : Int) 2 ++ ups.flatMap putUp) ++ (fld (parts.length : Int) 2 ++ parts.flatMap putPt)))))))))))))))) = l → Upd Non w w' → Ret (.string ⟨(putA ⟨err, id, time, text, re, im, version, ⟨size, hre, him, gone, null⟩, body, names, lnames, lpre, next, more, lines, lobject, lid, lmore, ups, parts⟩).toArray⟩) w (.returned (.string ⟨l.toArray⟩)) w') := Lib.hid (fun w' l e hu => by subst e; exact ⟨rfl, hu⟩)
  obtain ⟨PR, hPR⟩ : ∃ PR, Ret (.string ⟨(putA ⟨err, id, time, text, re, im, version, ⟨size, hre, him, gone, null⟩, body, names, lnames, lpre, next, more, lines, lobject, lid, lmore, ups, parts⟩).toArray⟩) w = PR := ⟨_, rfl⟩
  rw [hPR] at hfin ⊢
  clear hPR
  unfold rsC at *
  dsimp only at *
  obtain ⟨k8a, k8b⟩ := k8
  obtain ⟨k9a, k9b⟩ := k9
  obtain ⟨k10a, k10b⟩ := k10
  have ht1 : i64 re := tag64 ⟨k2.1, k2.2.1⟩
  have ht2 : i64 im := tag64 ⟨k2.2.2.1, k2.2.2.2⟩
  have hi0 : i64 err := by unfold i64; omega
  have hh := hdOk64 k3
  have l1 : text.length ≤ 1048576 := k4.2 _ (by simp)
  have l2 : version.length ≤ 1048576 := k4.2 _ (by simp)
  have l3 : body.length ≤ 1048576 := k4.2 _ (by simp)
  have l4 : next.length ≤ 1048576 := k4.2 _ (by simp)
  have l5 : lobject.length ≤ 1048576 := k4.2 _ (by simp)
  have m4' := flat_most putLn 1048600 lines (fun x hx => putLn_most (k8b x hx))
  have m5' := flat_most putUp 1048600 ups (fun x hx => putUp_most (k9b x hx))
  have m6' := flat_most putPt 13 parts (fun x hx => Nat.le_of_eq (putPt_len x))
  have m4 : (lines.flatMap putLn).length ≤ 68720001000 := by
    have : lines.length * 1048600 ≤ 65535 * 1048600 := Nat.mul_le_mul_right _ k8a
    omega
  have m5 : (ups.flatMap putUp).length ≤ 68720001000 := by
    have : ups.length * 1048600 ≤ 65535 * 1048600 := Nat.mul_le_mul_right _ k9a
    omega
  have m6 : (parts.flatMap putPt).length ≤ 851955 := by
    have : parts.length * 13 ≤ 65535 * 13 := Nat.mul_le_mul_right _ k10a
    omega
  clear m4' m5' m6' k4 k2 k3
  have hfl4 := Lib.hid (flat_take putLn lines)
  have hsn4 := Lib.hid (flat_snoc putLn lines)
  have hfl5 := Lib.hid (flat_take putUp ups)
  have hsn5 := Lib.hid (flat_snoc putUp ups)
  have hfl6 := Lib.hid (flat_take putPt parts)
  have hsn6 := Lib.hid (flat_snoc putPt parts)
  replace k5 := Lib.hid k5
  replace k6 := Lib.hid k6
  replace k7 := Lib.hid k7
  replace k8b := Lib.hid k8b
  replace k9b := Lib.hid k9b
  replace k10b := Lib.hid k10b
  replace hi4 := Lib.hid hi4
  replace hi5 := Lib.hid hi5
  obtain ⟨W0, hW0⟩ : ∃ W0, w.alloc (.cells #[.int .i64 err, .int .i64 id, .int .i64 time, .string ⟨text.toArray⟩, .int .i64 re, .int .i64 im, .string ⟨version.toArray⟩, .int .i64 size, .int .i64 hre, .int .i64 him, .bool gone, .bool null, .string ⟨body.toArray⟩, .slice p1 names.length q1, .slice p2 lnames.length q2, .slice p3 lpre.length q3, .string ⟨next.toArray⟩, .bool more, .slice p4 lines.length q4, .string ⟨lobject.toArray⟩, .int .i64 lid, .bool lmore, .slice p5 ups.length q5, .slice p6 parts.length q6] 39) = W0 := ⟨_, rfl⟩
  rw [hW0] at hst hsu
  have hRA := Lib.hid (fun w' (hu : Upd Non W0 w') => hR'.out w' (hsu.trans hu fun _ _ h => h))
  have hKK := Lib.hid (fun w' (hu : Upd Non W0 w') => cells_of (hu.heap hst fun h => h))
  have hK : Hid (∀ w', Upd Non W0 w' → ∀ j v, (#[.int .i64 err, .int .i64 id, .int .i64 time, .string ⟨text.toArray⟩, .int .i64 re, .int .i64 im, .string ⟨version.toArray⟩, .int .i64 size, .int .i64 hre, .int .i64 him, .bool gone, .bool null, .string ⟨body.toArray⟩, .slice p1 names.length q1, .slice p2 lnames.length q2, .slice p3 lpre.length q3, .string ⟨next.toArray⟩, .bool more, .slice p4 lines.length q4, .string ⟨lobject.toArray⟩, .int .i64 lid, .bool lmore, .slice p5 ups.length q5, .slice p6 parts.length q6] : Array Value)[j]? = some v → w'.cell? ⟨w.heap.size, j, none⟩ = some v) := Lib.hid (fun w' hu j v e => ((hKK.out w' hu).1 j).trans e)
  obtain ⟨N, hN⟩ : ∃ N, w.heap.size = N := ⟨_, rfl⟩
  rw [hN] at hK
  have hUN : Hid (∀ w', Upd Non W0 w' → Upd Non w w') := Lib.hid (fun w' hu => hsu.trans hu fun _ _ h => h)
  have hU0 : Upd Non W0 W0 := Upd.refl _ _
  clear hst hsu hKK hR'
  go_enter Tryz.func31, Tryz.ntmps31
  go_wp2_with fail
  have cp1 : Hid (∀ w', Upd Non W0 w' → Calls Tryz.prog 62 #[.int .i64 err, .int .i64 1] w' (Ret (.string ⟨(fld err 1).toArray⟩) w')) := Lib.hid (fun w' hu => fld8 err 1 (by omega) hi0 w')
  have lp1 : (fld err 1).length ≤ 1 := Nat.le_of_eq (fld_length _ _)
  generalize hp1 : fld err 1 = x1 at cp1 lp1
  replace hp1 := Lib.hid hp1
  have cp2 : Hid (∀ w', Upd Non W0 w' → Calls Tryz.prog 62 #[.int .i64 id, .int .i64 8] w' (Ret (.string ⟨(fld id 8).toArray⟩) w')) := Lib.hid (fun w' hu => fld8 id 8 (by omega) hi1 w')
  have lp2 : (fld id 8).length ≤ 8 := Nat.le_of_eq (fld_length _ _)
  generalize hp2 : fld id 8 = x2 at cp2 lp2
  replace hp2 := Lib.hid hp2
  have cp3 : Hid (∀ w', Upd Non W0 w' → Calls Tryz.prog 62 #[.int .i64 time, .int .i64 8] w' (Ret (.string ⟨(fld time 8).toArray⟩) w')) := Lib.hid (fun w' hu => fld8 time 8 (by omega) hi2 w')
  have lp3 : (fld time 8).length ≤ 8 := Nat.le_of_eq (fld_length _ _)
  generalize hp3 : fld time 8 = x3 at cp3 lp3
  replace hp3 := Lib.hid hp3
  have cp4 : Hid (∀ w', Upd Non W0 w' → Calls Tryz.prog 63 #[.string ⟨text.toArray⟩, .int .i64 4] w' (Ret (.string ⟨(txtF text 4).toArray⟩) w')) := Lib.hid (fun w' hu => rText text 4 w' (by omega) (by omega))
  have lp4 : (txtF text 4).length ≤ 1048580 := by rw [txtF_len]; omega
  generalize hp4 : txtF text 4 = x4 at cp4 lp4
  replace hp4 := Lib.hid hp4
  have cp5 : Hid (∀ w', Upd Non W0 w' → Calls Tryz.prog 64 #[.agg #[.int .i64 re, .int .i64 im]] w' (Ret (.string ⟨(fld re 4 ++ fld im 4).toArray⟩) w')) := Lib.hid (fun w' hu => rPutTag re im ht1 ht2 w')
  have lp5 : (fld re 4 ++ fld im 4).length ≤ 8 := by rw [List.length_append, fld_length, fld_length]; omega
  generalize hp5 : fld re 4 ++ fld im 4 = x5 at cp5 lp5
  replace hp5 := Lib.hid hp5
  have hl0_1 : (9223372036854775807 < x1.length + x2.length) = False := eq_false (by omega)
  have hl0_2 : (9223372036854775807 < x1.length + x2.length + x3.length) = False := eq_false (by omega)
  have hl0_3 : (9223372036854775807 < x1.length + x2.length + x3.length + x4.length) = False := eq_false (by omega)
  have hl0_4 : (9223372036854775807 < x1.length + x2.length + x3.length + x4.length + x5.length) = False := eq_false (by omega)
  have hfold0 : Value.string ((⟨x1.toArray⟩ : ByteArray) ++ ⟨x2.toArray⟩ ++ ⟨x3.toArray⟩ ++ ⟨x4.toArray⟩ ++ ⟨x5.toArray⟩) = .string ⟨(x1 ++ x2 ++ x3 ++ x4 ++ x5).toArray⟩ := by rw [ByteArray.mk_append_mk, ByteArray.mk_append_mk, ByteArray.mk_append_mk, ByteArray.mk_append_mk] <;> simp
  replace hfold0 := Lib.hid hfold0
  have hS : Hid (∀ w', Upd Non W0 w' → w'.cell? ⟨N, 0, none⟩ = some (.int .i64 err) ∧ w'.cell? ⟨N, 1, none⟩ = some (.int .i64 id) ∧ w'.cell? ⟨N, 2, none⟩ = some (.int .i64 time) ∧ w'.cell? ⟨N, 3, none⟩ = some (.string ⟨text.toArray⟩) ∧ w'.cell? ⟨N, 4, none⟩ = some (.int .i64 re) ∧ w'.cell? ⟨N, 5, none⟩ = some (.int .i64 im)) := Lib.hid (fun w' hu => ⟨hK.out w' hu 0 _ rfl, hK.out w' hu 1 _ rfl, hK.out w' hu 2 _ rfl, hK.out w' hu 3 _ rfl, hK.out w' hu 4 _ rfl, hK.out w' hu 5 _ rfl⟩)
  have hV0 := (hU0).then_drew
  have c0 := hS.out _ hV0
  go_wp2_with fail
  refine wp_region_held_drew (S := (fun w' => w'.cell? ⟨N, 0, none⟩ = some (.int .i64 err) ∧ w'.cell? ⟨N, 1, none⟩ = some (.int .i64 id) ∧ w'.cell? ⟨N, 2, none⟩ = some (.int .i64 time) ∧ w'.cell? ⟨N, 3, none⟩ = some (.string ⟨text.toArray⟩) ∧ w'.cell? ⟨N, 4, none⟩ = some (.int .i64 re) ∧ w'.cell? ⟨N, 5, none⟩ = some (.int .i64 im))) (by kernel_rfl) (by (try dsimp only); exact c0) (fun hHeld => ?_)
  (refine wpAnyH_take (i := 0) (oi := ?oi_1_0) (v := ?v_1_0) ?ho_1_0 ?hs_1_0 ?hf_1_0 ?hr_1_0 ?hQ_1_0 ?hy_1_0 ?hS_1_0 ?rest_1_0; (case hr_1_0 => kernel_rfl); (case hf_1_0 => kernel_rfl); (case hs_1_0 => kernel_rfl); (case ho_1_0 => (simp only [List.getElem?_toArray, List.getElem?_cons_succ, List.getElem?_cons_zero]; rfl)); (case hS_1_0 => assumption); (case hQ_1_0 => exact fun _ _ _ h => h); (case hy_1_0 => (refine Or.inl ⟨by rfl, ?_⟩; (intro w hSw; (try dsimp only at hSw); go_simp) <;> with_reducible rfl)); (try simp only [Act.put, List.setIfInBounds_toArray, List.set_cons_zero, List.set_cons_succ]))
  (refine wpAnyH_take (i := 1) (oi := ?oi_1_1) (v := ?v_1_1) ?ho_1_1 ?hs_1_1 ?hf_1_1 ?hr_1_1 ?hQ_1_1 ?hy_1_1 ?hS_1_1 ?rest_1_1; (case hr_1_1 => kernel_rfl); (case hf_1_1 => kernel_rfl); (case hs_1_1 => kernel_rfl); (case ho_1_1 => (simp only [List.getElem?_toArray, List.getElem?_cons_succ, List.getElem?_cons_zero]; rfl)); (case hS_1_1 => assumption); (case hQ_1_1 => exact fun _ _ _ h => h); (case hy_1_1 => (refine Or.inl ⟨by rfl, ?_⟩; (intro w hSw; (try dsimp only at hSw); go_simp) <;> with_reducible rfl)); (try simp only [Act.put, List.setIfInBounds_toArray, List.set_cons_zero, List.set_cons_succ]))
  (refine wpAnyH_take (i := 3) (oi := ?oi_1_3) (v := ?v_1_3) ?ho_1_3 ?hs_1_3 ?hf_1_3 ?hr_1_3 ?hQ_1_3 ?hy_1_3 ?hS_1_3 ?rest_1_3; (case hr_1_3 => kernel_rfl); (case hf_1_3 => kernel_rfl); (case hs_1_3 => kernel_rfl); (case ho_1_3 => (simp only [List.getElem?_toArray, List.getElem?_cons_succ, List.getElem?_cons_zero]; rfl)); (case hS_1_3 => assumption); (case hQ_1_3 => exact fun _ _ _ h => h); (case hy_1_3 => (refine Or.inl ⟨by rfl, ?_⟩; (intro w hSw; (try dsimp only at hSw); go_simp) <;> with_reducible rfl)); (try simp only [Act.put, List.setIfInBounds_toArray, List.set_cons_zero, List.set_cons_succ]))
  (refine wpAnyH_take (i := 4) (oi := ?oi_1_4) (v := ?v_1_4) ?ho_1_4 ?hs_1_4 ?hf_1_4 ?hr_1_4 ?hQ_1_4 ?hy_1_4 ?hS_1_4 ?rest_1_4; (case hr_1_4 => kernel_rfl); (case hf_1_4 => kernel_rfl); (case hs_1_4 => kernel_rfl); (case ho_1_4 => (simp only [List.getElem?_toArray, List.getElem?_cons_succ, List.getElem?_cons_zero]; rfl)); (case hS_1_4 => assumption); (case hQ_1_4 => exact fun _ _ _ h => h); (case hy_1_4 => (refine Or.inl ⟨by rfl, ?_⟩; (intro w hSw; (try dsimp only at hSw); go_simp) <;> with_reducible rfl)); (try simp only [Act.put, List.setIfInBounds_toArray, List.set_cons_zero, List.set_cons_succ]))
  (refine wpAnyH_take (i := 7) (oi := ?oi_1_7) (v := ?v_1_7) ?ho_1_7 ?hs_1_7 ?hf_1_7 ?hr_1_7 ?hQ_1_7 ?hy_1_7 ?hS_1_7 ?rest_1_7; (case hr_1_7 => kernel_rfl); (case hf_1_7 => kernel_rfl); (case hs_1_7 => kernel_rfl); (case ho_1_7 => (simp only [List.getElem?_toArray, List.getElem?_cons_succ, List.getElem?_cons_zero]; rfl)); (case hS_1_7 => assumption); (case hQ_1_7 => exact fun _ _ _ h => h); (case hy_1_7 => (refine Or.inl ⟨by rfl, ?_⟩; (intro w hSw; (try dsimp only at hSw); go_simp) <;> with_reducible rfl)); (try simp only [Act.put, List.setIfInBounds_toArray, List.set_cons_zero, List.set_cons_succ]))
  (refine wpAnyH_take (i := 8) (oi := ?oi_1_8) (v := ?v_1_8) ?ho_1_8 ?hs_1_8 ?hf_1_8 ?hr_1_8 ?hQ_1_8 ?hy_1_8 ?hS_1_8 ?rest_1_8; (case hr_1_8 => kernel_rfl); (case hf_1_8 => kernel_rfl); (case hs_1_8 => kernel_rfl); (case ho_1_8 => (simp only [List.getElem?_toArray, List.getElem?_cons_succ, List.getElem?_cons_zero]; rfl)); (case hS_1_8 => assumption); (case hQ_1_8 => exact fun _ _ _ h => h); (case hy_1_8 => (refine Or.inl ⟨by rfl, ?_⟩; (intro w hSw; (try dsimp only at hSw); go_simp) <;> with_reducible rfl)); (try simp only [Act.put, List.setIfInBounds_toArray, List.set_cons_zero, List.set_cons_succ]))
  (refine wpAnyH_take (i := 11) (oi := ?oi_1_11) (v := ?v_1_11) ?ho_1_11 ?hs_1_11 ?hf_1_11 ?hr_1_11 ?hQ_1_11 ?hy_1_11 ?hS_1_11 ?rest_1_11; (case hr_1_11 => kernel_rfl); (case hf_1_11 => kernel_rfl); (case hs_1_11 => kernel_rfl); (case ho_1_11 => (simp only [List.getElem?_toArray, List.getElem?_cons_succ, List.getElem?_cons_zero]; rfl)); (case hS_1_11 => assumption); (case hQ_1_11 => exact fun _ _ _ h => h); (case hy_1_11 => (refine Or.inl ⟨by rfl, ?_⟩; (intro w hSw; (try dsimp only at hSw); go_simp) <;> with_reducible rfl)); (try simp only [Act.put, List.setIfInBounds_toArray, List.set_cons_zero, List.set_cons_succ]))
  (refine wpAnyH_take (i := 12) (oi := ?oi_1_12) (v := ?v_1_12) ?ho_1_12 ?hs_1_12 ?hf_1_12 ?hr_1_12 ?hQ_1_12 ?hy_1_12 ?hS_1_12 ?rest_1_12; (case hr_1_12 => kernel_rfl); (case hf_1_12 => kernel_rfl); (case hs_1_12 => kernel_rfl); (case ho_1_12 => (simp only [List.getElem?_toArray, List.getElem?_cons_succ, List.getElem?_cons_zero]; rfl)); (case hS_1_12 => assumption); (case hQ_1_12 => exact fun _ _ _ h => h); (case hy_1_12 => (refine Or.inl ⟨by rfl, ?_⟩; (intro w hSw; (try dsimp only at hSw); go_simp) <;> with_reducible rfl)); (try simp only [Act.put, List.setIfInBounds_toArray, List.set_cons_zero, List.set_cons_succ]))
  (refine wpAnyH_take (i := 15) (oi := ?oi_1_15) (v := ?v_1_15) ?ho_1_15 ?hs_1_15 ?hf_1_15 ?hr_1_15 ?hQ_1_15 ?hy_1_15 ?hS_1_15 ?rest_1_15; (case hr_1_15 => kernel_rfl); (case hf_1_15 => kernel_rfl); (case hs_1_15 => kernel_rfl); (case ho_1_15 => (simp only [List.getElem?_toArray, List.getElem?_cons_succ, List.getElem?_cons_zero]; rfl)); (case hS_1_15 => assumption); (case hQ_1_15 => exact fun _ _ _ h => h); (case hy_1_15 => (refine Or.inl ⟨by rfl, ?_⟩; (intro w hSw; (try dsimp only at hSw); go_simp) <;> with_reducible rfl)); (try simp only [Act.put, List.setIfInBounds_toArray, List.set_cons_zero, List.set_cons_succ]))
  (refine wpAnyH_take (i := 16) (oi := ?oi_1_16) (v := ?v_1_16) ?ho_1_16 ?hs_1_16 ?hf_1_16 ?hr_1_16 ?hQ_1_16 ?hy_1_16 ?hS_1_16 ?rest_1_16; (case hr_1_16 => kernel_rfl); (case hf_1_16 => kernel_rfl); (case hs_1_16 => kernel_rfl); (case ho_1_16 => (simp only [List.getElem?_toArray, List.getElem?_cons_succ, List.getElem?_cons_zero]; rfl)); (case hS_1_16 => assumption); (case hQ_1_16 => exact fun _ _ _ h => h); (case hy_1_16 => (refine Or.inl ⟨by rfl, ?_⟩; (intro w hSw; (try dsimp only at hSw); go_simp) <;> with_reducible rfl)); (try simp only [Act.put, List.setIfInBounds_toArray, List.set_cons_zero, List.set_cons_succ]))
  (refine wpAnyH_ready (rs := [2]) (by kernel_rfl) (by simp) ?_; refine AllReadyH.cons (o := ?oo_1_2) ?hoo_1_2 ?hst_1_2 AllReadyH.nil; (case hoo_1_2 => (simp only [List.getElem?_toArray, List.getElem?_cons_succ, List.getElem?_cons_zero]; rfl)); intro K hK; go_simp; ((go_at_call 62; (refine (cp1.out _ hV0).mono ?_); rintro en y1 ⟨rfl, hu1⟩; have hV1 := hV0.trans hu1 fun _ _ h => h; have c1 := hS.out _ hV1)); (try go_wp2_with fail); refine hK.out _ _ (by (try dsimp only); exact c1) (fun hHeld => ?_); clear hK K; (try simp only [Act.put, List.setIfInBounds_toArray, List.set_cons_zero, List.set_cons_succ]))
  (refine wpAnyH_ready (rs := [5]) (by kernel_rfl) (by simp) ?_; refine AllReadyH.cons (o := ?oo_1_5) ?hoo_1_5 ?hst_1_5 AllReadyH.nil; (case hoo_1_5 => (simp only [List.getElem?_toArray, List.getElem?_cons_succ, List.getElem?_cons_zero]; rfl)); intro K hK; go_simp; ((go_at_call 62; (refine (cp2.out _ hV1).mono ?_); rintro en y2 ⟨rfl, hu2⟩; have hV2 := hV1.trans hu2 fun _ _ h => h; have c2 := hS.out _ hV2)); (try go_wp2_with fail); refine hK.out _ _ (by (try dsimp only); exact c2) (fun hHeld => ?_); clear hK K; (try simp only [Act.put, List.setIfInBounds_toArray, List.set_cons_zero, List.set_cons_succ]))
  (refine wpAnyH_take (i := 6) (oi := ?oi_1_6) (v := ?v_1_6) ?ho_1_6 ?hs_1_6 ?hf_1_6 ?hr_1_6 ?hQ_1_6 ?hy_1_6 ?hS_1_6 ?rest_1_6; (case hr_1_6 => kernel_rfl); (case hf_1_6 => kernel_rfl); (case hs_1_6 => kernel_rfl); (case ho_1_6 => (simp only [List.getElem?_toArray, List.getElem?_cons_succ, List.getElem?_cons_zero]; rfl)); (case hS_1_6 => assumption); (case hQ_1_6 => exact fun _ _ _ h => h); (case hy_1_6 => (refine Or.inl ⟨by rfl, ?_⟩; (intro w hSw; (try dsimp only at hSw); go_simp) <;> with_reducible rfl)); (try simp only [Act.put, List.setIfInBounds_toArray, List.set_cons_zero, List.set_cons_succ]))
  (refine wpAnyH_ready (rs := [9]) (by kernel_rfl) (by simp) ?_; refine AllReadyH.cons (o := ?oo_1_9) ?hoo_1_9 ?hst_1_9 AllReadyH.nil; (case hoo_1_9 => (simp only [List.getElem?_toArray, List.getElem?_cons_succ, List.getElem?_cons_zero]; rfl)); intro K hK; go_simp; ((go_at_call 62; (refine (cp3.out _ hV2).mono ?_); rintro en y3 ⟨rfl, hu3⟩; have hV3 := hV2.trans hu3 fun _ _ h => h; have c3 := hS.out _ hV3)); (try go_wp2_with fail); refine hK.out _ _ (by (try dsimp only); exact c3) (fun hHeld => ?_); clear hK K; (try simp only [Act.put, List.setIfInBounds_toArray, List.set_cons_zero, List.set_cons_succ]))
  (refine wpAnyH_take (i := 10) (oi := ?oi_1_10) (v := ?v_1_10) ?ho_1_10 ?hs_1_10 ?hf_1_10 ?hr_1_10 ?hQ_1_10 ?hy_1_10 ?hS_1_10 ?rest_1_10; (case hr_1_10 => kernel_rfl); (case hf_1_10 => kernel_rfl); (case hs_1_10 => kernel_rfl); (case ho_1_10 => (simp only [List.getElem?_toArray, List.getElem?_cons_succ, List.getElem?_cons_zero]; rfl)); (case hS_1_10 => assumption); (case hQ_1_10 => exact fun _ _ _ h => h); (case hy_1_10 => (refine Or.inl ⟨by rfl, ?_⟩; (intro w hSw; (try dsimp only at hSw); go_simp) <;> with_reducible rfl)); (try simp only [Act.put, List.setIfInBounds_toArray, List.set_cons_zero, List.set_cons_succ]))
  (refine wpAnyH_ready (rs := [13]) (by kernel_rfl) (by simp) ?_; refine AllReadyH.cons (o := ?oo_1_13) ?hoo_1_13 ?hst_1_13 AllReadyH.nil; (case hoo_1_13 => (simp only [List.getElem?_toArray, List.getElem?_cons_succ, List.getElem?_cons_zero]; rfl)); intro K hK; go_simp; ((go_at_call 63; (refine (cp4.out _ hV3).mono ?_); rintro en y4 ⟨rfl, hu4⟩; have hV4 := hV3.trans hu4 fun _ _ h => h; have c4 := hS.out _ hV4)); (try go_wp2_with fail); refine hK.out _ _ (by (try dsimp only); exact c4) (fun hHeld => ?_); clear hK K; (try simp only [Act.put, List.setIfInBounds_toArray, List.set_cons_zero, List.set_cons_succ]))
  (refine wpAnyH_take (i := 14) (oi := ?oi_1_14) (v := ?v_1_14) ?ho_1_14 ?hs_1_14 ?hf_1_14 ?hr_1_14 ?hQ_1_14 ?hy_1_14 ?hS_1_14 ?rest_1_14; (case hr_1_14 => kernel_rfl); (case hf_1_14 => kernel_rfl); (case hs_1_14 => kernel_rfl); (case ho_1_14 => (simp only [List.getElem?_toArray, List.getElem?_cons_succ, List.getElem?_cons_zero]; rfl)); (case hS_1_14 => assumption); (case hQ_1_14 => exact fun _ _ _ h => h); (case hy_1_14 => (refine Or.inl ⟨by rfl, ?_⟩; (intro w hSw; (try dsimp only at hSw); go_simp) <;> with_reducible rfl)); (try simp only [Act.put, List.setIfInBounds_toArray, List.set_cons_zero, List.set_cons_succ]))
  (refine wpAnyH_ready (rs := [17]) (by kernel_rfl) (by simp) ?_; refine AllReadyH.cons (o := ?oo_1_17) ?hoo_1_17 ?hst_1_17 AllReadyH.nil; (case hoo_1_17 => (simp only [List.getElem?_toArray, List.getElem?_cons_succ, List.getElem?_cons_zero]; rfl)); intro K hK; go_simp; ((go_at_call 64; (refine (cp5.out _ hV4).mono ?_); rintro en y5 ⟨rfl, hu5⟩; have hV5 := hV4.trans hu5 fun _ _ h => h; have c5 := hS.out _ hV5)); (try go_wp2_with fail); refine hK.out _ _ (by (try dsimp only); exact c5) (fun hHeld => ?_); clear hK K; (try simp only [Act.put, List.setIfInBounds_toArray, List.set_cons_zero, List.set_cons_succ]))
  (refine wpAnyH_take (i := 18) (oi := ?oi_1_18) (v := ?v_1_18) ?ho_1_18 ?hs_1_18 ?hf_1_18 ?hr_1_18 ?hQ_1_18 ?hy_1_18 ?hS_1_18 ?rest_1_18; (case hr_1_18 => kernel_rfl); (case hf_1_18 => kernel_rfl); (case hs_1_18 => kernel_rfl); (case ho_1_18 => (simp only [List.getElem?_toArray, List.getElem?_cons_succ, List.getElem?_cons_zero]; rfl)); (case hS_1_18 => assumption); (case hQ_1_18 => exact fun _ _ _ h => h); (case hy_1_18 => (refine Or.inl ⟨by rfl, ?_⟩; (intro w hSw; (try dsimp only at hSw); go_simp) <;> with_reducible rfl)); (try simp only [Act.put, List.setIfInBounds_toArray, List.set_cons_zero, List.set_cons_succ]))
  (refine wpAnyH_take (i := 19) (oi := ?oi_1_19) (v := ?v_1_19) ?ho_1_19 ?hs_1_19 ?hf_1_19 ?hr_1_19 ?hQ_1_19 ?hy_1_19 ?hS_1_19 ?rest_1_19; (case hr_1_19 => kernel_rfl); (case hf_1_19 => kernel_rfl); (case hs_1_19 => kernel_rfl); (case ho_1_19 => (simp only [List.getElem?_toArray, List.getElem?_cons_succ, List.getElem?_cons_zero]; rfl)); (case hS_1_19 => assumption); (case hQ_1_19 => exact fun _ _ _ h => h); (case hy_1_19 => (refine Or.inl ⟨by rfl, ?_⟩; (intro w hSw; (try dsimp only at hSw); go_simp) <;> with_reducible rfl)); (try simp only [Act.put, List.setIfInBounds_toArray, List.set_cons_zero, List.set_cons_succ]))
  refine wpAnyH_done (by kernel_rfl) ?_ _
  rw [hfold0.out]
  clear cp1 cp2 cp3 cp4 cp5 hS hfold0 hl0_1 hl0_2 hl0_3 hl0_4
  clear c0 c1 c2 c3 c4 c5 hu1 hu2 hu3 hu4 hu5
  obtain ⟨A1, eA1⟩ : ∃ A, A = x1 ++ x2 ++ x3 ++ x4 ++ x5 := ⟨_, rfl⟩
  have lA1 : A1.length ≤ 1048700 := by rw [eA1]; simp only [List.length_append]; omega
  rw [← eA1]
  replace eA1 := Lib.hid eA1
  have hU1 := hV5
  clear hV0
  have cp6 : Hid (∀ w', Upd Non W0 w' → Calls Tryz.prog 63 #[.string ⟨version.toArray⟩, .int .i64 4] w' (Ret (.string ⟨(txtF version 4).toArray⟩) w')) := Lib.hid (fun w' hu => rText version 4 w' (by omega) (by omega))
  have lp6 : (txtF version 4).length ≤ 1048580 := by rw [txtF_len]; omega
  generalize hp6 : txtF version 4 = x6 at cp6 lp6
  replace hp6 := Lib.hid hp6
  have cp7 : Hid (∀ w', Upd Non W0 w' → Calls Tryz.prog 65 #[.agg #[.int .i64 size, .int .i64 hre, .int .i64 him, .bool gone, .bool null]] w' (Ret (.string ⟨(putHd ⟨size, hre, him, gone, null⟩).toArray⟩) w')) := Lib.hid (fun w' hu => rPutHead ⟨size, hre, him, gone, null⟩ hh w')
  have lp7 : (putHd ⟨size, hre, him, gone, null⟩).length ≤ 11 := Nat.le_of_eq (putHd_len _)
  generalize hp7 : putHd ⟨size, hre, him, gone, null⟩ = x7 at cp7 lp7
  replace hp7 := Lib.hid hp7
  have cp8 : Hid (∀ w', Upd Non W0 w' → Calls Tryz.prog 63 #[.string ⟨body.toArray⟩, .int .i64 4] w' (Ret (.string ⟨(txtF body 4).toArray⟩) w')) := Lib.hid (fun w' hu => rText body 4 w' (by omega) (by omega))
  have lp8 : (txtF body 4).length ≤ 1048580 := by rw [txtF_len]; omega
  generalize hp8 : txtF body 4 = x8 at cp8 lp8
  replace hp8 := Lib.hid hp8
  have hl5_1 : (9223372036854775807 < A1.length + x6.length) = False := eq_false (by omega)
  have hl5_2 : (9223372036854775807 < A1.length + x6.length + x7.length) = False := eq_false (by omega)
  have hl5_3 : (9223372036854775807 < A1.length + x6.length + x7.length + x8.length) = False := eq_false (by omega)
  have hfold5 : Value.string ((⟨A1.toArray⟩ : ByteArray) ++ ⟨x6.toArray⟩ ++ ⟨x7.toArray⟩ ++ ⟨x8.toArray⟩) = .string ⟨(A1 ++ x6 ++ x7 ++ x8).toArray⟩ := by rw [ByteArray.mk_append_mk, ByteArray.mk_append_mk, ByteArray.mk_append_mk] <;> simp
  replace hfold5 := Lib.hid hfold5
  have hS : Hid (∀ w', Upd Non W0 w' → w'.cell? ⟨N, 6, none⟩ = some (.string ⟨version.toArray⟩) ∧ w'.cell? ⟨N, 7, none⟩ = some (.int .i64 size) ∧ w'.cell? ⟨N, 8, none⟩ = some (.int .i64 hre) ∧ w'.cell? ⟨N, 9, none⟩ = some (.int .i64 him) ∧ w'.cell? ⟨N, 10, none⟩ = some (.bool gone) ∧ w'.cell? ⟨N, 11, none⟩ = some (.bool null) ∧ w'.cell? ⟨N, 12, none⟩ = some (.string ⟨body.toArray⟩)) := Lib.hid (fun w' hu => ⟨hK.out w' hu 6 _ rfl, hK.out w' hu 7 _ rfl, hK.out w' hu 8 _ rfl, hK.out w' hu 9 _ rfl, hK.out w' hu 10 _ rfl, hK.out w' hu 11 _ rfl, hK.out w' hu 12 _ rfl⟩)
  have hV0 := (hU1).then_drew
  have c0 := hS.out _ hV0
  go_wp2_with fail
  refine wp_region_held_drew (S := (fun w' => w'.cell? ⟨N, 6, none⟩ = some (.string ⟨version.toArray⟩) ∧ w'.cell? ⟨N, 7, none⟩ = some (.int .i64 size) ∧ w'.cell? ⟨N, 8, none⟩ = some (.int .i64 hre) ∧ w'.cell? ⟨N, 9, none⟩ = some (.int .i64 him) ∧ w'.cell? ⟨N, 10, none⟩ = some (.bool gone) ∧ w'.cell? ⟨N, 11, none⟩ = some (.bool null) ∧ w'.cell? ⟨N, 12, none⟩ = some (.string ⟨body.toArray⟩))) (by kernel_rfl) (by (try dsimp only); exact c0) (fun hHeld => ?_)
  (refine wpAnyH_take (i := 0) (oi := ?oi_2_0) (v := ?v_2_0) ?ho_2_0 ?hs_2_0 ?hf_2_0 ?hr_2_0 ?hQ_2_0 ?hy_2_0 ?hS_2_0 ?rest_2_0; (case hr_2_0 => kernel_rfl); (case hf_2_0 => kernel_rfl); (case hs_2_0 => kernel_rfl); (case ho_2_0 => (simp only [List.getElem?_toArray, List.getElem?_cons_succ, List.getElem?_cons_zero]; rfl)); (case hS_2_0 => assumption); (case hQ_2_0 => exact fun _ _ _ h => h); (case hy_2_0 => (refine Or.inl ⟨by rfl, ?_⟩; (intro w hSw; (try dsimp only at hSw); go_simp) <;> with_reducible rfl)); (try simp only [Act.put, List.setIfInBounds_toArray, List.set_cons_zero, List.set_cons_succ]))
  (refine wpAnyH_take (i := 1) (oi := ?oi_2_1) (v := ?v_2_1) ?ho_2_1 ?hs_2_1 ?hf_2_1 ?hr_2_1 ?hQ_2_1 ?hy_2_1 ?hS_2_1 ?rest_2_1; (case hr_2_1 => kernel_rfl); (case hf_2_1 => kernel_rfl); (case hs_2_1 => kernel_rfl); (case ho_2_1 => (simp only [List.getElem?_toArray, List.getElem?_cons_succ, List.getElem?_cons_zero]; rfl)); (case hS_2_1 => assumption); (case hQ_2_1 => exact fun _ _ _ h => h); (case hy_2_1 => (refine Or.inl ⟨by rfl, ?_⟩; (intro w hSw; (try dsimp only at hSw); go_simp) <;> with_reducible rfl)); (try simp only [Act.put, List.setIfInBounds_toArray, List.set_cons_zero, List.set_cons_succ]))
  (refine wpAnyH_take (i := 2) (oi := ?oi_2_2) (v := ?v_2_2) ?ho_2_2 ?hs_2_2 ?hf_2_2 ?hr_2_2 ?hQ_2_2 ?hy_2_2 ?hS_2_2 ?rest_2_2; (case hr_2_2 => kernel_rfl); (case hf_2_2 => kernel_rfl); (case hs_2_2 => kernel_rfl); (case ho_2_2 => (simp only [List.getElem?_toArray, List.getElem?_cons_succ, List.getElem?_cons_zero]; rfl)); (case hS_2_2 => assumption); (case hQ_2_2 => exact fun _ _ _ h => h); (case hy_2_2 => (refine Or.inl ⟨by rfl, ?_⟩; (intro w hSw; (try dsimp only at hSw); go_simp) <;> with_reducible rfl)); (try simp only [Act.put, List.setIfInBounds_toArray, List.set_cons_zero, List.set_cons_succ]))
  (refine wpAnyH_take (i := 3) (oi := ?oi_2_3) (v := ?v_2_3) ?ho_2_3 ?hs_2_3 ?hf_2_3 ?hr_2_3 ?hQ_2_3 ?hy_2_3 ?hS_2_3 ?rest_2_3; (case hr_2_3 => kernel_rfl); (case hf_2_3 => kernel_rfl); (case hs_2_3 => kernel_rfl); (case ho_2_3 => (simp only [List.getElem?_toArray, List.getElem?_cons_succ, List.getElem?_cons_zero]; rfl)); (case hS_2_3 => assumption); (case hQ_2_3 => exact fun _ _ _ h => h); (case hy_2_3 => (refine Or.inl ⟨by rfl, ?_⟩; (intro w hSw; (try dsimp only at hSw); go_simp) <;> with_reducible rfl)); (try simp only [Act.put, List.setIfInBounds_toArray, List.set_cons_zero, List.set_cons_succ]))
  (refine wpAnyH_take (i := 6) (oi := ?oi_2_6) (v := ?v_2_6) ?ho_2_6 ?hs_2_6 ?hf_2_6 ?hr_2_6 ?hQ_2_6 ?hy_2_6 ?hS_2_6 ?rest_2_6; (case hr_2_6 => kernel_rfl); (case hf_2_6 => kernel_rfl); (case hs_2_6 => kernel_rfl); (case ho_2_6 => (simp only [List.getElem?_toArray, List.getElem?_cons_succ, List.getElem?_cons_zero]; rfl)); (case hS_2_6 => assumption); (case hQ_2_6 => exact fun _ _ _ h => h); (case hy_2_6 => (refine Or.inl ⟨by rfl, ?_⟩; (intro w hSw; (try dsimp only at hSw); go_simp) <;> with_reducible rfl)); (try simp only [Act.put, List.setIfInBounds_toArray, List.set_cons_zero, List.set_cons_succ]))
  (refine wpAnyH_take (i := 7) (oi := ?oi_2_7) (v := ?v_2_7) ?ho_2_7 ?hs_2_7 ?hf_2_7 ?hr_2_7 ?hQ_2_7 ?hy_2_7 ?hS_2_7 ?rest_2_7; (case hr_2_7 => kernel_rfl); (case hf_2_7 => kernel_rfl); (case hs_2_7 => kernel_rfl); (case ho_2_7 => (simp only [List.getElem?_toArray, List.getElem?_cons_succ, List.getElem?_cons_zero]; rfl)); (case hS_2_7 => assumption); (case hQ_2_7 => exact fun _ _ _ h => h); (case hy_2_7 => (refine Or.inl ⟨by rfl, ?_⟩; (intro w hSw; (try dsimp only at hSw); go_simp) <;> with_reducible rfl)); (try simp only [Act.put, List.setIfInBounds_toArray, List.set_cons_zero, List.set_cons_succ]))
  (refine wpAnyH_take (i := 8) (oi := ?oi_2_8) (v := ?v_2_8) ?ho_2_8 ?hs_2_8 ?hf_2_8 ?hr_2_8 ?hQ_2_8 ?hy_2_8 ?hS_2_8 ?rest_2_8; (case hr_2_8 => kernel_rfl); (case hf_2_8 => kernel_rfl); (case hs_2_8 => kernel_rfl); (case ho_2_8 => (simp only [List.getElem?_toArray, List.getElem?_cons_succ, List.getElem?_cons_zero]; rfl)); (case hS_2_8 => assumption); (case hQ_2_8 => exact fun _ _ _ h => h); (case hy_2_8 => (refine Or.inl ⟨by rfl, ?_⟩; (intro w hSw; (try dsimp only at hSw); go_simp) <;> with_reducible rfl)); (try simp only [Act.put, List.setIfInBounds_toArray, List.set_cons_zero, List.set_cons_succ]))
  (refine wpAnyH_take (i := 11) (oi := ?oi_2_11) (v := ?v_2_11) ?ho_2_11 ?hs_2_11 ?hf_2_11 ?hr_2_11 ?hQ_2_11 ?hy_2_11 ?hS_2_11 ?rest_2_11; (case hr_2_11 => kernel_rfl); (case hf_2_11 => kernel_rfl); (case hs_2_11 => kernel_rfl); (case ho_2_11 => (simp only [List.getElem?_toArray, List.getElem?_cons_succ, List.getElem?_cons_zero]; rfl)); (case hS_2_11 => assumption); (case hQ_2_11 => exact fun _ _ _ h => h); (case hy_2_11 => (refine Or.inl ⟨by rfl, ?_⟩; (intro w hSw; (try dsimp only at hSw); go_simp) <;> with_reducible rfl)); (try simp only [Act.put, List.setIfInBounds_toArray, List.set_cons_zero, List.set_cons_succ]))
  (refine wpAnyH_take (i := 12) (oi := ?oi_2_12) (v := ?v_2_12) ?ho_2_12 ?hs_2_12 ?hf_2_12 ?hr_2_12 ?hQ_2_12 ?hy_2_12 ?hS_2_12 ?rest_2_12; (case hr_2_12 => kernel_rfl); (case hf_2_12 => kernel_rfl); (case hs_2_12 => kernel_rfl); (case ho_2_12 => (simp only [List.getElem?_toArray, List.getElem?_cons_succ, List.getElem?_cons_zero]; rfl)); (case hS_2_12 => assumption); (case hQ_2_12 => exact fun _ _ _ h => h); (case hy_2_12 => (refine Or.inl ⟨by rfl, ?_⟩; (intro w hSw; (try dsimp only at hSw); go_simp) <;> with_reducible rfl)); (try simp only [Act.put, List.setIfInBounds_toArray, List.set_cons_zero, List.set_cons_succ]))
  (refine wpAnyH_take (i := 13) (oi := ?oi_2_13) (v := ?v_2_13) ?ho_2_13 ?hs_2_13 ?hf_2_13 ?hr_2_13 ?hQ_2_13 ?hy_2_13 ?hS_2_13 ?rest_2_13; (case hr_2_13 => kernel_rfl); (case hf_2_13 => kernel_rfl); (case hs_2_13 => kernel_rfl); (case ho_2_13 => (simp only [List.getElem?_toArray, List.getElem?_cons_succ, List.getElem?_cons_zero]; rfl)); (case hS_2_13 => assumption); (case hQ_2_13 => exact fun _ _ _ h => h); (case hy_2_13 => (refine Or.inl ⟨by rfl, ?_⟩; (intro w hSw; (try dsimp only at hSw); go_simp) <;> with_reducible rfl)); (try simp only [Act.put, List.setIfInBounds_toArray, List.set_cons_zero, List.set_cons_succ]))
  (refine wpAnyH_ready (rs := [4]) (by kernel_rfl) (by simp) ?_; refine AllReadyH.cons (o := ?oo_2_4) ?hoo_2_4 ?hst_2_4 AllReadyH.nil; (case hoo_2_4 => (simp only [List.getElem?_toArray, List.getElem?_cons_succ, List.getElem?_cons_zero]; rfl)); intro K hK; go_simp; ((go_at_call 63; (refine (cp6.out _ hV0).mono ?_); rintro en y6 ⟨rfl, hu1⟩; have hV1 := hV0.trans hu1 fun _ _ h => h; have c1 := hS.out _ hV1)); (try go_wp2_with fail); refine hK.out _ _ (by (try dsimp only); exact c1) (fun hHeld => ?_); clear hK K; (try simp only [Act.put, List.setIfInBounds_toArray, List.set_cons_zero, List.set_cons_succ]))
  (refine wpAnyH_take (i := 5) (oi := ?oi_2_5) (v := ?v_2_5) ?ho_2_5 ?hs_2_5 ?hf_2_5 ?hr_2_5 ?hQ_2_5 ?hy_2_5 ?hS_2_5 ?rest_2_5; (case hr_2_5 => kernel_rfl); (case hf_2_5 => kernel_rfl); (case hs_2_5 => kernel_rfl); (case ho_2_5 => (simp only [List.getElem?_toArray, List.getElem?_cons_succ, List.getElem?_cons_zero]; rfl)); (case hS_2_5 => assumption); (case hQ_2_5 => exact fun _ _ _ h => h); (case hy_2_5 => (refine Or.inl ⟨by rfl, ?_⟩; (intro w hSw; (try dsimp only at hSw); go_simp) <;> with_reducible rfl)); (try simp only [Act.put, List.setIfInBounds_toArray, List.set_cons_zero, List.set_cons_succ]))
  (refine wpAnyH_ready (rs := [9]) (by kernel_rfl) (by simp) ?_; refine AllReadyH.cons (o := ?oo_2_9) ?hoo_2_9 ?hst_2_9 AllReadyH.nil; (case hoo_2_9 => (simp only [List.getElem?_toArray, List.getElem?_cons_succ, List.getElem?_cons_zero]; rfl)); intro K hK; go_simp; ((go_at_call 65; (refine (cp7.out _ hV1).mono ?_); rintro en y7 ⟨rfl, hu2⟩; have hV2 := hV1.trans hu2 fun _ _ h => h; have c2 := hS.out _ hV2)); (try go_wp2_with fail); refine hK.out _ _ (by (try dsimp only); exact c2) (fun hHeld => ?_); clear hK K; (try simp only [Act.put, List.setIfInBounds_toArray, List.set_cons_zero, List.set_cons_succ]))
  (refine wpAnyH_take (i := 10) (oi := ?oi_2_10) (v := ?v_2_10) ?ho_2_10 ?hs_2_10 ?hf_2_10 ?hr_2_10 ?hQ_2_10 ?hy_2_10 ?hS_2_10 ?rest_2_10; (case hr_2_10 => kernel_rfl); (case hf_2_10 => kernel_rfl); (case hs_2_10 => kernel_rfl); (case ho_2_10 => (simp only [List.getElem?_toArray, List.getElem?_cons_succ, List.getElem?_cons_zero]; rfl)); (case hS_2_10 => assumption); (case hQ_2_10 => exact fun _ _ _ h => h); (case hy_2_10 => (refine Or.inl ⟨by rfl, ?_⟩; (intro w hSw; (try dsimp only at hSw); go_simp) <;> with_reducible rfl)); (try simp only [Act.put, List.setIfInBounds_toArray, List.set_cons_zero, List.set_cons_succ]))
  (refine wpAnyH_ready (rs := [14]) (by kernel_rfl) (by simp) ?_; refine AllReadyH.cons (o := ?oo_2_14) ?hoo_2_14 ?hst_2_14 AllReadyH.nil; (case hoo_2_14 => (simp only [List.getElem?_toArray, List.getElem?_cons_succ, List.getElem?_cons_zero]; rfl)); intro K hK; go_simp; ((go_at_call 63; (refine (cp8.out _ hV2).mono ?_); rintro en y8 ⟨rfl, hu3⟩; have hV3 := hV2.trans hu3 fun _ _ h => h; have c3 := hS.out _ hV3)); (try go_wp2_with fail); refine hK.out _ _ (by (try dsimp only); exact c3) (fun hHeld => ?_); clear hK K; (try simp only [Act.put, List.setIfInBounds_toArray, List.set_cons_zero, List.set_cons_succ]))
  (refine wpAnyH_take (i := 15) (oi := ?oi_2_15) (v := ?v_2_15) ?ho_2_15 ?hs_2_15 ?hf_2_15 ?hr_2_15 ?hQ_2_15 ?hy_2_15 ?hS_2_15 ?rest_2_15; (case hr_2_15 => kernel_rfl); (case hf_2_15 => kernel_rfl); (case hs_2_15 => kernel_rfl); (case ho_2_15 => (simp only [List.getElem?_toArray, List.getElem?_cons_succ, List.getElem?_cons_zero]; rfl)); (case hS_2_15 => assumption); (case hQ_2_15 => exact fun _ _ _ h => h); (case hy_2_15 => (refine Or.inl ⟨by rfl, ?_⟩; (intro w hSw; (try dsimp only at hSw); go_simp) <;> with_reducible rfl)); (try simp only [Act.put, List.setIfInBounds_toArray, List.set_cons_zero, List.set_cons_succ]))
  (refine wpAnyH_take (i := 16) (oi := ?oi_2_16) (v := ?v_2_16) ?ho_2_16 ?hs_2_16 ?hf_2_16 ?hr_2_16 ?hQ_2_16 ?hy_2_16 ?hS_2_16 ?rest_2_16; (case hr_2_16 => kernel_rfl); (case hf_2_16 => kernel_rfl); (case hs_2_16 => kernel_rfl); (case ho_2_16 => (simp only [List.getElem?_toArray, List.getElem?_cons_succ, List.getElem?_cons_zero]; rfl)); (case hS_2_16 => assumption); (case hQ_2_16 => exact fun _ _ _ h => h); (case hy_2_16 => (refine Or.inl ⟨by rfl, ?_⟩; (intro w hSw; (try dsimp only at hSw); go_simp) <;> with_reducible rfl)); (try simp only [Act.put, List.setIfInBounds_toArray, List.set_cons_zero, List.set_cons_succ]))
  refine wpAnyH_done (by kernel_rfl) ?_ _
  rw [hfold5.out]
  clear cp6 cp7 cp8 hS hfold5 hl5_1 hl5_2 hl5_3
  clear c0 c1 c2 c3 hu1 hu2 hu3
  obtain ⟨A2, eA2⟩ : ∃ A, A = A1 ++ x6 ++ x7 ++ x8 := ⟨_, rfl⟩
  have lA2 : A2.length ≤ 3200000 := by rw [eA2]; simp only [List.length_append]; omega
  rw [← eA2]
  replace eA2 := Lib.hid eA2
  have hU2 := hV3
  clear hV0
  have cp9 : Hid (∀ w', Upd Non W0 w' → Calls Tryz.prog 66 #[.slice p1 names.length q1] w' (Ret (.string ⟨(putTxs names).toArray⟩) w')) := Lib.hid (fun w' hu => rPutTexts _ names w' (hRA.out w' hu).n k5.out)
  have lp9 : (putTxs names).length ≤ 68719800000 := putTxs_most k5.out
  generalize hp9 : putTxs names = x9 at cp9 lp9
  replace hp9 := Lib.hid hp9
  have cp10 : Hid (∀ w', Upd Non W0 w' → Calls Tryz.prog 66 #[.slice p2 lnames.length q2] w' (Ret (.string ⟨(putTxs lnames).toArray⟩) w')) := Lib.hid (fun w' hu => rPutTexts _ lnames w' (hRA.out w' hu).ln k6.out)
  have lp10 : (putTxs lnames).length ≤ 68719800000 := putTxs_most k6.out
  generalize hp10 : putTxs lnames = x10 at cp10 lp10
  replace hp10 := Lib.hid hp10
  have cp11 : Hid (∀ w', Upd Non W0 w' → Calls Tryz.prog 66 #[.slice p3 lpre.length q3] w' (Ret (.string ⟨(putTxs lpre).toArray⟩) w')) := Lib.hid (fun w' hu => rPutTexts _ lpre w' (hRA.out w' hu).lp k7.out)
  have lp11 : (putTxs lpre).length ≤ 68719800000 := putTxs_most k7.out
  generalize hp11 : putTxs lpre = x11 at cp11 lp11
  replace hp11 := Lib.hid hp11
  have cp12 : Hid (∀ w', Upd Non W0 w' → Calls Tryz.prog 63 #[.string ⟨next.toArray⟩, .int .i64 4] w' (Ret (.string ⟨(txtF next 4).toArray⟩) w')) := Lib.hid (fun w' hu => rText next 4 w' (by omega) (by omega))
  have lp12 : (txtF next 4).length ≤ 1048580 := by rw [txtF_len]; omega
  generalize hp12 : txtF next 4 = x12 at cp12 lp12
  replace hp12 := Lib.hid hp12
  have cp13 : Hid (∀ w', Upd Non W0 w' → Calls Tryz.prog 67 #[.bool more] w' (Ret (.string ⟨(truF more).toArray⟩) w')) := Lib.hid (fun w' hu => rTruth more w')
  have lp13 : (truF more).length ≤ 1 := Nat.le_refl _
  generalize hp13 : truF more = x13 at cp13 lp13
  replace hp13 := Lib.hid hp13
  have hl8_1 : (9223372036854775807 < A2.length + x9.length) = False := eq_false (by omega)
  have hl8_2 : (9223372036854775807 < A2.length + x9.length + x10.length) = False := eq_false (by omega)
  have hl8_3 : (9223372036854775807 < A2.length + x9.length + x10.length + x11.length) = False := eq_false (by omega)
  have hl8_4 : (9223372036854775807 < A2.length + x9.length + x10.length + x11.length + x12.length) = False := eq_false (by omega)
  have hl8_5 : (9223372036854775807 < A2.length + x9.length + x10.length + x11.length + x12.length + x13.length) = False := eq_false (by omega)
  have hfold8 : Value.string ((⟨A2.toArray⟩ : ByteArray) ++ ⟨x9.toArray⟩ ++ ⟨x10.toArray⟩ ++ ⟨x11.toArray⟩ ++ ⟨x12.toArray⟩ ++ ⟨x13.toArray⟩) = .string ⟨(A2 ++ x9 ++ x10 ++ x11 ++ x12 ++ x13).toArray⟩ := by rw [ByteArray.mk_append_mk, ByteArray.mk_append_mk, ByteArray.mk_append_mk, ByteArray.mk_append_mk, ByteArray.mk_append_mk] <;> simp
  replace hfold8 := Lib.hid hfold8
  have hS : Hid (∀ w', Upd Non W0 w' → w'.cell? ⟨N, 13, none⟩ = some (.slice p1 names.length q1) ∧ w'.cell? ⟨N, 14, none⟩ = some (.slice p2 lnames.length q2) ∧ w'.cell? ⟨N, 15, none⟩ = some (.slice p3 lpre.length q3) ∧ w'.cell? ⟨N, 16, none⟩ = some (.string ⟨next.toArray⟩) ∧ w'.cell? ⟨N, 17, none⟩ = some (.bool more)) := Lib.hid (fun w' hu => ⟨hK.out w' hu 13 _ rfl, hK.out w' hu 14 _ rfl, hK.out w' hu 15 _ rfl, hK.out w' hu 16 _ rfl, hK.out w' hu 17 _ rfl⟩)
  have hV0 := (hU2).then_drew
  have c0 := hS.out _ hV0
  go_wp2_with fail
  refine wp_region_held_drew (S := (fun w' => w'.cell? ⟨N, 13, none⟩ = some (.slice p1 names.length q1) ∧ w'.cell? ⟨N, 14, none⟩ = some (.slice p2 lnames.length q2) ∧ w'.cell? ⟨N, 15, none⟩ = some (.slice p3 lpre.length q3) ∧ w'.cell? ⟨N, 16, none⟩ = some (.string ⟨next.toArray⟩) ∧ w'.cell? ⟨N, 17, none⟩ = some (.bool more))) (by kernel_rfl) (by (try dsimp only); exact c0) (fun hHeld => ?_)
  (refine wpAnyH_take (i := 0) (oi := ?oi_3_0) (v := ?v_3_0) ?ho_3_0 ?hs_3_0 ?hf_3_0 ?hr_3_0 ?hQ_3_0 ?hy_3_0 ?hS_3_0 ?rest_3_0; (case hr_3_0 => kernel_rfl); (case hf_3_0 => kernel_rfl); (case hs_3_0 => kernel_rfl); (case ho_3_0 => (simp only [List.getElem?_toArray, List.getElem?_cons_succ, List.getElem?_cons_zero]; rfl)); (case hS_3_0 => assumption); (case hQ_3_0 => exact fun _ _ _ h => h); (case hy_3_0 => (refine Or.inl ⟨by rfl, ?_⟩; (intro w hSw; (try dsimp only at hSw); go_simp) <;> with_reducible rfl)); (try simp only [Act.put, List.setIfInBounds_toArray, List.set_cons_zero, List.set_cons_succ]))
  (refine wpAnyH_take (i := 1) (oi := ?oi_3_1) (v := ?v_3_1) ?ho_3_1 ?hs_3_1 ?hf_3_1 ?hr_3_1 ?hQ_3_1 ?hy_3_1 ?hS_3_1 ?rest_3_1; (case hr_3_1 => kernel_rfl); (case hf_3_1 => kernel_rfl); (case hs_3_1 => kernel_rfl); (case ho_3_1 => (simp only [List.getElem?_toArray, List.getElem?_cons_succ, List.getElem?_cons_zero]; rfl)); (case hS_3_1 => assumption); (case hQ_3_1 => exact fun _ _ _ h => h); (case hy_3_1 => (refine Or.inl ⟨by rfl, ?_⟩; (intro w hSw; (try dsimp only at hSw); go_simp) <;> with_reducible rfl)); (try simp only [Act.put, List.setIfInBounds_toArray, List.set_cons_zero, List.set_cons_succ]))
  (refine wpAnyH_take (i := 2) (oi := ?oi_3_2) (v := ?v_3_2) ?ho_3_2 ?hs_3_2 ?hf_3_2 ?hr_3_2 ?hQ_3_2 ?hy_3_2 ?hS_3_2 ?rest_3_2; (case hr_3_2 => kernel_rfl); (case hf_3_2 => kernel_rfl); (case hs_3_2 => kernel_rfl); (case ho_3_2 => (simp only [List.getElem?_toArray, List.getElem?_cons_succ, List.getElem?_cons_zero]; rfl)); (case hS_3_2 => assumption); (case hQ_3_2 => exact fun _ _ _ h => h); (case hy_3_2 => (refine Or.inl ⟨by rfl, ?_⟩; (intro w hSw; (try dsimp only at hSw); go_simp) <;> with_reducible rfl)); (try simp only [Act.put, List.setIfInBounds_toArray, List.set_cons_zero, List.set_cons_succ]))
  (refine wpAnyH_take (i := 5) (oi := ?oi_3_5) (v := ?v_3_5) ?ho_3_5 ?hs_3_5 ?hf_3_5 ?hr_3_5 ?hQ_3_5 ?hy_3_5 ?hS_3_5 ?rest_3_5; (case hr_3_5 => kernel_rfl); (case hf_3_5 => kernel_rfl); (case hs_3_5 => kernel_rfl); (case ho_3_5 => (simp only [List.getElem?_toArray, List.getElem?_cons_succ, List.getElem?_cons_zero]; rfl)); (case hS_3_5 => assumption); (case hQ_3_5 => exact fun _ _ _ h => h); (case hy_3_5 => (refine Or.inl ⟨by rfl, ?_⟩; (intro w hSw; (try dsimp only at hSw); go_simp) <;> with_reducible rfl)); (try simp only [Act.put, List.setIfInBounds_toArray, List.set_cons_zero, List.set_cons_succ]))
  (refine wpAnyH_take (i := 6) (oi := ?oi_3_6) (v := ?v_3_6) ?ho_3_6 ?hs_3_6 ?hf_3_6 ?hr_3_6 ?hQ_3_6 ?hy_3_6 ?hS_3_6 ?rest_3_6; (case hr_3_6 => kernel_rfl); (case hf_3_6 => kernel_rfl); (case hs_3_6 => kernel_rfl); (case ho_3_6 => (simp only [List.getElem?_toArray, List.getElem?_cons_succ, List.getElem?_cons_zero]; rfl)); (case hS_3_6 => assumption); (case hQ_3_6 => exact fun _ _ _ h => h); (case hy_3_6 => (refine Or.inl ⟨by rfl, ?_⟩; (intro w hSw; (try dsimp only at hSw); go_simp) <;> with_reducible rfl)); (try simp only [Act.put, List.setIfInBounds_toArray, List.set_cons_zero, List.set_cons_succ]))
  (refine wpAnyH_take (i := 7) (oi := ?oi_3_7) (v := ?v_3_7) ?ho_3_7 ?hs_3_7 ?hf_3_7 ?hr_3_7 ?hQ_3_7 ?hy_3_7 ?hS_3_7 ?rest_3_7; (case hr_3_7 => kernel_rfl); (case hf_3_7 => kernel_rfl); (case hs_3_7 => kernel_rfl); (case ho_3_7 => (simp only [List.getElem?_toArray, List.getElem?_cons_succ, List.getElem?_cons_zero]; rfl)); (case hS_3_7 => assumption); (case hQ_3_7 => exact fun _ _ _ h => h); (case hy_3_7 => (refine Or.inl ⟨by rfl, ?_⟩; (intro w hSw; (try dsimp only at hSw); go_simp) <;> with_reducible rfl)); (try simp only [Act.put, List.setIfInBounds_toArray, List.set_cons_zero, List.set_cons_succ]))
  (refine wpAnyH_take (i := 10) (oi := ?oi_3_10) (v := ?v_3_10) ?ho_3_10 ?hs_3_10 ?hf_3_10 ?hr_3_10 ?hQ_3_10 ?hy_3_10 ?hS_3_10 ?rest_3_10; (case hr_3_10 => kernel_rfl); (case hf_3_10 => kernel_rfl); (case hs_3_10 => kernel_rfl); (case ho_3_10 => (simp only [List.getElem?_toArray, List.getElem?_cons_succ, List.getElem?_cons_zero]; rfl)); (case hS_3_10 => assumption); (case hQ_3_10 => exact fun _ _ _ h => h); (case hy_3_10 => (refine Or.inl ⟨by rfl, ?_⟩; (intro w hSw; (try dsimp only at hSw); go_simp) <;> with_reducible rfl)); (try simp only [Act.put, List.setIfInBounds_toArray, List.set_cons_zero, List.set_cons_succ]))
  (refine wpAnyH_take (i := 11) (oi := ?oi_3_11) (v := ?v_3_11) ?ho_3_11 ?hs_3_11 ?hf_3_11 ?hr_3_11 ?hQ_3_11 ?hy_3_11 ?hS_3_11 ?rest_3_11; (case hr_3_11 => kernel_rfl); (case hf_3_11 => kernel_rfl); (case hs_3_11 => kernel_rfl); (case ho_3_11 => (simp only [List.getElem?_toArray, List.getElem?_cons_succ, List.getElem?_cons_zero]; rfl)); (case hS_3_11 => assumption); (case hQ_3_11 => exact fun _ _ _ h => h); (case hy_3_11 => (refine Or.inl ⟨by rfl, ?_⟩; (intro w hSw; (try dsimp only at hSw); go_simp) <;> with_reducible rfl)); (try simp only [Act.put, List.setIfInBounds_toArray, List.set_cons_zero, List.set_cons_succ]))
  (refine wpAnyH_take (i := 12) (oi := ?oi_3_12) (v := ?v_3_12) ?ho_3_12 ?hs_3_12 ?hf_3_12 ?hr_3_12 ?hQ_3_12 ?hy_3_12 ?hS_3_12 ?rest_3_12; (case hr_3_12 => kernel_rfl); (case hf_3_12 => kernel_rfl); (case hs_3_12 => kernel_rfl); (case ho_3_12 => (simp only [List.getElem?_toArray, List.getElem?_cons_succ, List.getElem?_cons_zero]; rfl)); (case hS_3_12 => assumption); (case hQ_3_12 => exact fun _ _ _ h => h); (case hy_3_12 => (refine Or.inl ⟨by rfl, ?_⟩; (intro w hSw; (try dsimp only at hSw); go_simp) <;> with_reducible rfl)); (try simp only [Act.put, List.setIfInBounds_toArray, List.set_cons_zero, List.set_cons_succ]))
  (refine wpAnyH_take (i := 15) (oi := ?oi_3_15) (v := ?v_3_15) ?ho_3_15 ?hs_3_15 ?hf_3_15 ?hr_3_15 ?hQ_3_15 ?hy_3_15 ?hS_3_15 ?rest_3_15; (case hr_3_15 => kernel_rfl); (case hf_3_15 => kernel_rfl); (case hs_3_15 => kernel_rfl); (case ho_3_15 => (simp only [List.getElem?_toArray, List.getElem?_cons_succ, List.getElem?_cons_zero]; rfl)); (case hS_3_15 => assumption); (case hQ_3_15 => exact fun _ _ _ h => h); (case hy_3_15 => (refine Or.inl ⟨by rfl, ?_⟩; (intro w hSw; (try dsimp only at hSw); go_simp) <;> with_reducible rfl)); (try simp only [Act.put, List.setIfInBounds_toArray, List.set_cons_zero, List.set_cons_succ]))
  (refine wpAnyH_take (i := 16) (oi := ?oi_3_16) (v := ?v_3_16) ?ho_3_16 ?hs_3_16 ?hf_3_16 ?hr_3_16 ?hQ_3_16 ?hy_3_16 ?hS_3_16 ?rest_3_16; (case hr_3_16 => kernel_rfl); (case hf_3_16 => kernel_rfl); (case hs_3_16 => kernel_rfl); (case ho_3_16 => (simp only [List.getElem?_toArray, List.getElem?_cons_succ, List.getElem?_cons_zero]; rfl)); (case hS_3_16 => assumption); (case hQ_3_16 => exact fun _ _ _ h => h); (case hy_3_16 => (refine Or.inl ⟨by rfl, ?_⟩; (intro w hSw; (try dsimp only at hSw); go_simp) <;> with_reducible rfl)); (try simp only [Act.put, List.setIfInBounds_toArray, List.set_cons_zero, List.set_cons_succ]))
  (refine wpAnyH_take (i := 17) (oi := ?oi_3_17) (v := ?v_3_17) ?ho_3_17 ?hs_3_17 ?hf_3_17 ?hr_3_17 ?hQ_3_17 ?hy_3_17 ?hS_3_17 ?rest_3_17; (case hr_3_17 => kernel_rfl); (case hf_3_17 => kernel_rfl); (case hs_3_17 => kernel_rfl); (case ho_3_17 => (simp only [List.getElem?_toArray, List.getElem?_cons_succ, List.getElem?_cons_zero]; rfl)); (case hS_3_17 => assumption); (case hQ_3_17 => exact fun _ _ _ h => h); (case hy_3_17 => (refine Or.inl ⟨by rfl, ?_⟩; (intro w hSw; (try dsimp only at hSw); go_simp) <;> with_reducible rfl)); (try simp only [Act.put, List.setIfInBounds_toArray, List.set_cons_zero, List.set_cons_succ]))
  (refine wpAnyH_take (i := 20) (oi := ?oi_3_20) (v := ?v_3_20) ?ho_3_20 ?hs_3_20 ?hf_3_20 ?hr_3_20 ?hQ_3_20 ?hy_3_20 ?hS_3_20 ?rest_3_20; (case hr_3_20 => kernel_rfl); (case hf_3_20 => kernel_rfl); (case hs_3_20 => kernel_rfl); (case ho_3_20 => (simp only [List.getElem?_toArray, List.getElem?_cons_succ, List.getElem?_cons_zero]; rfl)); (case hS_3_20 => assumption); (case hQ_3_20 => exact fun _ _ _ h => h); (case hy_3_20 => (refine Or.inl ⟨by rfl, ?_⟩; (intro w hSw; (try dsimp only at hSw); go_simp) <;> with_reducible rfl)); (try simp only [Act.put, List.setIfInBounds_toArray, List.set_cons_zero, List.set_cons_succ]))
  (refine wpAnyH_take (i := 21) (oi := ?oi_3_21) (v := ?v_3_21) ?ho_3_21 ?hs_3_21 ?hf_3_21 ?hr_3_21 ?hQ_3_21 ?hy_3_21 ?hS_3_21 ?rest_3_21; (case hr_3_21 => kernel_rfl); (case hf_3_21 => kernel_rfl); (case hs_3_21 => kernel_rfl); (case ho_3_21 => (simp only [List.getElem?_toArray, List.getElem?_cons_succ, List.getElem?_cons_zero]; rfl)); (case hS_3_21 => assumption); (case hQ_3_21 => exact fun _ _ _ h => h); (case hy_3_21 => (refine Or.inl ⟨by rfl, ?_⟩; (intro w hSw; (try dsimp only at hSw); go_simp) <;> with_reducible rfl)); (try simp only [Act.put, List.setIfInBounds_toArray, List.set_cons_zero, List.set_cons_succ]))
  (refine wpAnyH_take (i := 22) (oi := ?oi_3_22) (v := ?v_3_22) ?ho_3_22 ?hs_3_22 ?hf_3_22 ?hr_3_22 ?hQ_3_22 ?hy_3_22 ?hS_3_22 ?rest_3_22; (case hr_3_22 => kernel_rfl); (case hf_3_22 => kernel_rfl); (case hs_3_22 => kernel_rfl); (case ho_3_22 => (simp only [List.getElem?_toArray, List.getElem?_cons_succ, List.getElem?_cons_zero]; rfl)); (case hS_3_22 => assumption); (case hQ_3_22 => exact fun _ _ _ h => h); (case hy_3_22 => (refine Or.inl ⟨by rfl, ?_⟩; (intro w hSw; (try dsimp only at hSw); go_simp) <;> with_reducible rfl)); (try simp only [Act.put, List.setIfInBounds_toArray, List.set_cons_zero, List.set_cons_succ]))
  (refine wpAnyH_ready (rs := [3]) (by kernel_rfl) (by simp) ?_; refine AllReadyH.cons (o := ?oo_3_3) ?hoo_3_3 ?hst_3_3 AllReadyH.nil; (case hoo_3_3 => (simp only [List.getElem?_toArray, List.getElem?_cons_succ, List.getElem?_cons_zero]; rfl)); intro K hK; go_simp; ((go_at_call 66; (refine (cp9.out _ hV0).mono ?_); rintro en y9 ⟨rfl, hu1⟩; have hV1 := hV0.trans hu1 fun _ _ h => h; have c1 := hS.out _ hV1)); (try go_wp2_with fail); refine hK.out _ _ (by (try dsimp only); exact c1) (fun hHeld => ?_); clear hK K; (try simp only [Act.put, List.setIfInBounds_toArray, List.set_cons_zero, List.set_cons_succ]))
  (refine wpAnyH_take (i := 4) (oi := ?oi_3_4) (v := ?v_3_4) ?ho_3_4 ?hs_3_4 ?hf_3_4 ?hr_3_4 ?hQ_3_4 ?hy_3_4 ?hS_3_4 ?rest_3_4; (case hr_3_4 => kernel_rfl); (case hf_3_4 => kernel_rfl); (case hs_3_4 => kernel_rfl); (case ho_3_4 => (simp only [List.getElem?_toArray, List.getElem?_cons_succ, List.getElem?_cons_zero]; rfl)); (case hS_3_4 => assumption); (case hQ_3_4 => exact fun _ _ _ h => h); (case hy_3_4 => (refine Or.inl ⟨by rfl, ?_⟩; (intro w hSw; (try dsimp only at hSw); go_simp) <;> with_reducible rfl)); (try simp only [Act.put, List.setIfInBounds_toArray, List.set_cons_zero, List.set_cons_succ]))
  (refine wpAnyH_ready (rs := [8]) (by kernel_rfl) (by simp) ?_; refine AllReadyH.cons (o := ?oo_3_8) ?hoo_3_8 ?hst_3_8 AllReadyH.nil; (case hoo_3_8 => (simp only [List.getElem?_toArray, List.getElem?_cons_succ, List.getElem?_cons_zero]; rfl)); intro K hK; go_simp; ((go_at_call 66; (refine (cp10.out _ hV1).mono ?_); rintro en y10 ⟨rfl, hu2⟩; have hV2 := hV1.trans hu2 fun _ _ h => h; have c2 := hS.out _ hV2)); (try go_wp2_with fail); refine hK.out _ _ (by (try dsimp only); exact c2) (fun hHeld => ?_); clear hK K; (try simp only [Act.put, List.setIfInBounds_toArray, List.set_cons_zero, List.set_cons_succ]))
  (refine wpAnyH_take (i := 9) (oi := ?oi_3_9) (v := ?v_3_9) ?ho_3_9 ?hs_3_9 ?hf_3_9 ?hr_3_9 ?hQ_3_9 ?hy_3_9 ?hS_3_9 ?rest_3_9; (case hr_3_9 => kernel_rfl); (case hf_3_9 => kernel_rfl); (case hs_3_9 => kernel_rfl); (case ho_3_9 => (simp only [List.getElem?_toArray, List.getElem?_cons_succ, List.getElem?_cons_zero]; rfl)); (case hS_3_9 => assumption); (case hQ_3_9 => exact fun _ _ _ h => h); (case hy_3_9 => (refine Or.inl ⟨by rfl, ?_⟩; (intro w hSw; (try dsimp only at hSw); go_simp) <;> with_reducible rfl)); (try simp only [Act.put, List.setIfInBounds_toArray, List.set_cons_zero, List.set_cons_succ]))
  (refine wpAnyH_ready (rs := [13]) (by kernel_rfl) (by simp) ?_; refine AllReadyH.cons (o := ?oo_3_13) ?hoo_3_13 ?hst_3_13 AllReadyH.nil; (case hoo_3_13 => (simp only [List.getElem?_toArray, List.getElem?_cons_succ, List.getElem?_cons_zero]; rfl)); intro K hK; go_simp; ((go_at_call 66; (refine (cp11.out _ hV2).mono ?_); rintro en y11 ⟨rfl, hu3⟩; have hV3 := hV2.trans hu3 fun _ _ h => h; have c3 := hS.out _ hV3)); (try go_wp2_with fail); refine hK.out _ _ (by (try dsimp only); exact c3) (fun hHeld => ?_); clear hK K; (try simp only [Act.put, List.setIfInBounds_toArray, List.set_cons_zero, List.set_cons_succ]))
  (refine wpAnyH_take (i := 14) (oi := ?oi_3_14) (v := ?v_3_14) ?ho_3_14 ?hs_3_14 ?hf_3_14 ?hr_3_14 ?hQ_3_14 ?hy_3_14 ?hS_3_14 ?rest_3_14; (case hr_3_14 => kernel_rfl); (case hf_3_14 => kernel_rfl); (case hs_3_14 => kernel_rfl); (case ho_3_14 => (simp only [List.getElem?_toArray, List.getElem?_cons_succ, List.getElem?_cons_zero]; rfl)); (case hS_3_14 => assumption); (case hQ_3_14 => exact fun _ _ _ h => h); (case hy_3_14 => (refine Or.inl ⟨by rfl, ?_⟩; (intro w hSw; (try dsimp only at hSw); go_simp) <;> with_reducible rfl)); (try simp only [Act.put, List.setIfInBounds_toArray, List.set_cons_zero, List.set_cons_succ]))
  (refine wpAnyH_ready (rs := [18]) (by kernel_rfl) (by simp) ?_; refine AllReadyH.cons (o := ?oo_3_18) ?hoo_3_18 ?hst_3_18 AllReadyH.nil; (case hoo_3_18 => (simp only [List.getElem?_toArray, List.getElem?_cons_succ, List.getElem?_cons_zero]; rfl)); intro K hK; go_simp; ((go_at_call 63; (refine (cp12.out _ hV3).mono ?_); rintro en y12 ⟨rfl, hu4⟩; have hV4 := hV3.trans hu4 fun _ _ h => h; have c4 := hS.out _ hV4)); (try go_wp2_with fail); refine hK.out _ _ (by (try dsimp only); exact c4) (fun hHeld => ?_); clear hK K; (try simp only [Act.put, List.setIfInBounds_toArray, List.set_cons_zero, List.set_cons_succ]))
  (refine wpAnyH_take (i := 19) (oi := ?oi_3_19) (v := ?v_3_19) ?ho_3_19 ?hs_3_19 ?hf_3_19 ?hr_3_19 ?hQ_3_19 ?hy_3_19 ?hS_3_19 ?rest_3_19; (case hr_3_19 => kernel_rfl); (case hf_3_19 => kernel_rfl); (case hs_3_19 => kernel_rfl); (case ho_3_19 => (simp only [List.getElem?_toArray, List.getElem?_cons_succ, List.getElem?_cons_zero]; rfl)); (case hS_3_19 => assumption); (case hQ_3_19 => exact fun _ _ _ h => h); (case hy_3_19 => (refine Or.inl ⟨by rfl, ?_⟩; (intro w hSw; (try dsimp only at hSw); go_simp) <;> with_reducible rfl)); (try simp only [Act.put, List.setIfInBounds_toArray, List.set_cons_zero, List.set_cons_succ]))
  (refine wpAnyH_ready (rs := [23]) (by kernel_rfl) (by simp) ?_; refine AllReadyH.cons (o := ?oo_3_23) ?hoo_3_23 ?hst_3_23 AllReadyH.nil; (case hoo_3_23 => (simp only [List.getElem?_toArray, List.getElem?_cons_succ, List.getElem?_cons_zero]; rfl)); intro K hK; go_simp; ((go_at_call 67; (refine (cp13.out _ hV4).mono ?_); rintro en y13 ⟨rfl, hu5⟩; have hV5 := hV4.trans hu5 fun _ _ h => h; have c5 := hS.out _ hV5)); (try go_wp2_with fail); refine hK.out _ _ (by (try dsimp only); exact c5) (fun hHeld => ?_); clear hK K; (try simp only [Act.put, List.setIfInBounds_toArray, List.set_cons_zero, List.set_cons_succ]))
  (refine wpAnyH_take (i := 24) (oi := ?oi_3_24) (v := ?v_3_24) ?ho_3_24 ?hs_3_24 ?hf_3_24 ?hr_3_24 ?hQ_3_24 ?hy_3_24 ?hS_3_24 ?rest_3_24; (case hr_3_24 => kernel_rfl); (case hf_3_24 => kernel_rfl); (case hs_3_24 => kernel_rfl); (case ho_3_24 => (simp only [List.getElem?_toArray, List.getElem?_cons_succ, List.getElem?_cons_zero]; rfl)); (case hS_3_24 => assumption); (case hQ_3_24 => exact fun _ _ _ h => h); (case hy_3_24 => (refine Or.inl ⟨by rfl, ?_⟩; (intro w hSw; (try dsimp only at hSw); go_simp) <;> with_reducible rfl)); (try simp only [Act.put, List.setIfInBounds_toArray, List.set_cons_zero, List.set_cons_succ]))
  (refine wpAnyH_take (i := 25) (oi := ?oi_3_25) (v := ?v_3_25) ?ho_3_25 ?hs_3_25 ?hf_3_25 ?hr_3_25 ?hQ_3_25 ?hy_3_25 ?hS_3_25 ?rest_3_25; (case hr_3_25 => kernel_rfl); (case hf_3_25 => kernel_rfl); (case hs_3_25 => kernel_rfl); (case ho_3_25 => (simp only [List.getElem?_toArray, List.getElem?_cons_succ, List.getElem?_cons_zero]; rfl)); (case hS_3_25 => assumption); (case hQ_3_25 => exact fun _ _ _ h => h); (case hy_3_25 => (refine Or.inl ⟨by rfl, ?_⟩; (intro w hSw; (try dsimp only at hSw); go_simp) <;> with_reducible rfl)); (try simp only [Act.put, List.setIfInBounds_toArray, List.set_cons_zero, List.set_cons_succ]))
  refine wpAnyH_done (by kernel_rfl) ?_ _
  rw [hfold8.out]
  clear cp9 cp10 cp11 cp12 cp13 hS hfold8 hl8_1 hl8_2 hl8_3 hl8_4 hl8_5
  clear c0 c1 c2 c3 c4 c5 hu1 hu2 hu3 hu4 hu5
  obtain ⟨A3, eA3⟩ : ∃ A, A = A2 ++ x9 ++ x10 ++ x11 ++ x12 ++ x13 := ⟨_, rfl⟩
  have lA3 : A3.length ≤ 206164000000 := by rw [eA3]; simp only [List.length_append]; omega
  rw [← eA3]
  replace eA3 := Lib.hid eA3
  have hU3 := hV5
  clear hV0
  have cp14 : Hid (∀ w', Calls Tryz.prog 62 #[.int .i64 (lines.length : Int), .int .i64 2] w' (Ret (.string ⟨(fld (lines.length : Int) 2).toArray⟩) w')) := Lib.hid (fun w' => fld8 (lines.length : Int) 2 (by omega) (len64 k8a) w')
  have lp14 : (fld (lines.length : Int) 2).length ≤ 2 := Nat.le_of_eq (fld_length _ _)
  generalize hp14 : fld (lines.length : Int) 2 = x14 at cp14 lp14
  replace hp14 := Lib.hid hp14
  have hl14 : A3.length + x14.length ≤ 9223372036854775807 := by omega
  have hfold14 : Value.string ((⟨A3.toArray⟩ : ByteArray) ++ ⟨x14.toArray⟩) = .string ⟨(A3 ++ x14).toArray⟩ := by rw [ByteArray.mk_append_mk] <;> simp
  replace hfold14 := Lib.hid hfold14
  have z : y13.cell? ⟨N, 18, none⟩ = some (.slice p4 lines.length q4) := hK.out _ hU3 18 _ rfl
  go_wp2_with fail
  refine (cp14.out _).mono ?_
  rintro en y14 ⟨rfl, hu14⟩
  have hV0 := hU3.trans hu14 fun _ _ h => h
  clear z hu14
  have z : y14.cell? ⟨N, 18, none⟩ = some (.slice p4 lines.length q4) := hK.out _ hV0 18 _ rfl
  obtain ⟨A4, eA4⟩ : ∃ A, A = A3 ++ x14 := ⟨_, rfl⟩
  have lA4 : A4.length ≤ 206164000002 := by rw [eA4]; simp only [List.length_append]; omega
  replace eA4 := Lib.hid eA4
  have hfo4 : Value.string ((⟨A3.toArray⟩ : ByteArray) ++ ⟨x14.toArray⟩) = .string ⟨A4.toArray⟩ := by rw [eA4.out]; exact hfold14.out
  replace hfo4 := Lib.hid hfo4
  clear cp14 hfold14
  go_wp2_with fail
  go_loopw [3, 4] (fun sv iv wr => ∃ k : Nat, iv = .int .i64 (k : Int) ∧ k ≤ lines.length ∧ sv = .string ⟨(A4 ++ (lines.take k).flatMap putLn).toArray⟩ ∧ Upd Non W0 wr) (fun _ iv _ => lines.length - (intOf iv).toNat)
  case atStart => exact ⟨0, rfl, Nat.zero_le _, by rw [List.take_zero, List.flatMap_nil, List.append_nil]; exact hfo4.out, hV0⟩
  case round =>
    clear hV0 z hfo4
    obtain ⟨k, rfl, hk, rfl, hU⟩ := hrel
    have z : wr.cell? ⟨N, 18, none⟩ = some (.slice p4 lines.length q4) := hK.out _ hU 18 _ rfl
    by_cases hlt : k < lines.length
    · have hltI : (k : Int) < (lines.length : Int) := by omega
      have hk0 : (0 : Int) ≤ (k : Int) := by omega
      obtain ⟨gg, off, rfl, x0⟩ := r4.out k hlt
      have hx2 := fun w' (hu : Upd Non W0 w') j u e => (hUN.out _ hu).cell (x0 j u e) fun h => h
      replace hx2 := Lib.hid hx2
      have h1 := hsn4.out k hlt
      have h2 := k8b.out _ (List.getElem_mem hlt)
      have h3 := hfl4.out k
      have h4 := hfl4.out (k + 1)
      have hids := hi4.out _ (List.getElem_mem hlt)
      rw [h1, List.length_append] at h4
      clear x0
      replace h1 := Lib.hid h1
      generalize lines[k] = x at *
      have e1 : putLn x = txtF x.object 4 ++ (fld x.id 8 ++ (truF x.latest ++ putHd x.head)) := rfl
      replace e1 := Lib.hid e1
      obtain ⟨ob, xid, lat, ⟨xs, xr, xi, xg, xl⟩⟩ := x
      dsimp only at *
      have lB : (A4 ++ (lines.take k).flatMap putLn).length ≤ 274885000000 := by rw [List.length_append]; omega
      have h5 : A4 ++ (lines.take (k + 1)).flatMap putLn = (A4 ++ (lines.take k).flatMap putLn) ++ (txtF ob 4 ++ (fld xid 8 ++ (truF lat ++ putHd ⟨xs, xr, xi, xg, xl⟩))) := by rw [h1.out, List.append_assoc, e1.out]
      generalize A4 ++ (lines.take k).flatMap putLn = B at *
      replace h5 := Lib.hid h5
      clear h3 h4
      obtain ⟨h2a, h2b⟩ := h2
      have h2c := hdOk64 h2b
      dsimp only at h2a
      have v0 : wr.cell? ⟨gg, off + k * 8, none⟩ = some (.string ⟨ob.toArray⟩) := hx2.out wr hU 0 _ rfl
      have v1 : wr.cell? ⟨gg, off + k * 8 + 1, none⟩ = some (.int .i64 xid) := hx2.out wr hU 1 _ rfl
      have v2 : wr.cell? ⟨gg, off + k * 8 + 2, none⟩ = some (.bool lat) := hx2.out wr hU 2 _ rfl
      have v3 : wr.cell? ⟨gg, off + k * 8 + 3, none⟩ = some (.int .i64 xs) := hx2.out wr hU 3 _ rfl
      have v4 : wr.cell? ⟨gg, off + k * 8 + 4, none⟩ = some (.int .i64 xr) := hx2.out wr hU 4 _ rfl
      have v5 : wr.cell? ⟨gg, off + k * 8 + 5, none⟩ = some (.int .i64 xi) := hx2.out wr hU 5 _ rfl
      have v6 : wr.cell? ⟨gg, off + k * 8 + 6, none⟩ = some (.bool xg) := hx2.out wr hU 6 _ rfl
      have v7 : wr.cell? ⟨gg, off + k * 8 + 7, none⟩ = some (.bool xl) := hx2.out wr hU 7 _ rfl
      have hbx := heap_alloc_new wr (.cells #[.string ⟨#[]⟩, .int .i64 0, .bool false, .int .i64 0, .int .i64 0, .int .i64 0, .bool false, .bool false] 96)
      have hsx : Hid ((Tryz.prog.info? 96).map (·.size) = some (#[.string ⟨ob.toArray⟩, .int .i64 xid, .bool lat, .int .i64 xs, .int .i64 xr, .int .i64 xi, .bool xg, .bool xl] : Array Value).size) := Lib.hid (by kernel_rfl)
      clear hx2
      go_wp2_with ((with_reducible (show wpList _ _ _ (⟨_, Op.store _ _ _, _, _, _, _⟩ :: _) _ _)); refine storeB_list rfl 96 _ _ rfl wr.heap.size #[.string ⟨ob.toArray⟩, .int .i64 xid, .bool lat, .int .i64 xs, .int .i64 xr, .int .i64 xi, .bool xg, .bool xl] _ _ rfl rfl hbx rfl hsx.out (by simp [Value.oneCell']) ?_)
      intro w3 hb3 hu3
      have hU3' : Upd Non W0 w3 := hU.trans ((Upd.alloc Non wr _).trans hu3 fun j hj h => by omega) fun _ _ h => h
      obtain ⟨M, hM⟩ : ∃ M, wr.heap.size = M := ⟨_, rfl⟩
      have hM' := Lib.hid hM
      rw [hM] at hb3 ⊢
      have hC := Lib.hid (fun w' (hu : Upd Non w3 w') => cells_of (hu.heap hb3 fun h => h))
      clear v0 v1 v2 v3 v4 v5 v6 v7 hbx hsx hb3 hu3 z
      have cp15 : Hid (∀ w', Upd Non w3 w' → Calls Tryz.prog 63 #[.string ⟨ob.toArray⟩, .int .i64 4] w' (Ret (.string ⟨(txtF ob 4).toArray⟩) w')) := Lib.hid (fun w' hu => rText ob 4 w' (by omega) (by omega))
      have lp15 : (txtF ob 4).length ≤ 1048580 := by rw [txtF_len]; omega
      generalize hp15 : txtF ob 4 = x15 at cp15 lp15
      replace hp15 := Lib.hid hp15
      have cp16 : Hid (∀ w', Upd Non w3 w' → Calls Tryz.prog 62 #[.int .i64 xid, .int .i64 8] w' (Ret (.string ⟨(fld xid 8).toArray⟩) w')) := Lib.hid (fun w' hu => fld8 xid 8 (by omega) hids w')
      have lp16 : (fld xid 8).length ≤ 8 := Nat.le_of_eq (fld_length _ _)
      generalize hp16 : fld xid 8 = x16 at cp16 lp16
      replace hp16 := Lib.hid hp16
      have cp17 : Hid (∀ w', Upd Non w3 w' → Calls Tryz.prog 67 #[.bool lat] w' (Ret (.string ⟨(truF lat).toArray⟩) w')) := Lib.hid (fun w' hu => rTruth lat w')
      have lp17 : (truF lat).length ≤ 1 := Nat.le_refl _
      generalize hp17 : truF lat = x17 at cp17 lp17
      replace hp17 := Lib.hid hp17
      have cp18 : Hid (∀ w', Upd Non w3 w' → Calls Tryz.prog 65 #[.agg #[.int .i64 xs, .int .i64 xr, .int .i64 xi, .bool xg, .bool xl]] w' (Ret (.string ⟨(putHd ⟨xs, xr, xi, xg, xl⟩).toArray⟩) w')) := Lib.hid (fun w' hu => rPutHead ⟨xs, xr, xi, xg, xl⟩ h2c w')
      have lp18 : (putHd ⟨xs, xr, xi, xg, xl⟩).length ≤ 11 := Nat.le_of_eq (putHd_len _)
      generalize hp18 : putHd ⟨xs, xr, xi, xg, xl⟩ = x18 at cp18 lp18
      replace hp18 := Lib.hid hp18
      have hl14_1 : (9223372036854775807 < B.length + x15.length) = False := eq_false (by omega)
      have hl14_2 : (9223372036854775807 < B.length + x15.length + x16.length) = False := eq_false (by omega)
      have hl14_3 : (9223372036854775807 < B.length + x15.length + x16.length + x17.length) = False := eq_false (by omega)
      have hl14_4 : (9223372036854775807 < B.length + x15.length + x16.length + x17.length + x18.length) = False := eq_false (by omega)
      have hfold14 : Value.string ((⟨B.toArray⟩ : ByteArray) ++ ⟨x15.toArray⟩ ++ ⟨x16.toArray⟩ ++ ⟨x17.toArray⟩ ++ ⟨x18.toArray⟩) = .string ⟨(B ++ x15 ++ x16 ++ x17 ++ x18).toArray⟩ := by rw [ByteArray.mk_append_mk, ByteArray.mk_append_mk, ByteArray.mk_append_mk, ByteArray.mk_append_mk] <;> simp
      replace hfold14 := Lib.hid hfold14
      have hS : Hid (∀ w', Upd Non w3 w' → w'.cell? ⟨M, 0, none⟩ = some (.string ⟨ob.toArray⟩) ∧ w'.cell? ⟨M, 1, none⟩ = some (.int .i64 xid) ∧ w'.cell? ⟨M, 2, none⟩ = some (.bool lat) ∧ w'.cell? ⟨M, 3, none⟩ = some (.int .i64 xs) ∧ w'.cell? ⟨M, 4, none⟩ = some (.int .i64 xr) ∧ w'.cell? ⟨M, 5, none⟩ = some (.int .i64 xi) ∧ w'.cell? ⟨M, 6, none⟩ = some (.bool xg) ∧ w'.cell? ⟨M, 7, none⟩ = some (.bool xl)) := Lib.hid (fun w' hu => ⟨(hC.out w' hu).1 0, (hC.out w' hu).1 1, (hC.out w' hu).1 2, (hC.out w' hu).1 3, (hC.out w' hu).1 4, (hC.out w' hu).1 5, (hC.out w' hu).1 6, (hC.out w' hu).1 7⟩)
      have hV0 := ((Upd.refl Non w3)).then_drew
      have c0 := hS.out _ hV0
      go_wp2_with fail
      refine wp_region_held_drew (S := (fun w' => w'.cell? ⟨M, 0, none⟩ = some (.string ⟨ob.toArray⟩) ∧ w'.cell? ⟨M, 1, none⟩ = some (.int .i64 xid) ∧ w'.cell? ⟨M, 2, none⟩ = some (.bool lat) ∧ w'.cell? ⟨M, 3, none⟩ = some (.int .i64 xs) ∧ w'.cell? ⟨M, 4, none⟩ = some (.int .i64 xr) ∧ w'.cell? ⟨M, 5, none⟩ = some (.int .i64 xi) ∧ w'.cell? ⟨M, 6, none⟩ = some (.bool xg) ∧ w'.cell? ⟨M, 7, none⟩ = some (.bool xl))) (by kernel_rfl) (by (try dsimp only); exact c0) (fun hHeld => ?_)
      (refine wpAnyH_take (i := 0) (oi := ?oi_4_0) (v := ?v_4_0) ?ho_4_0 ?hs_4_0 ?hf_4_0 ?hr_4_0 ?hQ_4_0 ?hy_4_0 ?hS_4_0 ?rest_4_0; (case hr_4_0 => kernel_rfl); (case hf_4_0 => kernel_rfl); (case hs_4_0 => kernel_rfl); (case ho_4_0 => (simp only [List.getElem?_toArray, List.getElem?_cons_succ, List.getElem?_cons_zero]; rfl)); (case hS_4_0 => assumption); (case hQ_4_0 => exact fun _ _ _ h => h); (case hy_4_0 => (refine Or.inl ⟨by rfl, ?_⟩; (intro w hSw; (try dsimp only at hSw); go_simp) <;> with_reducible rfl)); (try simp only [Act.put, List.setIfInBounds_toArray, List.set_cons_zero, List.set_cons_succ]))
      (refine wpAnyH_take (i := 1) (oi := ?oi_4_1) (v := ?v_4_1) ?ho_4_1 ?hs_4_1 ?hf_4_1 ?hr_4_1 ?hQ_4_1 ?hy_4_1 ?hS_4_1 ?rest_4_1; (case hr_4_1 => kernel_rfl); (case hf_4_1 => kernel_rfl); (case hs_4_1 => kernel_rfl); (case ho_4_1 => (simp only [List.getElem?_toArray, List.getElem?_cons_succ, List.getElem?_cons_zero]; rfl)); (case hS_4_1 => assumption); (case hQ_4_1 => exact fun _ _ _ h => h); (case hy_4_1 => (refine Or.inl ⟨by rfl, ?_⟩; (intro w hSw; (try dsimp only at hSw); go_simp) <;> with_reducible rfl)); (try simp only [Act.put, List.setIfInBounds_toArray, List.set_cons_zero, List.set_cons_succ]))
      (refine wpAnyH_take (i := 2) (oi := ?oi_4_2) (v := ?v_4_2) ?ho_4_2 ?hs_4_2 ?hf_4_2 ?hr_4_2 ?hQ_4_2 ?hy_4_2 ?hS_4_2 ?rest_4_2; (case hr_4_2 => kernel_rfl); (case hf_4_2 => kernel_rfl); (case hs_4_2 => kernel_rfl); (case ho_4_2 => (simp only [List.getElem?_toArray, List.getElem?_cons_succ, List.getElem?_cons_zero]; rfl)); (case hS_4_2 => assumption); (case hQ_4_2 => exact fun _ _ _ h => h); (case hy_4_2 => (refine Or.inl ⟨by rfl, ?_⟩; (intro w hSw; (try dsimp only at hSw); go_simp) <;> with_reducible rfl)); (try simp only [Act.put, List.setIfInBounds_toArray, List.set_cons_zero, List.set_cons_succ]))
      (refine wpAnyH_take (i := 5) (oi := ?oi_4_5) (v := ?v_4_5) ?ho_4_5 ?hs_4_5 ?hf_4_5 ?hr_4_5 ?hQ_4_5 ?hy_4_5 ?hS_4_5 ?rest_4_5; (case hr_4_5 => kernel_rfl); (case hf_4_5 => kernel_rfl); (case hs_4_5 => kernel_rfl); (case ho_4_5 => (simp only [List.getElem?_toArray, List.getElem?_cons_succ, List.getElem?_cons_zero]; rfl)); (case hS_4_5 => assumption); (case hQ_4_5 => exact fun _ _ _ h => h); (case hy_4_5 => (refine Or.inl ⟨by rfl, ?_⟩; (intro w hSw; (try dsimp only at hSw); go_simp) <;> with_reducible rfl)); (try simp only [Act.put, List.setIfInBounds_toArray, List.set_cons_zero, List.set_cons_succ]))
      (refine wpAnyH_take (i := 6) (oi := ?oi_4_6) (v := ?v_4_6) ?ho_4_6 ?hs_4_6 ?hf_4_6 ?hr_4_6 ?hQ_4_6 ?hy_4_6 ?hS_4_6 ?rest_4_6; (case hr_4_6 => kernel_rfl); (case hf_4_6 => kernel_rfl); (case hs_4_6 => kernel_rfl); (case ho_4_6 => (simp only [List.getElem?_toArray, List.getElem?_cons_succ, List.getElem?_cons_zero]; rfl)); (case hS_4_6 => assumption); (case hQ_4_6 => exact fun _ _ _ h => h); (case hy_4_6 => (refine Or.inl ⟨by rfl, ?_⟩; (intro w hSw; (try dsimp only at hSw); go_simp) <;> with_reducible rfl)); (try simp only [Act.put, List.setIfInBounds_toArray, List.set_cons_zero, List.set_cons_succ]))
      (refine wpAnyH_take (i := 9) (oi := ?oi_4_9) (v := ?v_4_9) ?ho_4_9 ?hs_4_9 ?hf_4_9 ?hr_4_9 ?hQ_4_9 ?hy_4_9 ?hS_4_9 ?rest_4_9; (case hr_4_9 => kernel_rfl); (case hf_4_9 => kernel_rfl); (case hs_4_9 => kernel_rfl); (case ho_4_9 => (simp only [List.getElem?_toArray, List.getElem?_cons_succ, List.getElem?_cons_zero]; rfl)); (case hS_4_9 => assumption); (case hQ_4_9 => exact fun _ _ _ h => h); (case hy_4_9 => (refine Or.inl ⟨by rfl, ?_⟩; (intro w hSw; (try dsimp only at hSw); go_simp) <;> with_reducible rfl)); (try simp only [Act.put, List.setIfInBounds_toArray, List.set_cons_zero, List.set_cons_succ]))
      (refine wpAnyH_take (i := 10) (oi := ?oi_4_10) (v := ?v_4_10) ?ho_4_10 ?hs_4_10 ?hf_4_10 ?hr_4_10 ?hQ_4_10 ?hy_4_10 ?hS_4_10 ?rest_4_10; (case hr_4_10 => kernel_rfl); (case hf_4_10 => kernel_rfl); (case hs_4_10 => kernel_rfl); (case ho_4_10 => (simp only [List.getElem?_toArray, List.getElem?_cons_succ, List.getElem?_cons_zero]; rfl)); (case hS_4_10 => assumption); (case hQ_4_10 => exact fun _ _ _ h => h); (case hy_4_10 => (refine Or.inl ⟨by rfl, ?_⟩; (intro w hSw; (try dsimp only at hSw); go_simp) <;> with_reducible rfl)); (try simp only [Act.put, List.setIfInBounds_toArray, List.set_cons_zero, List.set_cons_succ]))
      (refine wpAnyH_take (i := 13) (oi := ?oi_4_13) (v := ?v_4_13) ?ho_4_13 ?hs_4_13 ?hf_4_13 ?hr_4_13 ?hQ_4_13 ?hy_4_13 ?hS_4_13 ?rest_4_13; (case hr_4_13 => kernel_rfl); (case hf_4_13 => kernel_rfl); (case hs_4_13 => kernel_rfl); (case ho_4_13 => (simp only [List.getElem?_toArray, List.getElem?_cons_succ, List.getElem?_cons_zero]; rfl)); (case hS_4_13 => assumption); (case hQ_4_13 => exact fun _ _ _ h => h); (case hy_4_13 => (refine Or.inl ⟨by rfl, ?_⟩; (intro w hSw; (try dsimp only at hSw); go_simp) <;> with_reducible rfl)); (try simp only [Act.put, List.setIfInBounds_toArray, List.set_cons_zero, List.set_cons_succ]))
      (refine wpAnyH_take (i := 14) (oi := ?oi_4_14) (v := ?v_4_14) ?ho_4_14 ?hs_4_14 ?hf_4_14 ?hr_4_14 ?hQ_4_14 ?hy_4_14 ?hS_4_14 ?rest_4_14; (case hr_4_14 => kernel_rfl); (case hf_4_14 => kernel_rfl); (case hs_4_14 => kernel_rfl); (case ho_4_14 => (simp only [List.getElem?_toArray, List.getElem?_cons_succ, List.getElem?_cons_zero]; rfl)); (case hS_4_14 => assumption); (case hQ_4_14 => exact fun _ _ _ h => h); (case hy_4_14 => (refine Or.inl ⟨by rfl, ?_⟩; (intro w hSw; (try dsimp only at hSw); go_simp) <;> with_reducible rfl)); (try simp only [Act.put, List.setIfInBounds_toArray, List.set_cons_zero, List.set_cons_succ]))
      (refine wpAnyH_ready (rs := [3]) (by kernel_rfl) (by simp) ?_; refine AllReadyH.cons (o := ?oo_4_3) ?hoo_4_3 ?hst_4_3 AllReadyH.nil; (case hoo_4_3 => (simp only [List.getElem?_toArray, List.getElem?_cons_succ, List.getElem?_cons_zero]; rfl)); intro K hK; go_simp; ((go_at_call 63; (refine (cp15.out _ hV0).mono ?_); rintro en y15 ⟨rfl, hu1⟩; have hV1 := hV0.trans hu1 fun _ _ h => h; have c1 := hS.out _ hV1)); (try go_wp2_with fail); refine hK.out _ _ (by (try dsimp only); exact c1) (fun hHeld => ?_); clear hK K; (try simp only [Act.put, List.setIfInBounds_toArray, List.set_cons_zero, List.set_cons_succ]))
      (refine wpAnyH_take (i := 4) (oi := ?oi_4_4) (v := ?v_4_4) ?ho_4_4 ?hs_4_4 ?hf_4_4 ?hr_4_4 ?hQ_4_4 ?hy_4_4 ?hS_4_4 ?rest_4_4; (case hr_4_4 => kernel_rfl); (case hf_4_4 => kernel_rfl); (case hs_4_4 => kernel_rfl); (case ho_4_4 => (simp only [List.getElem?_toArray, List.getElem?_cons_succ, List.getElem?_cons_zero]; rfl)); (case hS_4_4 => assumption); (case hQ_4_4 => exact fun _ _ _ h => h); (case hy_4_4 => (refine Or.inl ⟨by rfl, ?_⟩; (intro w hSw; (try dsimp only at hSw); go_simp) <;> with_reducible rfl)); (try simp only [Act.put, List.setIfInBounds_toArray, List.set_cons_zero, List.set_cons_succ]))
      (refine wpAnyH_ready (rs := [7]) (by kernel_rfl) (by simp) ?_; refine AllReadyH.cons (o := ?oo_4_7) ?hoo_4_7 ?hst_4_7 AllReadyH.nil; (case hoo_4_7 => (simp only [List.getElem?_toArray, List.getElem?_cons_succ, List.getElem?_cons_zero]; rfl)); intro K hK; go_simp; ((go_at_call 62; (refine (cp16.out _ hV1).mono ?_); rintro en y16 ⟨rfl, hu2⟩; have hV2 := hV1.trans hu2 fun _ _ h => h; have c2 := hS.out _ hV2)); (try go_wp2_with fail); refine hK.out _ _ (by (try dsimp only); exact c2) (fun hHeld => ?_); clear hK K; (try simp only [Act.put, List.setIfInBounds_toArray, List.set_cons_zero, List.set_cons_succ]))
      (refine wpAnyH_take (i := 8) (oi := ?oi_4_8) (v := ?v_4_8) ?ho_4_8 ?hs_4_8 ?hf_4_8 ?hr_4_8 ?hQ_4_8 ?hy_4_8 ?hS_4_8 ?rest_4_8; (case hr_4_8 => kernel_rfl); (case hf_4_8 => kernel_rfl); (case hs_4_8 => kernel_rfl); (case ho_4_8 => (simp only [List.getElem?_toArray, List.getElem?_cons_succ, List.getElem?_cons_zero]; rfl)); (case hS_4_8 => assumption); (case hQ_4_8 => exact fun _ _ _ h => h); (case hy_4_8 => (refine Or.inl ⟨by rfl, ?_⟩; (intro w hSw; (try dsimp only at hSw); go_simp) <;> with_reducible rfl)); (try simp only [Act.put, List.setIfInBounds_toArray, List.set_cons_zero, List.set_cons_succ]))
      (refine wpAnyH_ready (rs := [11]) (by kernel_rfl) (by simp) ?_; refine AllReadyH.cons (o := ?oo_4_11) ?hoo_4_11 ?hst_4_11 AllReadyH.nil; (case hoo_4_11 => (simp only [List.getElem?_toArray, List.getElem?_cons_succ, List.getElem?_cons_zero]; rfl)); intro K hK; go_simp; ((go_at_call 67; (refine (cp17.out _ hV2).mono ?_); rintro en y17 ⟨rfl, hu3⟩; have hV3 := hV2.trans hu3 fun _ _ h => h; have c3 := hS.out _ hV3)); (try go_wp2_with fail); refine hK.out _ _ (by (try dsimp only); exact c3) (fun hHeld => ?_); clear hK K; (try simp only [Act.put, List.setIfInBounds_toArray, List.set_cons_zero, List.set_cons_succ]))
      (refine wpAnyH_take (i := 12) (oi := ?oi_4_12) (v := ?v_4_12) ?ho_4_12 ?hs_4_12 ?hf_4_12 ?hr_4_12 ?hQ_4_12 ?hy_4_12 ?hS_4_12 ?rest_4_12; (case hr_4_12 => kernel_rfl); (case hf_4_12 => kernel_rfl); (case hs_4_12 => kernel_rfl); (case ho_4_12 => (simp only [List.getElem?_toArray, List.getElem?_cons_succ, List.getElem?_cons_zero]; rfl)); (case hS_4_12 => assumption); (case hQ_4_12 => exact fun _ _ _ h => h); (case hy_4_12 => (refine Or.inl ⟨by rfl, ?_⟩; (intro w hSw; (try dsimp only at hSw); go_simp) <;> with_reducible rfl)); (try simp only [Act.put, List.setIfInBounds_toArray, List.set_cons_zero, List.set_cons_succ]))
      (refine wpAnyH_ready (rs := [15]) (by kernel_rfl) (by simp) ?_; refine AllReadyH.cons (o := ?oo_4_15) ?hoo_4_15 ?hst_4_15 AllReadyH.nil; (case hoo_4_15 => (simp only [List.getElem?_toArray, List.getElem?_cons_succ, List.getElem?_cons_zero]; rfl)); intro K hK; go_simp; ((go_at_call 65; (refine (cp18.out _ hV3).mono ?_); rintro en y18 ⟨rfl, hu4⟩; have hV4 := hV3.trans hu4 fun _ _ h => h; have c4 := hS.out _ hV4)); (try go_wp2_with fail); refine hK.out _ _ (by (try dsimp only); exact c4) (fun hHeld => ?_); clear hK K; (try simp only [Act.put, List.setIfInBounds_toArray, List.set_cons_zero, List.set_cons_succ]))
      (refine wpAnyH_take (i := 16) (oi := ?oi_4_16) (v := ?v_4_16) ?ho_4_16 ?hs_4_16 ?hf_4_16 ?hr_4_16 ?hQ_4_16 ?hy_4_16 ?hS_4_16 ?rest_4_16; (case hr_4_16 => kernel_rfl); (case hf_4_16 => kernel_rfl); (case hs_4_16 => kernel_rfl); (case ho_4_16 => (simp only [List.getElem?_toArray, List.getElem?_cons_succ, List.getElem?_cons_zero]; rfl)); (case hS_4_16 => assumption); (case hQ_4_16 => exact fun _ _ _ h => h); (case hy_4_16 => (refine Or.inl ⟨by rfl, ?_⟩; (intro w hSw; (try dsimp only at hSw); go_simp) <;> with_reducible rfl)); (try simp only [Act.put, List.setIfInBounds_toArray, List.set_cons_zero, List.set_cons_succ]))
      (refine wpAnyH_take (i := 17) (oi := ?oi_4_17) (v := ?v_4_17) ?ho_4_17 ?hs_4_17 ?hf_4_17 ?hr_4_17 ?hQ_4_17 ?hy_4_17 ?hS_4_17 ?rest_4_17; (case hr_4_17 => kernel_rfl); (case hf_4_17 => kernel_rfl); (case hs_4_17 => kernel_rfl); (case ho_4_17 => (simp only [List.getElem?_toArray, List.getElem?_cons_succ, List.getElem?_cons_zero]; rfl)); (case hS_4_17 => assumption); (case hQ_4_17 => exact fun _ _ _ h => h); (case hy_4_17 => (refine Or.inl ⟨by rfl, ?_⟩; (intro w hSw; (try dsimp only at hSw); go_simp) <;> with_reducible rfl)); (try simp only [Act.put, List.setIfInBounds_toArray, List.set_cons_zero, List.set_cons_succ]))
      refine wpAnyH_done (by kernel_rfl) ?_ _
      rw [hfold14.out]
      clear cp15 cp16 cp17 cp18 hS hfold14 hl14_1 hl14_2 hl14_3 hl14_4
      clear c0 c1 c2 c3 c4 hu1 hu2 hu3 hu4
      have h6 : A4 ++ (lines.take (k + 1)).flatMap putLn = B ++ x15 ++ x16 ++ x17 ++ x18 := by rw [h5.out, hp15.out, hp16.out, hp17.out, hp18.out]; simp only [List.append_assoc]
      rw [← h6]
      have hUU := hU3'.trans hV4 fun _ _ h => h
      clear hV0 hV1 hV2 hV3 hV4
      go_wp2_with fail
      go_roundw
      case rel => exact ⟨k + 1, by go_num, by omega, rfl, hUU⟩
      case measure => simp [intOf]; omega
    · have hltI : ¬ (k : Int) < (lines.length : Int) := by omega
      obtain rfl : k = lines.length := by omega
      rw [List.take_length]
      have lB : (A4 ++ lines.flatMap putLn).length ≤ 274885000000 := by rw [List.length_append]; omega
      obtain ⟨B, eB⟩ : ∃ B, B = A4 ++ lines.flatMap putLn := ⟨_, rfl⟩
      rw [← eB] at lB ⊢
      replace eB := Lib.hid eB
      clear hk hlt r4 hfl4 hsn4 k8b hi4
      have cp19 : Hid (∀ w', Upd Non W0 w' → Calls Tryz.prog 63 #[.string ⟨lobject.toArray⟩, .int .i64 4] w' (Ret (.string ⟨(txtF lobject 4).toArray⟩) w')) := Lib.hid (fun w' hu => rText lobject 4 w' (by omega) (by omega))
      have lp19 : (txtF lobject 4).length ≤ 1048580 := by rw [txtF_len]; omega
      generalize hp19 : txtF lobject 4 = x19 at cp19 lp19
      replace hp19 := Lib.hid hp19
      have cp20 : Hid (∀ w', Upd Non W0 w' → Calls Tryz.prog 62 #[.int .i64 lid, .int .i64 8] w' (Ret (.string ⟨(fld lid 8).toArray⟩) w')) := Lib.hid (fun w' hu => fld8 lid 8 (by omega) hi3 w')
      have lp20 : (fld lid 8).length ≤ 8 := Nat.le_of_eq (fld_length _ _)
      generalize hp20 : fld lid 8 = x20 at cp20 lp20
      replace hp20 := Lib.hid hp20
      have cp21 : Hid (∀ w', Upd Non W0 w' → Calls Tryz.prog 67 #[.bool lmore] w' (Ret (.string ⟨(truF lmore).toArray⟩) w')) := Lib.hid (fun w' hu => rTruth lmore w')
      have lp21 : (truF lmore).length ≤ 1 := Nat.le_refl _
      generalize hp21 : truF lmore = x21 at cp21 lp21
      replace hp21 := Lib.hid hp21
      have hl18_1 : (9223372036854775807 < B.length + x19.length) = False := eq_false (by omega)
      have hl18_2 : (9223372036854775807 < B.length + x19.length + x20.length) = False := eq_false (by omega)
      have hl18_3 : (9223372036854775807 < B.length + x19.length + x20.length + x21.length) = False := eq_false (by omega)
      have hfold18 : Value.string ((⟨B.toArray⟩ : ByteArray) ++ ⟨x19.toArray⟩ ++ ⟨x20.toArray⟩ ++ ⟨x21.toArray⟩) = .string ⟨(B ++ x19 ++ x20 ++ x21).toArray⟩ := by rw [ByteArray.mk_append_mk, ByteArray.mk_append_mk, ByteArray.mk_append_mk] <;> simp
      replace hfold18 := Lib.hid hfold18
      have hS : Hid (∀ w', Upd Non W0 w' → w'.cell? ⟨N, 19, none⟩ = some (.string ⟨lobject.toArray⟩) ∧ w'.cell? ⟨N, 20, none⟩ = some (.int .i64 lid) ∧ w'.cell? ⟨N, 21, none⟩ = some (.bool lmore)) := Lib.hid (fun w' hu => ⟨hK.out w' hu 19 _ rfl, hK.out w' hu 20 _ rfl, hK.out w' hu 21 _ rfl⟩)
      have hV0 := (hU).then_drew
      have c0 := hS.out _ hV0
      go_wp2_with fail
      refine wp_region_held_drew (S := (fun w' => w'.cell? ⟨N, 19, none⟩ = some (.string ⟨lobject.toArray⟩) ∧ w'.cell? ⟨N, 20, none⟩ = some (.int .i64 lid) ∧ w'.cell? ⟨N, 21, none⟩ = some (.bool lmore))) (by kernel_rfl) (by (try dsimp only); exact c0) (fun hHeld => ?_)
      (refine wpAnyH_take (i := 0) (oi := ?oi_5_0) (v := ?v_5_0) ?ho_5_0 ?hs_5_0 ?hf_5_0 ?hr_5_0 ?hQ_5_0 ?hy_5_0 ?hS_5_0 ?rest_5_0; (case hr_5_0 => kernel_rfl); (case hf_5_0 => kernel_rfl); (case hs_5_0 => kernel_rfl); (case ho_5_0 => (simp only [List.getElem?_toArray, List.getElem?_cons_succ, List.getElem?_cons_zero]; rfl)); (case hS_5_0 => assumption); (case hQ_5_0 => exact fun _ _ _ h => h); (case hy_5_0 => (refine Or.inl ⟨by rfl, ?_⟩; (intro w hSw; (try dsimp only at hSw); go_simp) <;> with_reducible rfl)); (try simp only [Act.put, List.setIfInBounds_toArray, List.set_cons_zero, List.set_cons_succ]))
      (refine wpAnyH_take (i := 1) (oi := ?oi_5_1) (v := ?v_5_1) ?ho_5_1 ?hs_5_1 ?hf_5_1 ?hr_5_1 ?hQ_5_1 ?hy_5_1 ?hS_5_1 ?rest_5_1; (case hr_5_1 => kernel_rfl); (case hf_5_1 => kernel_rfl); (case hs_5_1 => kernel_rfl); (case ho_5_1 => (simp only [List.getElem?_toArray, List.getElem?_cons_succ, List.getElem?_cons_zero]; rfl)); (case hS_5_1 => assumption); (case hQ_5_1 => exact fun _ _ _ h => h); (case hy_5_1 => (refine Or.inl ⟨by rfl, ?_⟩; (intro w hSw; (try dsimp only at hSw); go_simp) <;> with_reducible rfl)); (try simp only [Act.put, List.setIfInBounds_toArray, List.set_cons_zero, List.set_cons_succ]))
      (refine wpAnyH_take (i := 2) (oi := ?oi_5_2) (v := ?v_5_2) ?ho_5_2 ?hs_5_2 ?hf_5_2 ?hr_5_2 ?hQ_5_2 ?hy_5_2 ?hS_5_2 ?rest_5_2; (case hr_5_2 => kernel_rfl); (case hf_5_2 => kernel_rfl); (case hs_5_2 => kernel_rfl); (case ho_5_2 => (simp only [List.getElem?_toArray, List.getElem?_cons_succ, List.getElem?_cons_zero]; rfl)); (case hS_5_2 => assumption); (case hQ_5_2 => exact fun _ _ _ h => h); (case hy_5_2 => (refine Or.inl ⟨by rfl, ?_⟩; (intro w hSw; (try dsimp only at hSw); go_simp) <;> with_reducible rfl)); (try simp only [Act.put, List.setIfInBounds_toArray, List.set_cons_zero, List.set_cons_succ]))
      (refine wpAnyH_take (i := 3) (oi := ?oi_5_3) (v := ?v_5_3) ?ho_5_3 ?hs_5_3 ?hf_5_3 ?hr_5_3 ?hQ_5_3 ?hy_5_3 ?hS_5_3 ?rest_5_3; (case hr_5_3 => kernel_rfl); (case hf_5_3 => kernel_rfl); (case hs_5_3 => kernel_rfl); (case ho_5_3 => (simp only [List.getElem?_toArray, List.getElem?_cons_succ, List.getElem?_cons_zero]; rfl)); (case hS_5_3 => assumption); (case hQ_5_3 => exact fun _ _ _ h => h); (case hy_5_3 => (refine Or.inl ⟨by rfl, ?_⟩; (intro w hSw; (try dsimp only at hSw); go_simp) <;> with_reducible rfl)); (try simp only [Act.put, List.setIfInBounds_toArray, List.set_cons_zero, List.set_cons_succ]))
      (refine wpAnyH_take (i := 6) (oi := ?oi_5_6) (v := ?v_5_6) ?ho_5_6 ?hs_5_6 ?hf_5_6 ?hr_5_6 ?hQ_5_6 ?hy_5_6 ?hS_5_6 ?rest_5_6; (case hr_5_6 => kernel_rfl); (case hf_5_6 => kernel_rfl); (case hs_5_6 => kernel_rfl); (case ho_5_6 => (simp only [List.getElem?_toArray, List.getElem?_cons_succ, List.getElem?_cons_zero]; rfl)); (case hS_5_6 => assumption); (case hQ_5_6 => exact fun _ _ _ h => h); (case hy_5_6 => (refine Or.inl ⟨by rfl, ?_⟩; (intro w hSw; (try dsimp only at hSw); go_simp) <;> with_reducible rfl)); (try simp only [Act.put, List.setIfInBounds_toArray, List.set_cons_zero, List.set_cons_succ]))
      (refine wpAnyH_take (i := 7) (oi := ?oi_5_7) (v := ?v_5_7) ?ho_5_7 ?hs_5_7 ?hf_5_7 ?hr_5_7 ?hQ_5_7 ?hy_5_7 ?hS_5_7 ?rest_5_7; (case hr_5_7 => kernel_rfl); (case hf_5_7 => kernel_rfl); (case hs_5_7 => kernel_rfl); (case ho_5_7 => (simp only [List.getElem?_toArray, List.getElem?_cons_succ, List.getElem?_cons_zero]; rfl)); (case hS_5_7 => assumption); (case hQ_5_7 => exact fun _ _ _ h => h); (case hy_5_7 => (refine Or.inl ⟨by rfl, ?_⟩; (intro w hSw; (try dsimp only at hSw); go_simp) <;> with_reducible rfl)); (try simp only [Act.put, List.setIfInBounds_toArray, List.set_cons_zero, List.set_cons_succ]))
      (refine wpAnyH_take (i := 8) (oi := ?oi_5_8) (v := ?v_5_8) ?ho_5_8 ?hs_5_8 ?hf_5_8 ?hr_5_8 ?hQ_5_8 ?hy_5_8 ?hS_5_8 ?rest_5_8; (case hr_5_8 => kernel_rfl); (case hf_5_8 => kernel_rfl); (case hs_5_8 => kernel_rfl); (case ho_5_8 => (simp only [List.getElem?_toArray, List.getElem?_cons_succ, List.getElem?_cons_zero]; rfl)); (case hS_5_8 => assumption); (case hQ_5_8 => exact fun _ _ _ h => h); (case hy_5_8 => (refine Or.inl ⟨by rfl, ?_⟩; (intro w hSw; (try dsimp only at hSw); go_simp) <;> with_reducible rfl)); (try simp only [Act.put, List.setIfInBounds_toArray, List.set_cons_zero, List.set_cons_succ]))
      (refine wpAnyH_take (i := 11) (oi := ?oi_5_11) (v := ?v_5_11) ?ho_5_11 ?hs_5_11 ?hf_5_11 ?hr_5_11 ?hQ_5_11 ?hy_5_11 ?hS_5_11 ?rest_5_11; (case hr_5_11 => kernel_rfl); (case hf_5_11 => kernel_rfl); (case hs_5_11 => kernel_rfl); (case ho_5_11 => (simp only [List.getElem?_toArray, List.getElem?_cons_succ, List.getElem?_cons_zero]; rfl)); (case hS_5_11 => assumption); (case hQ_5_11 => exact fun _ _ _ h => h); (case hy_5_11 => (refine Or.inl ⟨by rfl, ?_⟩; (intro w hSw; (try dsimp only at hSw); go_simp) <;> with_reducible rfl)); (try simp only [Act.put, List.setIfInBounds_toArray, List.set_cons_zero, List.set_cons_succ]))
      (refine wpAnyH_take (i := 12) (oi := ?oi_5_12) (v := ?v_5_12) ?ho_5_12 ?hs_5_12 ?hf_5_12 ?hr_5_12 ?hQ_5_12 ?hy_5_12 ?hS_5_12 ?rest_5_12; (case hr_5_12 => kernel_rfl); (case hf_5_12 => kernel_rfl); (case hs_5_12 => kernel_rfl); (case ho_5_12 => (simp only [List.getElem?_toArray, List.getElem?_cons_succ, List.getElem?_cons_zero]; rfl)); (case hS_5_12 => assumption); (case hQ_5_12 => exact fun _ _ _ h => h); (case hy_5_12 => (refine Or.inl ⟨by rfl, ?_⟩; (intro w hSw; (try dsimp only at hSw); go_simp) <;> with_reducible rfl)); (try simp only [Act.put, List.setIfInBounds_toArray, List.set_cons_zero, List.set_cons_succ]))
      (refine wpAnyH_take (i := 13) (oi := ?oi_5_13) (v := ?v_5_13) ?ho_5_13 ?hs_5_13 ?hf_5_13 ?hr_5_13 ?hQ_5_13 ?hy_5_13 ?hS_5_13 ?rest_5_13; (case hr_5_13 => kernel_rfl); (case hf_5_13 => kernel_rfl); (case hs_5_13 => kernel_rfl); (case ho_5_13 => (simp only [List.getElem?_toArray, List.getElem?_cons_succ, List.getElem?_cons_zero]; rfl)); (case hS_5_13 => assumption); (case hQ_5_13 => exact fun _ _ _ h => h); (case hy_5_13 => (refine Or.inl ⟨by rfl, ?_⟩; (intro w hSw; (try dsimp only at hSw); go_simp) <;> with_reducible rfl)); (try simp only [Act.put, List.setIfInBounds_toArray, List.set_cons_zero, List.set_cons_succ]))
      (refine wpAnyH_ready (rs := [4]) (by kernel_rfl) (by simp) ?_; refine AllReadyH.cons (o := ?oo_5_4) ?hoo_5_4 ?hst_5_4 AllReadyH.nil; (case hoo_5_4 => (simp only [List.getElem?_toArray, List.getElem?_cons_succ, List.getElem?_cons_zero]; rfl)); intro K hK; go_simp; ((go_at_call 63; (refine (cp19.out _ hV0).mono ?_); rintro en y19 ⟨rfl, hu1⟩; have hV1 := hV0.trans hu1 fun _ _ h => h; have c1 := hS.out _ hV1)); (try go_wp2_with fail); refine hK.out _ _ (by (try dsimp only); exact c1) (fun hHeld => ?_); clear hK K; (try simp only [Act.put, List.setIfInBounds_toArray, List.set_cons_zero, List.set_cons_succ]))
      (refine wpAnyH_take (i := 5) (oi := ?oi_5_5) (v := ?v_5_5) ?ho_5_5 ?hs_5_5 ?hf_5_5 ?hr_5_5 ?hQ_5_5 ?hy_5_5 ?hS_5_5 ?rest_5_5; (case hr_5_5 => kernel_rfl); (case hf_5_5 => kernel_rfl); (case hs_5_5 => kernel_rfl); (case ho_5_5 => (simp only [List.getElem?_toArray, List.getElem?_cons_succ, List.getElem?_cons_zero]; rfl)); (case hS_5_5 => assumption); (case hQ_5_5 => exact fun _ _ _ h => h); (case hy_5_5 => (refine Or.inl ⟨by rfl, ?_⟩; (intro w hSw; (try dsimp only at hSw); go_simp) <;> with_reducible rfl)); (try simp only [Act.put, List.setIfInBounds_toArray, List.set_cons_zero, List.set_cons_succ]))
      (refine wpAnyH_ready (rs := [9]) (by kernel_rfl) (by simp) ?_; refine AllReadyH.cons (o := ?oo_5_9) ?hoo_5_9 ?hst_5_9 AllReadyH.nil; (case hoo_5_9 => (simp only [List.getElem?_toArray, List.getElem?_cons_succ, List.getElem?_cons_zero]; rfl)); intro K hK; go_simp; ((go_at_call 62; (refine (cp20.out _ hV1).mono ?_); rintro en y20 ⟨rfl, hu2⟩; have hV2 := hV1.trans hu2 fun _ _ h => h; have c2 := hS.out _ hV2)); (try go_wp2_with fail); refine hK.out _ _ (by (try dsimp only); exact c2) (fun hHeld => ?_); clear hK K; (try simp only [Act.put, List.setIfInBounds_toArray, List.set_cons_zero, List.set_cons_succ]))
      (refine wpAnyH_take (i := 10) (oi := ?oi_5_10) (v := ?v_5_10) ?ho_5_10 ?hs_5_10 ?hf_5_10 ?hr_5_10 ?hQ_5_10 ?hy_5_10 ?hS_5_10 ?rest_5_10; (case hr_5_10 => kernel_rfl); (case hf_5_10 => kernel_rfl); (case hs_5_10 => kernel_rfl); (case ho_5_10 => (simp only [List.getElem?_toArray, List.getElem?_cons_succ, List.getElem?_cons_zero]; rfl)); (case hS_5_10 => assumption); (case hQ_5_10 => exact fun _ _ _ h => h); (case hy_5_10 => (refine Or.inl ⟨by rfl, ?_⟩; (intro w hSw; (try dsimp only at hSw); go_simp) <;> with_reducible rfl)); (try simp only [Act.put, List.setIfInBounds_toArray, List.set_cons_zero, List.set_cons_succ]))
      (refine wpAnyH_ready (rs := [14]) (by kernel_rfl) (by simp) ?_; refine AllReadyH.cons (o := ?oo_5_14) ?hoo_5_14 ?hst_5_14 AllReadyH.nil; (case hoo_5_14 => (simp only [List.getElem?_toArray, List.getElem?_cons_succ, List.getElem?_cons_zero]; rfl)); intro K hK; go_simp; ((go_at_call 67; (refine (cp21.out _ hV2).mono ?_); rintro en y21 ⟨rfl, hu3⟩; have hV3 := hV2.trans hu3 fun _ _ h => h; have c3 := hS.out _ hV3)); (try go_wp2_with fail); refine hK.out _ _ (by (try dsimp only); exact c3) (fun hHeld => ?_); clear hK K; (try simp only [Act.put, List.setIfInBounds_toArray, List.set_cons_zero, List.set_cons_succ]))
      (refine wpAnyH_take (i := 15) (oi := ?oi_5_15) (v := ?v_5_15) ?ho_5_15 ?hs_5_15 ?hf_5_15 ?hr_5_15 ?hQ_5_15 ?hy_5_15 ?hS_5_15 ?rest_5_15; (case hr_5_15 => kernel_rfl); (case hf_5_15 => kernel_rfl); (case hs_5_15 => kernel_rfl); (case ho_5_15 => (simp only [List.getElem?_toArray, List.getElem?_cons_succ, List.getElem?_cons_zero]; rfl)); (case hS_5_15 => assumption); (case hQ_5_15 => exact fun _ _ _ h => h); (case hy_5_15 => (refine Or.inl ⟨by rfl, ?_⟩; (intro w hSw; (try dsimp only at hSw); go_simp) <;> with_reducible rfl)); (try simp only [Act.put, List.setIfInBounds_toArray, List.set_cons_zero, List.set_cons_succ]))
      (refine wpAnyH_take (i := 16) (oi := ?oi_5_16) (v := ?v_5_16) ?ho_5_16 ?hs_5_16 ?hf_5_16 ?hr_5_16 ?hQ_5_16 ?hy_5_16 ?hS_5_16 ?rest_5_16; (case hr_5_16 => kernel_rfl); (case hf_5_16 => kernel_rfl); (case hs_5_16 => kernel_rfl); (case ho_5_16 => (simp only [List.getElem?_toArray, List.getElem?_cons_succ, List.getElem?_cons_zero]; rfl)); (case hS_5_16 => assumption); (case hQ_5_16 => exact fun _ _ _ h => h); (case hy_5_16 => (refine Or.inl ⟨by rfl, ?_⟩; (intro w hSw; (try dsimp only at hSw); go_simp) <;> with_reducible rfl)); (try simp only [Act.put, List.setIfInBounds_toArray, List.set_cons_zero, List.set_cons_succ]))
      refine wpAnyH_done (by kernel_rfl) ?_ _
      rw [hfold18.out]
      clear cp19 cp20 cp21 hS hfold18 hl18_1 hl18_2 hl18_3
      clear c0 c1 c2 c3 hu1 hu2 hu3
      obtain ⟨A5, eA5⟩ : ∃ A, A = B ++ x19 ++ x20 ++ x21 := ⟨_, rfl⟩
      have lA5 : A5.length ≤ 274887000000 := by rw [eA5]; simp only [List.length_append]; omega
      rw [← eA5]
      replace eA5 := Lib.hid eA5
      have hU5 := hV3
      clear hV0
      have cp22 : Hid (∀ w', Calls Tryz.prog 62 #[.int .i64 (ups.length : Int), .int .i64 2] w' (Ret (.string ⟨(fld (ups.length : Int) 2).toArray⟩) w')) := Lib.hid (fun w' => fld8 (ups.length : Int) 2 (by omega) (len64 k9a) w')
      have lp22 : (fld (ups.length : Int) 2).length ≤ 2 := Nat.le_of_eq (fld_length _ _)
      generalize hp22 : fld (ups.length : Int) 2 = x22 at cp22 lp22
      replace hp22 := Lib.hid hp22
      have hl22 : A5.length + x22.length ≤ 9223372036854775807 := by omega
      have hfold22 : Value.string ((⟨A5.toArray⟩ : ByteArray) ++ ⟨x22.toArray⟩) = .string ⟨(A5 ++ x22).toArray⟩ := by rw [ByteArray.mk_append_mk] <;> simp
      replace hfold22 := Lib.hid hfold22
      have z : y21.cell? ⟨N, 22, none⟩ = some (.slice p5 ups.length q5) := hK.out _ hU5 22 _ rfl
      go_wp2_with fail
      refine (cp22.out _).mono ?_
      rintro en y22 ⟨rfl, hu22⟩
      have hV0 := hU5.trans hu22 fun _ _ h => h
      clear z hu22
      have z : y22.cell? ⟨N, 22, none⟩ = some (.slice p5 ups.length q5) := hK.out _ hV0 22 _ rfl
      obtain ⟨A6, eA6⟩ : ∃ A, A = A5 ++ x22 := ⟨_, rfl⟩
      have lA6 : A6.length ≤ 274887000002 := by rw [eA6]; simp only [List.length_append]; omega
      replace eA6 := Lib.hid eA6
      have hfo6 : Value.string ((⟨A5.toArray⟩ : ByteArray) ++ ⟨x22.toArray⟩) = .string ⟨A6.toArray⟩ := by rw [eA6.out]; exact hfold22.out
      replace hfo6 := Lib.hid hfo6
      clear cp22 hfold22
      go_wp2_with fail
      go_loopw [3, 6] (fun sv iv wr => ∃ k : Nat, iv = .int .i64 (k : Int) ∧ k ≤ ups.length ∧ sv = .string ⟨(A6 ++ (ups.take k).flatMap putUp).toArray⟩ ∧ Upd Non W0 wr) (fun _ iv _ => ups.length - (intOf iv).toNat)
      case atStart => exact ⟨0, rfl, Nat.zero_le _, by rw [List.take_zero, List.flatMap_nil, List.append_nil]; exact hfo6.out, hV0⟩
      case round =>
        clear hV0 z hfo6
        obtain ⟨k, rfl, hk, rfl, hU⟩ := hrel
        have z : wr.cell? ⟨N, 22, none⟩ = some (.slice p5 ups.length q5) := hK.out _ hU 22 _ rfl
        by_cases hlt : k < ups.length
        · have hltI : (k : Int) < (ups.length : Int) := by omega
          have hk0 : (0 : Int) ≤ (k : Int) := by omega
          obtain ⟨gg, off, rfl, x0⟩ := r5.out k hlt
          have hx2 := fun w' (hu : Upd Non W0 w') j u e => (hUN.out _ hu).cell (x0 j u e) fun h => h
          replace hx2 := Lib.hid hx2
          have h1 := hsn5.out k hlt
          have h2 := k9b.out _ (List.getElem_mem hlt)
          have h3 := hfl5.out k
          have h4 := hfl5.out (k + 1)
          have hids := hi5.out _ (List.getElem_mem hlt)
          rw [h1, List.length_append] at h4
          clear x0
          replace h1 := Lib.hid h1
          generalize ups[k] = x at *
          have e1 : putUp x = txtF x.object 4 ++ fld x.id 8 := rfl
          replace e1 := Lib.hid e1
          obtain ⟨ob, xid⟩ := x
          dsimp only at *
          have lB : (A6 ++ (ups.take k).flatMap putUp).length ≤ 343700000000 := by rw [List.length_append]; omega
          have h5 : A6 ++ (ups.take (k + 1)).flatMap putUp = (A6 ++ (ups.take k).flatMap putUp) ++ (txtF ob 4 ++ fld xid 8) := by rw [h1.out, List.append_assoc, e1.out]
          generalize A6 ++ (ups.take k).flatMap putUp = B at *
          replace h5 := Lib.hid h5
          clear h3 h4
          unfold upOk at h2
          dsimp only at h2
          have cp23 : Hid (∀ w', Upd Non W0 w' → Calls Tryz.prog 63 #[.string ⟨ob.toArray⟩, .int .i64 4] w' (Ret (.string ⟨(txtF ob 4).toArray⟩) w')) := Lib.hid (fun w' hu => rText ob 4 w' (by omega) (by omega))
          have lp23 : (txtF ob 4).length ≤ 1048580 := by rw [txtF_len]; omega
          generalize hp23 : txtF ob 4 = x23 at cp23 lp23
          replace hp23 := Lib.hid hp23
          have cp24 : Hid (∀ w', Upd Non W0 w' → Calls Tryz.prog 62 #[.int .i64 xid, .int .i64 8] w' (Ret (.string ⟨(fld xid 8).toArray⟩) w')) := Lib.hid (fun w' hu => fld8 xid 8 (by omega) hids w')
          have lp24 : (fld xid 8).length ≤ 8 := Nat.le_of_eq (fld_length _ _)
          generalize hp24 : fld xid 8 = x24 at cp24 lp24
          replace hp24 := Lib.hid hp24
          have hl22_1 : (9223372036854775807 < B.length + x23.length) = False := eq_false (by omega)
          have hl22_2 : (9223372036854775807 < B.length + x23.length + x24.length) = False := eq_false (by omega)
          have hfold22 : Value.string ((⟨B.toArray⟩ : ByteArray) ++ ⟨x23.toArray⟩ ++ ⟨x24.toArray⟩) = .string ⟨(B ++ x23 ++ x24).toArray⟩ := by rw [ByteArray.mk_append_mk, ByteArray.mk_append_mk] <;> simp
          replace hfold22 := Lib.hid hfold22
          have hS : Hid (∀ w', Upd Non W0 w' → w'.cell? ⟨N, 22, none⟩ = some (.slice (some ⟨gg, off, none⟩) ups.length q5) ∧ w'.cell? ⟨gg, off + k * 2, none⟩ = some (.string ⟨ob.toArray⟩) ∧ w'.cell? ⟨gg, off + k * 2 + 1, none⟩ = some (.int .i64 xid)) := Lib.hid (fun w' hu => ⟨hK.out w' hu 22 _ rfl, hx2.out w' hu 0 _ rfl, hx2.out w' hu 1 _ rfl⟩)
          have hV0 := (hU).then_drew
          have c0 := hS.out _ hV0
          go_wp2_with fail
          refine wp_region_held_drew (S := (fun w' => w'.cell? ⟨N, 22, none⟩ = some (.slice (some ⟨gg, off, none⟩) ups.length q5) ∧ w'.cell? ⟨gg, off + k * 2, none⟩ = some (.string ⟨ob.toArray⟩) ∧ w'.cell? ⟨gg, off + k * 2 + 1, none⟩ = some (.int .i64 xid))) (by kernel_rfl) (by (try dsimp only); exact c0) (fun hHeld => ?_)
          (refine wpAnyH_take (i := 0) (oi := ?oi_6_0) (v := ?v_6_0) ?ho_6_0 ?hs_6_0 ?hf_6_0 ?hr_6_0 ?hQ_6_0 ?hy_6_0 ?hS_6_0 ?rest_6_0; (case hr_6_0 => kernel_rfl); (case hf_6_0 => kernel_rfl); (case hs_6_0 => kernel_rfl); (case ho_6_0 => (simp only [List.getElem?_toArray, List.getElem?_cons_succ, List.getElem?_cons_zero]; rfl)); (case hS_6_0 => assumption); (case hQ_6_0 => exact fun _ _ _ h => h); (case hy_6_0 => (refine Or.inl ⟨by rfl, ?_⟩; (intro w hSw; (try dsimp only at hSw); go_simp) <;> with_reducible rfl)); (try simp only [Act.put, List.setIfInBounds_toArray, List.set_cons_zero, List.set_cons_succ]))
          (refine wpAnyH_take (i := 1) (oi := ?oi_6_1) (v := ?v_6_1) ?ho_6_1 ?hs_6_1 ?hf_6_1 ?hr_6_1 ?hQ_6_1 ?hy_6_1 ?hS_6_1 ?rest_6_1; (case hr_6_1 => kernel_rfl); (case hf_6_1 => kernel_rfl); (case hs_6_1 => kernel_rfl); (case ho_6_1 => (simp only [List.getElem?_toArray, List.getElem?_cons_succ, List.getElem?_cons_zero]; rfl)); (case hS_6_1 => assumption); (case hQ_6_1 => exact fun _ _ _ h => h); (case hy_6_1 => (refine Or.inl ⟨by rfl, ?_⟩; (intro w hSw; (try dsimp only at hSw); go_simp) <;> with_reducible rfl)); (try simp only [Act.put, List.setIfInBounds_toArray, List.set_cons_zero, List.set_cons_succ]))
          (refine wpAnyH_take (i := 2) (oi := ?oi_6_2) (v := ?v_6_2) ?ho_6_2 ?hs_6_2 ?hf_6_2 ?hr_6_2 ?hQ_6_2 ?hy_6_2 ?hS_6_2 ?rest_6_2; (case hr_6_2 => kernel_rfl); (case hf_6_2 => kernel_rfl); (case hs_6_2 => kernel_rfl); (case ho_6_2 => (simp only [List.getElem?_toArray, List.getElem?_cons_succ, List.getElem?_cons_zero]; rfl)); (case hS_6_2 => assumption); (case hQ_6_2 => exact fun _ _ _ h => h); (case hy_6_2 => (refine Or.inl ⟨by rfl, ?_⟩; (intro w hSw; (try dsimp only at hSw); go_simp) <;> with_reducible rfl)); (try simp only [Act.put, List.setIfInBounds_toArray, List.set_cons_zero, List.set_cons_succ]))
          (refine wpAnyH_take (i := 3) (oi := ?oi_6_3) (v := ?v_6_3) ?ho_6_3 ?hs_6_3 ?hf_6_3 ?hr_6_3 ?hQ_6_3 ?hy_6_3 ?hS_6_3 ?rest_6_3; (case hr_6_3 => kernel_rfl); (case hf_6_3 => kernel_rfl); (case hs_6_3 => kernel_rfl); (case ho_6_3 => (simp only [List.getElem?_toArray, List.getElem?_cons_succ, List.getElem?_cons_zero]; rfl)); (case hS_6_3 => assumption); (case hQ_6_3 => exact fun _ _ _ h => h); (case hy_6_3 => (refine Or.inl ⟨by rfl, ?_⟩; (intro w hSw; (try dsimp only at hSw); go_simp) <;> with_reducible rfl)); (try simp only [Act.put, List.setIfInBounds_toArray, List.set_cons_zero, List.set_cons_succ]))
          (refine wpAnyH_take (i := 4) (oi := ?oi_6_4) (v := ?v_6_4) ?ho_6_4 ?hs_6_4 ?hf_6_4 ?hr_6_4 ?hQ_6_4 ?hy_6_4 ?hS_6_4 ?rest_6_4; (case hr_6_4 => kernel_rfl); (case hf_6_4 => kernel_rfl); (case hs_6_4 => kernel_rfl); (case ho_6_4 => (simp only [List.getElem?_toArray, List.getElem?_cons_succ, List.getElem?_cons_zero]; rfl)); (case hS_6_4 => assumption); (case hQ_6_4 => exact fun _ _ _ h => h); (case hy_6_4 => (refine Or.inl ⟨by rfl, ?_⟩; (intro w hSw; (try dsimp only at hSw); go_simp) <;> with_reducible rfl)); (try simp only [Act.put, List.setIfInBounds_toArray, List.set_cons_zero, List.set_cons_succ]))
          (refine wpAnyH_take (i := 5) (oi := ?oi_6_5) (v := ?v_6_5) ?ho_6_5 ?hs_6_5 ?hf_6_5 ?hr_6_5 ?hQ_6_5 ?hy_6_5 ?hS_6_5 ?rest_6_5; (case hr_6_5 => kernel_rfl); (case hf_6_5 => kernel_rfl); (case hs_6_5 => kernel_rfl); (case ho_6_5 => (simp only [List.getElem?_toArray, List.getElem?_cons_succ, List.getElem?_cons_zero]; rfl)); (case hS_6_5 => assumption); (case hQ_6_5 => exact fun _ _ _ h => h); (case hy_6_5 => (refine Or.inl ⟨by rfl, ?_⟩; (intro w hSw; (try dsimp only at hSw); go_simp) <;> with_reducible rfl)); (try simp only [Act.put, List.setIfInBounds_toArray, List.set_cons_zero, List.set_cons_succ]))
          (refine wpAnyH_take (i := 6) (oi := ?oi_6_6) (v := ?v_6_6) ?ho_6_6 ?hs_6_6 ?hf_6_6 ?hr_6_6 ?hQ_6_6 ?hy_6_6 ?hS_6_6 ?rest_6_6; (case hr_6_6 => kernel_rfl); (case hf_6_6 => kernel_rfl); (case hs_6_6 => kernel_rfl); (case ho_6_6 => (simp only [List.getElem?_toArray, List.getElem?_cons_succ, List.getElem?_cons_zero]; rfl)); (case hS_6_6 => assumption); (case hQ_6_6 => exact fun _ _ _ h => h); (case hy_6_6 => (refine Or.inl ⟨by rfl, ?_⟩; (intro w hSw; (try dsimp only at hSw); go_simp) <;> with_reducible rfl)); (try simp only [Act.put, List.setIfInBounds_toArray, List.set_cons_zero, List.set_cons_succ]))
          (refine wpAnyH_take (i := 9) (oi := ?oi_6_9) (v := ?v_6_9) ?ho_6_9 ?hs_6_9 ?hf_6_9 ?hr_6_9 ?hQ_6_9 ?hy_6_9 ?hS_6_9 ?rest_6_9; (case hr_6_9 => kernel_rfl); (case hf_6_9 => kernel_rfl); (case hs_6_9 => kernel_rfl); (case ho_6_9 => (simp only [List.getElem?_toArray, List.getElem?_cons_succ, List.getElem?_cons_zero]; rfl)); (case hS_6_9 => assumption); (case hQ_6_9 => exact fun _ _ _ h => h); (case hy_6_9 => (refine Or.inl ⟨by rfl, ?_⟩; (intro w hSw; (try dsimp only at hSw); go_simp) <;> with_reducible rfl)); (try simp only [Act.put, List.setIfInBounds_toArray, List.set_cons_zero, List.set_cons_succ]))
          (refine wpAnyH_take (i := 10) (oi := ?oi_6_10) (v := ?v_6_10) ?ho_6_10 ?hs_6_10 ?hf_6_10 ?hr_6_10 ?hQ_6_10 ?hy_6_10 ?hS_6_10 ?rest_6_10; (case hr_6_10 => kernel_rfl); (case hf_6_10 => kernel_rfl); (case hs_6_10 => kernel_rfl); (case ho_6_10 => (simp only [List.getElem?_toArray, List.getElem?_cons_succ, List.getElem?_cons_zero]; rfl)); (case hS_6_10 => assumption); (case hQ_6_10 => exact fun _ _ _ h => h); (case hy_6_10 => (refine Or.inl ⟨by rfl, ?_⟩; (intro w hSw; (try dsimp only at hSw); go_simp) <;> with_reducible rfl)); (try simp only [Act.put, List.setIfInBounds_toArray, List.set_cons_zero, List.set_cons_succ]))
          (refine wpAnyH_take (i := 11) (oi := ?oi_6_11) (v := ?v_6_11) ?ho_6_11 ?hs_6_11 ?hf_6_11 ?hr_6_11 ?hQ_6_11 ?hy_6_11 ?hS_6_11 ?rest_6_11; (case hr_6_11 => kernel_rfl); (case hf_6_11 => kernel_rfl); (case hs_6_11 => kernel_rfl); (case ho_6_11 => (simp only [List.getElem?_toArray, List.getElem?_cons_succ, List.getElem?_cons_zero]; rfl)); (case hS_6_11 => assumption); (case hQ_6_11 => exact fun _ _ _ h => h); (case hy_6_11 => (refine Or.inl ⟨by rfl, ?_⟩; (intro w hSw; (try dsimp only at hSw); go_simp) <;> with_reducible rfl)); (try simp only [Act.put, List.setIfInBounds_toArray, List.set_cons_zero, List.set_cons_succ]))
          (refine wpAnyH_take (i := 12) (oi := ?oi_6_12) (v := ?v_6_12) ?ho_6_12 ?hs_6_12 ?hf_6_12 ?hr_6_12 ?hQ_6_12 ?hy_6_12 ?hS_6_12 ?rest_6_12; (case hr_6_12 => kernel_rfl); (case hf_6_12 => kernel_rfl); (case hs_6_12 => kernel_rfl); (case ho_6_12 => (simp only [List.getElem?_toArray, List.getElem?_cons_succ, List.getElem?_cons_zero]; rfl)); (case hS_6_12 => assumption); (case hQ_6_12 => exact fun _ _ _ h => h); (case hy_6_12 => (refine Or.inl ⟨by rfl, ?_⟩; (intro w hSw; (try dsimp only at hSw); go_simp) <;> with_reducible rfl)); (try simp only [Act.put, List.setIfInBounds_toArray, List.set_cons_zero, List.set_cons_succ]))
          (refine wpAnyH_take (i := 13) (oi := ?oi_6_13) (v := ?v_6_13) ?ho_6_13 ?hs_6_13 ?hf_6_13 ?hr_6_13 ?hQ_6_13 ?hy_6_13 ?hS_6_13 ?rest_6_13; (case hr_6_13 => kernel_rfl); (case hf_6_13 => kernel_rfl); (case hs_6_13 => kernel_rfl); (case ho_6_13 => (simp only [List.getElem?_toArray, List.getElem?_cons_succ, List.getElem?_cons_zero]; rfl)); (case hS_6_13 => assumption); (case hQ_6_13 => exact fun _ _ _ h => h); (case hy_6_13 => (refine Or.inl ⟨by rfl, ?_⟩; (intro w hSw; (try dsimp only at hSw); go_simp) <;> with_reducible rfl)); (try simp only [Act.put, List.setIfInBounds_toArray, List.set_cons_zero, List.set_cons_succ]))
          (refine wpAnyH_take (i := 14) (oi := ?oi_6_14) (v := ?v_6_14) ?ho_6_14 ?hs_6_14 ?hf_6_14 ?hr_6_14 ?hQ_6_14 ?hy_6_14 ?hS_6_14 ?rest_6_14; (case hr_6_14 => kernel_rfl); (case hf_6_14 => kernel_rfl); (case hs_6_14 => kernel_rfl); (case ho_6_14 => (simp only [List.getElem?_toArray, List.getElem?_cons_succ, List.getElem?_cons_zero]; rfl)); (case hS_6_14 => assumption); (case hQ_6_14 => exact fun _ _ _ h => h); (case hy_6_14 => (refine Or.inl ⟨by rfl, ?_⟩; (intro w hSw; (try dsimp only at hSw); go_simp) <;> with_reducible rfl)); (try simp only [Act.put, List.setIfInBounds_toArray, List.set_cons_zero, List.set_cons_succ]))
          (refine wpAnyH_ready (rs := [7]) (by kernel_rfl) (by simp) ?_; refine AllReadyH.cons (o := ?oo_6_7) ?hoo_6_7 ?hst_6_7 AllReadyH.nil; (case hoo_6_7 => (simp only [List.getElem?_toArray, List.getElem?_cons_succ, List.getElem?_cons_zero]; rfl)); intro K hK; go_simp; ((go_at_call 63; (refine (cp23.out _ hV0).mono ?_); rintro en y23 ⟨rfl, hu1⟩; have hV1 := hV0.trans hu1 fun _ _ h => h; have c1 := hS.out _ hV1)); (try go_wp2_with fail); refine hK.out _ _ (by (try dsimp only); exact c1) (fun hHeld => ?_); clear hK K; (try simp only [Act.put, List.setIfInBounds_toArray, List.set_cons_zero, List.set_cons_succ]))
          (refine wpAnyH_take (i := 8) (oi := ?oi_6_8) (v := ?v_6_8) ?ho_6_8 ?hs_6_8 ?hf_6_8 ?hr_6_8 ?hQ_6_8 ?hy_6_8 ?hS_6_8 ?rest_6_8; (case hr_6_8 => kernel_rfl); (case hf_6_8 => kernel_rfl); (case hs_6_8 => kernel_rfl); (case ho_6_8 => (simp only [List.getElem?_toArray, List.getElem?_cons_succ, List.getElem?_cons_zero]; rfl)); (case hS_6_8 => assumption); (case hQ_6_8 => exact fun _ _ _ h => h); (case hy_6_8 => (refine Or.inl ⟨by rfl, ?_⟩; (intro w hSw; (try dsimp only at hSw); go_simp) <;> with_reducible rfl)); (try simp only [Act.put, List.setIfInBounds_toArray, List.set_cons_zero, List.set_cons_succ]))
          (refine wpAnyH_ready (rs := [15]) (by kernel_rfl) (by simp) ?_; refine AllReadyH.cons (o := ?oo_6_15) ?hoo_6_15 ?hst_6_15 AllReadyH.nil; (case hoo_6_15 => (simp only [List.getElem?_toArray, List.getElem?_cons_succ, List.getElem?_cons_zero]; rfl)); intro K hK; go_simp; ((go_at_call 62; (refine (cp24.out _ hV1).mono ?_); rintro en y24 ⟨rfl, hu2⟩; have hV2 := hV1.trans hu2 fun _ _ h => h; have c2 := hS.out _ hV2)); (try go_wp2_with fail); refine hK.out _ _ (by (try dsimp only); exact c2) (fun hHeld => ?_); clear hK K; (try simp only [Act.put, List.setIfInBounds_toArray, List.set_cons_zero, List.set_cons_succ]))
          (refine wpAnyH_take (i := 16) (oi := ?oi_6_16) (v := ?v_6_16) ?ho_6_16 ?hs_6_16 ?hf_6_16 ?hr_6_16 ?hQ_6_16 ?hy_6_16 ?hS_6_16 ?rest_6_16; (case hr_6_16 => kernel_rfl); (case hf_6_16 => kernel_rfl); (case hs_6_16 => kernel_rfl); (case ho_6_16 => (simp only [List.getElem?_toArray, List.getElem?_cons_succ, List.getElem?_cons_zero]; rfl)); (case hS_6_16 => assumption); (case hQ_6_16 => exact fun _ _ _ h => h); (case hy_6_16 => (refine Or.inl ⟨by rfl, ?_⟩; (intro w hSw; (try dsimp only at hSw); go_simp) <;> with_reducible rfl)); (try simp only [Act.put, List.setIfInBounds_toArray, List.set_cons_zero, List.set_cons_succ]))
          (refine wpAnyH_take (i := 17) (oi := ?oi_6_17) (v := ?v_6_17) ?ho_6_17 ?hs_6_17 ?hf_6_17 ?hr_6_17 ?hQ_6_17 ?hy_6_17 ?hS_6_17 ?rest_6_17; (case hr_6_17 => kernel_rfl); (case hf_6_17 => kernel_rfl); (case hs_6_17 => kernel_rfl); (case ho_6_17 => (simp only [List.getElem?_toArray, List.getElem?_cons_succ, List.getElem?_cons_zero]; rfl)); (case hS_6_17 => assumption); (case hQ_6_17 => exact fun _ _ _ h => h); (case hy_6_17 => (refine Or.inl ⟨by rfl, ?_⟩; (intro w hSw; (try dsimp only at hSw); go_simp) <;> with_reducible rfl)); (try simp only [Act.put, List.setIfInBounds_toArray, List.set_cons_zero, List.set_cons_succ]))
          refine wpAnyH_done (by kernel_rfl) ?_ _
          rw [hfold22.out]
          clear cp23 cp24 hS hfold22 hl22_1 hl22_2
          clear c0 c1 c2 hu1 hu2
          have h6 : A6 ++ (ups.take (k + 1)).flatMap putUp = B ++ x23 ++ x24 := by rw [h5.out, hp23.out, hp24.out]; simp only [List.append_assoc]
          rw [← h6]
          have hUU := hV2
          clear hV0 hV1 hV2 hx2
          go_wp2_with fail
          go_roundw
          case rel => exact ⟨k + 1, by go_num, by omega, rfl, hUU⟩
          case measure => simp [intOf]; omega
        · have hltI : ¬ (k : Int) < (ups.length : Int) := by omega
          obtain rfl : k = ups.length := by omega
          rw [List.take_length]
          have lB7 : (A6 ++ ups.flatMap putUp).length ≤ 343700000000 := by rw [List.length_append]; omega
          obtain ⟨A7, eA7⟩ : ∃ B, B = A6 ++ ups.flatMap putUp := ⟨_, rfl⟩
          rw [← eA7] at lB7 ⊢
          replace eA7 := Lib.hid eA7
          clear hk hlt r5 hfl5 hsn5 k9b hi5
          have cp25 : Hid (∀ w', Calls Tryz.prog 62 #[.int .i64 (parts.length : Int), .int .i64 2] w' (Ret (.string ⟨(fld (parts.length : Int) 2).toArray⟩) w')) := Lib.hid (fun w' => fld8 (parts.length : Int) 2 (by omega) (len64 k10a) w')
          have lp25 : (fld (parts.length : Int) 2).length ≤ 2 := Nat.le_of_eq (fld_length _ _)
          generalize hp25 : fld (parts.length : Int) 2 = x25 at cp25 lp25
          replace hp25 := Lib.hid hp25
          have hl25 : A7.length + x25.length ≤ 9223372036854775807 := by omega
          have hfold25 : Value.string ((⟨A7.toArray⟩ : ByteArray) ++ ⟨x25.toArray⟩) = .string ⟨(A7 ++ x25).toArray⟩ := by rw [ByteArray.mk_append_mk] <;> simp
          replace hfold25 := Lib.hid hfold25
          have z : wr.cell? ⟨N, 23, none⟩ = some (.slice p6 parts.length q6) := hK.out _ hU 23 _ rfl
          go_wp2_with fail
          refine (cp25.out _).mono ?_
          rintro en y25 ⟨rfl, hu25⟩
          have hV0 := hU.trans hu25 fun _ _ h => h
          clear z hu25
          have z : y25.cell? ⟨N, 23, none⟩ = some (.slice p6 parts.length q6) := hK.out _ hV0 23 _ rfl
          obtain ⟨A8, eA8⟩ : ∃ A, A = A7 ++ x25 := ⟨_, rfl⟩
          have lA8 : A8.length ≤ 343700000002 := by rw [eA8]; simp only [List.length_append]; omega
          replace eA8 := Lib.hid eA8
          have hfo8 : Value.string ((⟨A7.toArray⟩ : ByteArray) ++ ⟨x25.toArray⟩) = .string ⟨A8.toArray⟩ := by rw [eA8.out]; exact hfold25.out
          replace hfo8 := Lib.hid hfo8
          clear cp25 hfold25
          go_wp2_with fail
          go_loopw [3, 7] (fun sv iv wr => ∃ k : Nat, iv = .int .i64 (k : Int) ∧ k ≤ parts.length ∧ sv = .string ⟨(A8 ++ (parts.take k).flatMap putPt).toArray⟩ ∧ Upd Non W0 wr) (fun _ iv _ => parts.length - (intOf iv).toNat)
          case atStart => exact ⟨0, rfl, Nat.zero_le _, by rw [List.take_zero, List.flatMap_nil, List.append_nil]; exact hfo8.out, hV0⟩
          case round =>
            clear hV0 z hfo8
            obtain ⟨k, rfl, hk, rfl, hU⟩ := hrel
            have z : wr.cell? ⟨N, 23, none⟩ = some (.slice p6 parts.length q6) := hK.out _ hU 23 _ rfl
            by_cases hlt : k < parts.length
            · have hltI : (k : Int) < (parts.length : Int) := by omega
              have hk0 : (0 : Int) ≤ (k : Int) := by omega
              obtain ⟨gg, off, rfl, x0⟩ := r6.out k hlt
              have hx2 := fun w' (hu : Upd Non W0 w') j u e => (hUN.out _ hu).cell (x0 j u e) fun h => h
              replace hx2 := Lib.hid hx2
              have h1 := hsn6.out k hlt
              have h2 := k10b.out _ (List.getElem_mem hlt)
              have h3 := hfl6.out k
              have h4 := hfl6.out (k + 1)
              rw [h1, List.length_append] at h4
              clear x0
              replace h1 := Lib.hid h1
              generalize parts[k] = x at *
              have e1 : putPt x = fld x.n 2 ++ putHd x.head := rfl
              replace e1 := Lib.hid e1
              obtain ⟨xn, ⟨xs, xr, xi, xg, xl⟩⟩ := x
              dsimp only at *
              have lB : (A8 ++ (parts.take k).flatMap putPt).length ≤ 343800000000 := by rw [List.length_append]; omega
              have h5 : A8 ++ (parts.take (k + 1)).flatMap putPt = (A8 ++ (parts.take k).flatMap putPt) ++ (fld xn 2 ++ putHd ⟨xs, xr, xi, xg, xl⟩) := by rw [h1.out, List.append_assoc, e1.out]
              generalize A8 ++ (parts.take k).flatMap putPt = B at *
              replace h5 := Lib.hid h5
              clear h3 h4
              obtain ⟨h2a, h2b⟩ := h2
              have h2c := hdOk64 h2b
              dsimp only at h2a
              have h2d : i64 xn := by unfold i64; omega
              have cp26 : Hid (∀ w', Upd Non W0 w' → Calls Tryz.prog 62 #[.int .i64 xn, .int .i64 2] w' (Ret (.string ⟨(fld xn 2).toArray⟩) w')) := Lib.hid (fun w' hu => fld8 xn 2 (by omega) h2d w')
              have lp26 : (fld xn 2).length ≤ 2 := Nat.le_of_eq (fld_length _ _)
              generalize hp26 : fld xn 2 = x26 at cp26 lp26
              replace hp26 := Lib.hid hp26
              have cp27 : Hid (∀ w', Upd Non W0 w' → Calls Tryz.prog 65 #[.agg #[.int .i64 xs, .int .i64 xr, .int .i64 xi, .bool xg, .bool xl]] w' (Ret (.string ⟨(putHd ⟨xs, xr, xi, xg, xl⟩).toArray⟩) w')) := Lib.hid (fun w' hu => rPutHead ⟨xs, xr, xi, xg, xl⟩ h2c w')
              have lp27 : (putHd ⟨xs, xr, xi, xg, xl⟩).length ≤ 11 := Nat.le_of_eq (putHd_len _)
              generalize hp27 : putHd ⟨xs, xr, xi, xg, xl⟩ = x27 at cp27 lp27
              replace hp27 := Lib.hid hp27
              have hl25_1 : (9223372036854775807 < B.length + x26.length) = False := eq_false (by omega)
              have hl25_2 : (9223372036854775807 < B.length + x26.length + x27.length) = False := eq_false (by omega)
              have hfold25 : Value.string ((⟨B.toArray⟩ : ByteArray) ++ ⟨x26.toArray⟩ ++ ⟨x27.toArray⟩) = .string ⟨(B ++ x26 ++ x27).toArray⟩ := by rw [ByteArray.mk_append_mk, ByteArray.mk_append_mk] <;> simp
              replace hfold25 := Lib.hid hfold25
              have hS : Hid (∀ w', Upd Non W0 w' → w'.cell? ⟨N, 23, none⟩ = some (.slice (some ⟨gg, off, none⟩) parts.length q6) ∧ w'.cell? ⟨gg, off + k * 6, none⟩ = some (.int .i64 xn) ∧ w'.cell? ⟨gg, off + k * 6 + 1, none⟩ = some (.int .i64 xs) ∧ w'.cell? ⟨gg, off + k * 6 + 2, none⟩ = some (.int .i64 xr) ∧ w'.cell? ⟨gg, off + k * 6 + 3, none⟩ = some (.int .i64 xi) ∧ w'.cell? ⟨gg, off + k * 6 + 4, none⟩ = some (.bool xg) ∧ w'.cell? ⟨gg, off + k * 6 + 5, none⟩ = some (.bool xl)) := Lib.hid (fun w' hu => ⟨hK.out w' hu 23 _ rfl, hx2.out w' hu 0 _ rfl, hx2.out w' hu 1 _ rfl, hx2.out w' hu 2 _ rfl, hx2.out w' hu 3 _ rfl, hx2.out w' hu 4 _ rfl, hx2.out w' hu 5 _ rfl⟩)
              have hV0 := (hU).then_drew
              have c0 := hS.out _ hV0
              go_wp2_with fail
              refine wp_region_held_drew (S := (fun w' => w'.cell? ⟨N, 23, none⟩ = some (.slice (some ⟨gg, off, none⟩) parts.length q6) ∧ w'.cell? ⟨gg, off + k * 6, none⟩ = some (.int .i64 xn) ∧ w'.cell? ⟨gg, off + k * 6 + 1, none⟩ = some (.int .i64 xs) ∧ w'.cell? ⟨gg, off + k * 6 + 2, none⟩ = some (.int .i64 xr) ∧ w'.cell? ⟨gg, off + k * 6 + 3, none⟩ = some (.int .i64 xi) ∧ w'.cell? ⟨gg, off + k * 6 + 4, none⟩ = some (.bool xg) ∧ w'.cell? ⟨gg, off + k * 6 + 5, none⟩ = some (.bool xl))) (by kernel_rfl) (by (try dsimp only); exact c0) (fun hHeld => ?_)
              (refine wpAnyH_take (i := 0) (oi := ?oi_7_0) (v := ?v_7_0) ?ho_7_0 ?hs_7_0 ?hf_7_0 ?hr_7_0 ?hQ_7_0 ?hy_7_0 ?hS_7_0 ?rest_7_0; (case hr_7_0 => kernel_rfl); (case hf_7_0 => kernel_rfl); (case hs_7_0 => kernel_rfl); (case ho_7_0 => (simp only [List.getElem?_toArray, List.getElem?_cons_succ, List.getElem?_cons_zero]; rfl)); (case hS_7_0 => assumption); (case hQ_7_0 => exact fun _ _ _ h => h); (case hy_7_0 => (refine Or.inl ⟨by rfl, ?_⟩; (intro w hSw; (try dsimp only at hSw); go_simp) <;> with_reducible rfl)); (try simp only [Act.put, List.setIfInBounds_toArray, List.set_cons_zero, List.set_cons_succ]))
              (refine wpAnyH_take (i := 1) (oi := ?oi_7_1) (v := ?v_7_1) ?ho_7_1 ?hs_7_1 ?hf_7_1 ?hr_7_1 ?hQ_7_1 ?hy_7_1 ?hS_7_1 ?rest_7_1; (case hr_7_1 => kernel_rfl); (case hf_7_1 => kernel_rfl); (case hs_7_1 => kernel_rfl); (case ho_7_1 => (simp only [List.getElem?_toArray, List.getElem?_cons_succ, List.getElem?_cons_zero]; rfl)); (case hS_7_1 => assumption); (case hQ_7_1 => exact fun _ _ _ h => h); (case hy_7_1 => (refine Or.inl ⟨by rfl, ?_⟩; (intro w hSw; (try dsimp only at hSw); go_simp) <;> with_reducible rfl)); (try simp only [Act.put, List.setIfInBounds_toArray, List.set_cons_zero, List.set_cons_succ]))
              (refine wpAnyH_take (i := 2) (oi := ?oi_7_2) (v := ?v_7_2) ?ho_7_2 ?hs_7_2 ?hf_7_2 ?hr_7_2 ?hQ_7_2 ?hy_7_2 ?hS_7_2 ?rest_7_2; (case hr_7_2 => kernel_rfl); (case hf_7_2 => kernel_rfl); (case hs_7_2 => kernel_rfl); (case ho_7_2 => (simp only [List.getElem?_toArray, List.getElem?_cons_succ, List.getElem?_cons_zero]; rfl)); (case hS_7_2 => assumption); (case hQ_7_2 => exact fun _ _ _ h => h); (case hy_7_2 => (refine Or.inl ⟨by rfl, ?_⟩; (intro w hSw; (try dsimp only at hSw); go_simp) <;> with_reducible rfl)); (try simp only [Act.put, List.setIfInBounds_toArray, List.set_cons_zero, List.set_cons_succ]))
              (refine wpAnyH_take (i := 3) (oi := ?oi_7_3) (v := ?v_7_3) ?ho_7_3 ?hs_7_3 ?hf_7_3 ?hr_7_3 ?hQ_7_3 ?hy_7_3 ?hS_7_3 ?rest_7_3; (case hr_7_3 => kernel_rfl); (case hf_7_3 => kernel_rfl); (case hs_7_3 => kernel_rfl); (case ho_7_3 => (simp only [List.getElem?_toArray, List.getElem?_cons_succ, List.getElem?_cons_zero]; rfl)); (case hS_7_3 => assumption); (case hQ_7_3 => exact fun _ _ _ h => h); (case hy_7_3 => (refine Or.inl ⟨by rfl, ?_⟩; (intro w hSw; (try dsimp only at hSw); go_simp) <;> with_reducible rfl)); (try simp only [Act.put, List.setIfInBounds_toArray, List.set_cons_zero, List.set_cons_succ]))
              (refine wpAnyH_take (i := 4) (oi := ?oi_7_4) (v := ?v_7_4) ?ho_7_4 ?hs_7_4 ?hf_7_4 ?hr_7_4 ?hQ_7_4 ?hy_7_4 ?hS_7_4 ?rest_7_4; (case hr_7_4 => kernel_rfl); (case hf_7_4 => kernel_rfl); (case hs_7_4 => kernel_rfl); (case ho_7_4 => (simp only [List.getElem?_toArray, List.getElem?_cons_succ, List.getElem?_cons_zero]; rfl)); (case hS_7_4 => assumption); (case hQ_7_4 => exact fun _ _ _ h => h); (case hy_7_4 => (refine Or.inl ⟨by rfl, ?_⟩; (intro w hSw; (try dsimp only at hSw); go_simp) <;> with_reducible rfl)); (try simp only [Act.put, List.setIfInBounds_toArray, List.set_cons_zero, List.set_cons_succ]))
              (refine wpAnyH_take (i := 5) (oi := ?oi_7_5) (v := ?v_7_5) ?ho_7_5 ?hs_7_5 ?hf_7_5 ?hr_7_5 ?hQ_7_5 ?hy_7_5 ?hS_7_5 ?rest_7_5; (case hr_7_5 => kernel_rfl); (case hf_7_5 => kernel_rfl); (case hs_7_5 => kernel_rfl); (case ho_7_5 => (simp only [List.getElem?_toArray, List.getElem?_cons_succ, List.getElem?_cons_zero]; rfl)); (case hS_7_5 => assumption); (case hQ_7_5 => exact fun _ _ _ h => h); (case hy_7_5 => (refine Or.inl ⟨by rfl, ?_⟩; (intro w hSw; (try dsimp only at hSw); go_simp) <;> with_reducible rfl)); (try simp only [Act.put, List.setIfInBounds_toArray, List.set_cons_zero, List.set_cons_succ]))
              (refine wpAnyH_take (i := 6) (oi := ?oi_7_6) (v := ?v_7_6) ?ho_7_6 ?hs_7_6 ?hf_7_6 ?hr_7_6 ?hQ_7_6 ?hy_7_6 ?hS_7_6 ?rest_7_6; (case hr_7_6 => kernel_rfl); (case hf_7_6 => kernel_rfl); (case hs_7_6 => kernel_rfl); (case ho_7_6 => (simp only [List.getElem?_toArray, List.getElem?_cons_succ, List.getElem?_cons_zero]; rfl)); (case hS_7_6 => assumption); (case hQ_7_6 => exact fun _ _ _ h => h); (case hy_7_6 => (refine Or.inl ⟨by rfl, ?_⟩; (intro w hSw; (try dsimp only at hSw); go_simp) <;> with_reducible rfl)); (try simp only [Act.put, List.setIfInBounds_toArray, List.set_cons_zero, List.set_cons_succ]))
              (refine wpAnyH_take (i := 9) (oi := ?oi_7_9) (v := ?v_7_9) ?ho_7_9 ?hs_7_9 ?hf_7_9 ?hr_7_9 ?hQ_7_9 ?hy_7_9 ?hS_7_9 ?rest_7_9; (case hr_7_9 => kernel_rfl); (case hf_7_9 => kernel_rfl); (case hs_7_9 => kernel_rfl); (case ho_7_9 => (simp only [List.getElem?_toArray, List.getElem?_cons_succ, List.getElem?_cons_zero]; rfl)); (case hS_7_9 => assumption); (case hQ_7_9 => exact fun _ _ _ h => h); (case hy_7_9 => (refine Or.inl ⟨by rfl, ?_⟩; (intro w hSw; (try dsimp only at hSw); go_simp) <;> with_reducible rfl)); (try simp only [Act.put, List.setIfInBounds_toArray, List.set_cons_zero, List.set_cons_succ]))
              (refine wpAnyH_take (i := 10) (oi := ?oi_7_10) (v := ?v_7_10) ?ho_7_10 ?hs_7_10 ?hf_7_10 ?hr_7_10 ?hQ_7_10 ?hy_7_10 ?hS_7_10 ?rest_7_10; (case hr_7_10 => kernel_rfl); (case hf_7_10 => kernel_rfl); (case hs_7_10 => kernel_rfl); (case ho_7_10 => (simp only [List.getElem?_toArray, List.getElem?_cons_succ, List.getElem?_cons_zero]; rfl)); (case hS_7_10 => assumption); (case hQ_7_10 => exact fun _ _ _ h => h); (case hy_7_10 => (refine Or.inl ⟨by rfl, ?_⟩; (intro w hSw; (try dsimp only at hSw); go_simp) <;> with_reducible rfl)); (try simp only [Act.put, List.setIfInBounds_toArray, List.set_cons_zero, List.set_cons_succ]))
              (refine wpAnyH_take (i := 11) (oi := ?oi_7_11) (v := ?v_7_11) ?ho_7_11 ?hs_7_11 ?hf_7_11 ?hr_7_11 ?hQ_7_11 ?hy_7_11 ?hS_7_11 ?rest_7_11; (case hr_7_11 => kernel_rfl); (case hf_7_11 => kernel_rfl); (case hs_7_11 => kernel_rfl); (case ho_7_11 => (simp only [List.getElem?_toArray, List.getElem?_cons_succ, List.getElem?_cons_zero]; rfl)); (case hS_7_11 => assumption); (case hQ_7_11 => exact fun _ _ _ h => h); (case hy_7_11 => (refine Or.inl ⟨by rfl, ?_⟩; (intro w hSw; (try dsimp only at hSw); go_simp) <;> with_reducible rfl)); (try simp only [Act.put, List.setIfInBounds_toArray, List.set_cons_zero, List.set_cons_succ]))
              (refine wpAnyH_take (i := 12) (oi := ?oi_7_12) (v := ?v_7_12) ?ho_7_12 ?hs_7_12 ?hf_7_12 ?hr_7_12 ?hQ_7_12 ?hy_7_12 ?hS_7_12 ?rest_7_12; (case hr_7_12 => kernel_rfl); (case hf_7_12 => kernel_rfl); (case hs_7_12 => kernel_rfl); (case ho_7_12 => (simp only [List.getElem?_toArray, List.getElem?_cons_succ, List.getElem?_cons_zero]; rfl)); (case hS_7_12 => assumption); (case hQ_7_12 => exact fun _ _ _ h => h); (case hy_7_12 => (refine Or.inl ⟨by rfl, ?_⟩; (intro w hSw; (try dsimp only at hSw); go_simp) <;> with_reducible rfl)); (try simp only [Act.put, List.setIfInBounds_toArray, List.set_cons_zero, List.set_cons_succ]))
              (refine wpAnyH_take (i := 13) (oi := ?oi_7_13) (v := ?v_7_13) ?ho_7_13 ?hs_7_13 ?hf_7_13 ?hr_7_13 ?hQ_7_13 ?hy_7_13 ?hS_7_13 ?rest_7_13; (case hr_7_13 => kernel_rfl); (case hf_7_13 => kernel_rfl); (case hs_7_13 => kernel_rfl); (case ho_7_13 => (simp only [List.getElem?_toArray, List.getElem?_cons_succ, List.getElem?_cons_zero]; rfl)); (case hS_7_13 => assumption); (case hQ_7_13 => exact fun _ _ _ h => h); (case hy_7_13 => (refine Or.inl ⟨by rfl, ?_⟩; (intro w hSw; (try dsimp only at hSw); go_simp) <;> with_reducible rfl)); (try simp only [Act.put, List.setIfInBounds_toArray, List.set_cons_zero, List.set_cons_succ]))
              (refine wpAnyH_take (i := 14) (oi := ?oi_7_14) (v := ?v_7_14) ?ho_7_14 ?hs_7_14 ?hf_7_14 ?hr_7_14 ?hQ_7_14 ?hy_7_14 ?hS_7_14 ?rest_7_14; (case hr_7_14 => kernel_rfl); (case hf_7_14 => kernel_rfl); (case hs_7_14 => kernel_rfl); (case ho_7_14 => (simp only [List.getElem?_toArray, List.getElem?_cons_succ, List.getElem?_cons_zero]; rfl)); (case hS_7_14 => assumption); (case hQ_7_14 => exact fun _ _ _ h => h); (case hy_7_14 => (refine Or.inl ⟨by rfl, ?_⟩; (intro w hSw; (try dsimp only at hSw); go_simp) <;> with_reducible rfl)); (try simp only [Act.put, List.setIfInBounds_toArray, List.set_cons_zero, List.set_cons_succ]))
              (refine wpAnyH_ready (rs := [7]) (by kernel_rfl) (by simp) ?_; refine AllReadyH.cons (o := ?oo_7_7) ?hoo_7_7 ?hst_7_7 AllReadyH.nil; (case hoo_7_7 => (simp only [List.getElem?_toArray, List.getElem?_cons_succ, List.getElem?_cons_zero]; rfl)); intro K hK; go_simp; ((go_at_call 62; (refine (cp26.out _ hV0).mono ?_); rintro en y26 ⟨rfl, hu1⟩; have hV1 := hV0.trans hu1 fun _ _ h => h; have c1 := hS.out _ hV1)); (try go_wp2_with fail); refine hK.out _ _ (by (try dsimp only); exact c1) (fun hHeld => ?_); clear hK K; (try simp only [Act.put, List.setIfInBounds_toArray, List.set_cons_zero, List.set_cons_succ]))
              (refine wpAnyH_take (i := 8) (oi := ?oi_7_8) (v := ?v_7_8) ?ho_7_8 ?hs_7_8 ?hf_7_8 ?hr_7_8 ?hQ_7_8 ?hy_7_8 ?hS_7_8 ?rest_7_8; (case hr_7_8 => kernel_rfl); (case hf_7_8 => kernel_rfl); (case hs_7_8 => kernel_rfl); (case ho_7_8 => (simp only [List.getElem?_toArray, List.getElem?_cons_succ, List.getElem?_cons_zero]; rfl)); (case hS_7_8 => assumption); (case hQ_7_8 => exact fun _ _ _ h => h); (case hy_7_8 => (refine Or.inl ⟨by rfl, ?_⟩; (intro w hSw; (try dsimp only at hSw); go_simp) <;> with_reducible rfl)); (try simp only [Act.put, List.setIfInBounds_toArray, List.set_cons_zero, List.set_cons_succ]))
              (refine wpAnyH_ready (rs := [15]) (by kernel_rfl) (by simp) ?_; refine AllReadyH.cons (o := ?oo_7_15) ?hoo_7_15 ?hst_7_15 AllReadyH.nil; (case hoo_7_15 => (simp only [List.getElem?_toArray, List.getElem?_cons_succ, List.getElem?_cons_zero]; rfl)); intro K hK; go_simp; ((go_at_call 65; (refine (cp27.out _ hV1).mono ?_); rintro en y27 ⟨rfl, hu2⟩; have hV2 := hV1.trans hu2 fun _ _ h => h; have c2 := hS.out _ hV2)); (try go_wp2_with fail); refine hK.out _ _ (by (try dsimp only); exact c2) (fun hHeld => ?_); clear hK K; (try simp only [Act.put, List.setIfInBounds_toArray, List.set_cons_zero, List.set_cons_succ]))
              (refine wpAnyH_take (i := 16) (oi := ?oi_7_16) (v := ?v_7_16) ?ho_7_16 ?hs_7_16 ?hf_7_16 ?hr_7_16 ?hQ_7_16 ?hy_7_16 ?hS_7_16 ?rest_7_16; (case hr_7_16 => kernel_rfl); (case hf_7_16 => kernel_rfl); (case hs_7_16 => kernel_rfl); (case ho_7_16 => (simp only [List.getElem?_toArray, List.getElem?_cons_succ, List.getElem?_cons_zero]; rfl)); (case hS_7_16 => assumption); (case hQ_7_16 => exact fun _ _ _ h => h); (case hy_7_16 => (refine Or.inl ⟨by rfl, ?_⟩; (intro w hSw; (try dsimp only at hSw); go_simp) <;> with_reducible rfl)); (try simp only [Act.put, List.setIfInBounds_toArray, List.set_cons_zero, List.set_cons_succ]))
              (refine wpAnyH_take (i := 17) (oi := ?oi_7_17) (v := ?v_7_17) ?ho_7_17 ?hs_7_17 ?hf_7_17 ?hr_7_17 ?hQ_7_17 ?hy_7_17 ?hS_7_17 ?rest_7_17; (case hr_7_17 => kernel_rfl); (case hf_7_17 => kernel_rfl); (case hs_7_17 => kernel_rfl); (case ho_7_17 => (simp only [List.getElem?_toArray, List.getElem?_cons_succ, List.getElem?_cons_zero]; rfl)); (case hS_7_17 => assumption); (case hQ_7_17 => exact fun _ _ _ h => h); (case hy_7_17 => (refine Or.inl ⟨by rfl, ?_⟩; (intro w hSw; (try dsimp only at hSw); go_simp) <;> with_reducible rfl)); (try simp only [Act.put, List.setIfInBounds_toArray, List.set_cons_zero, List.set_cons_succ]))
              refine wpAnyH_done (by kernel_rfl) ?_ _
              rw [hfold25.out]
              clear cp26 cp27 hS hfold25 hl25_1 hl25_2
              clear c0 c1 c2 hu1 hu2
              have h6 : A8 ++ (parts.take (k + 1)).flatMap putPt = B ++ x26 ++ x27 := by rw [h5.out, hp26.out, hp27.out]; simp only [List.append_assoc]
              rw [← h6]
              have hUU := hV2
              clear hV0 hV1 hV2 hx2
              go_wp2_with fail
              go_roundw
              case rel => exact ⟨k + 1, by go_num, by omega, rfl, hUU⟩
              case measure => simp [intOf]; omega
            · have hltI : ¬ (k : Int) < (parts.length : Int) := by omega
              obtain rfl : k = parts.length := by omega
              rw [List.take_length]
              have hg := Lib.hid (hfin.out wr (A8 ++ parts.flatMap putPt) (by
                rw [eA8.out, eA7.out, eA6.out, eA5.out, eB.out, eA4.out, eA3.out, eA2.out, eA1.out, ← hp1.out, ← hp2.out, ← hp3.out, ← hp4.out, ← hp5.out, ← hp6.out, ← hp7.out, ← hp8.out, ← hp9.out, ← hp10.out, ← hp11.out, ← hp12.out, ← hp13.out, ← hp14.out, ← hp19.out, ← hp20.out, ← hp21.out, ← hp22.out, ← hp25.out]
                simp only [List.append_assoc]) (hUN.out _ hU))
              clear hU
              go_wp2_with fail
              exact hg.out
end Go.Proofs.YtogekobpjjmnjaaGreat
