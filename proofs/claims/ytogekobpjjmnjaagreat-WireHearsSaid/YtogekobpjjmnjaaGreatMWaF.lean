/- The walk over wire.Answer (printed by gen/mkwaf.py). -/
import Derived.Test.YtogekobpjjmnjaaGreatMWaD
import Derived.Test.YtogekobpjjmnjaaGreatMBlA
namespace Go.Proofs.YtogekobpjjmnjaaGreat
open Go.RowKit Go.Amb
set_option linter.unusedVariables false
set_option linter.unusedSimpArgs false
set_option maxRecDepth 100000
attribute [local go_sem ↓] Go.wp_at_zero Go.wp_at_succ
/-- What Answer tells. -/
def AnswerA (r : Rs) (w : World) : Ending → World → Prop := fun en w' =>
  (rightA r ∧ ∃ v, en = .returned (.tuple #[v, .int .i64 0]) ∧ Own w' (w.heap.size + 1) 5 v (putA r) ∧ Upd Non w w') ∨
  (¬ rightA r ∧ en = .returned (.tuple #[.slice none 0 0, .int .i64 4]) ∧ Upd Non w w')
/-- All blocks of a response's slices lie below. -/
def SlLt (S : Sl) (B : Nat) : Prop := ∀ k, At S.n k ∨ At S.ln k ∨ At S.lp k ∨ At S.l k ∨ At S.u k ∨ At S.p k → k < B
theorem at_nil {k : Nat} : ¬ At (.slice none 0 0) k := fun h => by simp [At, Value.ownBlock] at h
set_option maxHeartbeats 16000000 in
theorem wAnswer (r0 : Rs) (S : Sl) (w : World) (hR : RsAt w r0 S) (hs : smallA r0) (hlt : SlLt S w.heap.size) (hid : ids r0) : Calls Tryz.prog 21 #[rsV r0 S] w (AnswerA r0 w) := by
  have hM := Lib.hid (wMay r0 S)
  have hR' := Lib.hid (fun w' (hu : Upd Non w w') => hR.non hu)
  have hs' := Lib.hid hs
  obtain ⟨hi1, hi2, hi3, hi4, hi5⟩ := hid
  obtain ⟨n1, n2, n3, n4, n5, n6⟩ := S
  obtain ⟨hR1, hR2, hR3, hR4, hR5, hR6⟩ := hR
  dsimp only at *
  obtain ⟨p1, q1, rfl, -⟩ := has1 hR1
  obtain ⟨p2, q2, rfl, -⟩ := has1 hR2
  obtain ⟨p3, q3, rfl, -⟩ := has1 hR3
  obtain ⟨p4, q4, rfl, t4, m4, -⟩ := has_rows (f := lnC) (m := 8) (fun _ => rfl) hR4
  obtain ⟨p5, q5, rfl, t5, m5, x5⟩ := has_rows (f := upC) (m := 2) (fun _ => rfl) hR5
  obtain ⟨p6, q6, rfl, t6, m6, x6⟩ := has_rows (f := ptC) (m := 6) (fun _ => rfl) hR6
  replace x5 := Lib.hid x5
  replace x6 := Lib.hid x6
  clear hR1 hR2 hR3 hR4 hR5 hR6 hs
  replace hlt := Lib.hid hlt
  obtain ⟨PR, hPR⟩ : ∃ PR, AnswerA r0 w = PR := ⟨_, rfl⟩
  rw [hPR]
  have hst := heap_alloc_new w (.cells (rsC r0 ⟨.slice p1 r0.names.length q1, .slice p2 r0.lnames.length q2, .slice p3 r0.lpre.length q3, .slice p4 r0.lines.length q4, .slice p5 r0.ups.length q5, .slice p6 r0.parts.length q6⟩) 39)
  have hsu : Upd Non w (w.alloc (.cells (rsC r0 ⟨.slice p1 r0.names.length q1, .slice p2 r0.lnames.length q2, .slice p3 r0.lpre.length q3, .slice p4 r0.lines.length q4, .slice p5 r0.ups.length q5, .slice p6 r0.parts.length q6⟩) 39)) := Upd.alloc _ _ _
  have hsz : Hid ((Tryz.prog.info? 39).map (·.size) = some (rsC r0 ⟨.slice p1 r0.names.length q1, .slice p2 r0.lnames.length q2, .slice p3 r0.lpre.length q3, .slice p4 r0.lines.length q4, .slice p5 r0.ups.length q5, .slice p6 r0.parts.length q6⟩).size) := Lib.hid (by kernel_rfl)
  by_cases hr : rightA r0
  case neg =>
    have hfin : Hid (∀ w', Upd Non w w' → PR (.returned (.tuple #[.slice none 0 0, .int .i64 4])) w') := Lib.hid (fun w' h => by rw [← hPR]; exact .inr ⟨hr, rfl, h⟩)
    have hM' := Lib.hid (fun w' (hu : Upd Non w w') => hM.out w' (hR'.out w' hu) hs'.out)
    rw [decide_eq_false hr] at hM'
    replace hr := Lib.hid hr
    clear hPR hM hR' hlt x5 x6 hi4 hi5
    unfold rsV at hM' ⊢
    obtain ⟨err, id, time, text, re, im, version, ⟨size, hre, him, gone, null⟩, body, names, lnames, lpre, next, more, lines, lobject, lid, lmore, ups, parts⟩ := r0
    unfold rsC at *
    dsimp only at *
    go_enter Tryz.func21, Tryz.ntmps21
    go_wp2_with ((with_reducible (show wpList _ _ _ (⟨_, Op.load _ _, _, _, _, _⟩ :: _) _ _)); refine loadB_list rfl 39 _ rfl w.heap.size #[.int .i64 err, .int .i64 id, .int .i64 time, .string ⟨text.toArray⟩, .int .i64 re, .int .i64 im, .string ⟨version.toArray⟩, .int .i64 size, .int .i64 hre, .int .i64 him, .bool gone, .bool null, .string ⟨body.toArray⟩, .slice p1 names.length q1, .slice p2 lnames.length q2, .slice p3 lpre.length q3, .string ⟨next.toArray⟩, .bool more, .slice p4 lines.length q4, .string ⟨lobject.toArray⟩, .int .i64 lid, .bool lmore, .slice p5 ups.length q5, .slice p6 parts.length q6] _ _ rfl hst Tryz.underlying39 rfl hsz.out ?_)
    go_wp2_with fail
    refine (hM'.out _ hsu).mono ?_
    rintro en w1 ⟨rfl, hu⟩
    have hg := hfin.out _ (hsu.trans hu fun _ _ h => h)
    clear hu hst hsu
    go_wp2_with fail
    exact hg
  have hfin : Hid (∀ v w' l, l = putA r0 → Own w' (w.heap.size + 1) 5 v l → Upd Non w w' → PR (.returned (.tuple #[v, .int .i64 0])) w') := Lib.hid (fun v w' l e h1 h2 => by rw [← hPR]; exact .inl ⟨hr, v, rfl, by rw [← e]; exact h1, h2⟩)
  have hM' := Lib.hid (fun w' (hu : Upd Non w w') => hM.out w' (hR'.out w' hu) hs'.out)
  rw [decide_eq_true hr] at hM'
  obtain ⟨k1, k2, k3, k4, k5, k6, k7, k8, k9, k10⟩ := hr
  clear hPR hM hs'
  unfold rsV at hM' ⊢
  obtain ⟨err, id, time, text, re, im, version, ⟨size, hre, him, gone, null⟩, body, names, lnames, lpre, next, more, lines, lobject, lid, lmore, ups, parts⟩ := r0
  have hpA : Hid (fld err 1 ++ (fld id 8 ++ (fld time 8 ++ (txtF text 4 ++ (fld re 4 ++ (fld im 4 ++ (txtF version 4 ++ (putHd ⟨size, hre, him, gone, null⟩ ++ (txtF body 4 ++ (putTxs names ++ (putTxs lnames ++ (putTxs lpre ++ (txtF next 4 ++ (truF more ++ (putLns lines lobject lid lmore ++ ((fld (ups.length : Int) 2 ++ ups.flatMap putUp) ++ (fld (parts.length : Int) 2 ++ parts.flatMap putPt)))))))))))))))) = putA ⟨err, id, time, text, re, im, version, ⟨size, hre, him, gone, null⟩, body, names, lnames, lpre, next, more, lines, lobject, lid, lmore, ups, parts⟩) := Lib.hid rfl
  generalize putA ⟨err, id, time, text, re, im, version, ⟨size, hre, him, gone, null⟩, body, names, lnames, lpre, next, more, lines, lobject, lid, lmore, ups, parts⟩ = pA at *
  unfold rsC at *
  dsimp only at *
  obtain ⟨k8a, k8b⟩ := k8
  obtain ⟨k9a, k9b⟩ := k9
  obtain ⟨k10a, k10b⟩ := k10
  obtain ⟨j1, j2, j3, j4⟩ := k2
  have l1 : text.length ≤ 1048576 := k4.2 _ (by simp)
  have l2 : version.length ≤ 1048576 := k4.2 _ (by simp)
  have l3 : body.length ≤ 1048576 := k4.2 _ (by simp)
  have l4 : next.length ≤ 1048576 := k4.2 _ (by simp)
  have l5 : lobject.length ≤ 1048576 := k4.2 _ (by simp)
  have m1 := putTxs_most k5
  have m2 := putTxs_most k6
  have m3 := putTxs_most k7
  have m4' := flat_most putLn 1048600 lines (fun x hx => putLn_most (k8b x hx))
  have m5' := flat_most putUp 1048600 ups (fun x hx => putUp_most (k9b x hx))
  have m6' := flat_most putPt 13 parts (fun x hx => Nat.le_of_eq (putPt_len x))
  have m4 : (lines.flatMap putLn).length ≤ 68720001000 := by
    have : lines.length * 1048600 ≤ 65535 * 1048600 := Nat.mul_le_mul_right _ k8a
    omega
  have m5 : (ups.flatMap putUp).length ≤ 68720001000 := by
    have : ups.length * 1048600 ≤ 65535 * 1048600 := Nat.mul_le_mul_right _ k9a
    omega
  have m6 : (parts.flatMap putPt).length ≤ 851955 := by
    have : parts.length * 13 ≤ 65535 * 13 := Nat.mul_le_mul_right _ k10a
    omega
  clear m4' m5' m6' k4
  have hfu := Lib.hid (flat_take putUp ups)
  have hsnu := Lib.hid (flat_snoc putUp ups)
  have hfp := Lib.hid (flat_take putPt parts)
  have hsnp := Lib.hid (flat_snoc putPt parts)
  replace k9b := Lib.hid k9b
  replace k10b := Lib.hid k10b
  replace hi5 := Lib.hid hi5
  have ht1 : ∀ k, At (.slice p1 names.length q1) k → k < w.heap.size + 1 := fun k h => by have := hlt.out k (.inl h); omega
  have ht2 : ∀ k, At (.slice p2 lnames.length q2) k → k < w.heap.size + 1 := fun k h => by have := hlt.out k (.inr (.inl h)); omega
  have ht3 : ∀ k, At (.slice p3 lpre.length q3) k → k < w.heap.size + 1 := fun k h => by have := hlt.out k (.inr (.inr (.inl h))); omega
  have ht4 : ∀ k, At (.slice p4 lines.length q4) k → k < w.heap.size + 1 := fun k h => by have := hlt.out k (.inr (.inr (.inr (.inl h)))); omega
  have ht5 : ∀ k, At (.slice p5 ups.length q5) k → k < w.heap.size + 1 := fun k h => by have := hlt.out k (.inr (.inr (.inr (.inr (.inl h))))); omega
  have ht6 : ∀ k, At (.slice p6 parts.length q6) k → k < w.heap.size + 1 := fun k h => by have := hlt.out k (.inr (.inr (.inr (.inr (.inr h))))); omega
  clear hlt
  replace k5 := Lib.hid k5
  replace k6 := Lib.hid k6
  replace k7 := Lib.hid k7
  replace k8b := Lib.hid k8b
  replace hi4 := Lib.hid hi4
  go_enter Tryz.func21, Tryz.ntmps21
  go_wp2_with ((with_reducible (show wpList _ _ _ (⟨_, Op.load _ _, _, _, _, _⟩ :: _) _ _)); refine loadB_list rfl 39 _ rfl w.heap.size #[.int .i64 err, .int .i64 id, .int .i64 time, .string ⟨text.toArray⟩, .int .i64 re, .int .i64 im, .string ⟨version.toArray⟩, .int .i64 size, .int .i64 hre, .int .i64 him, .bool gone, .bool null, .string ⟨body.toArray⟩, .slice p1 names.length q1, .slice p2 lnames.length q2, .slice p3 lpre.length q3, .string ⟨next.toArray⟩, .bool more, .slice p4 lines.length q4, .string ⟨lobject.toArray⟩, .int .i64 lid, .bool lmore, .slice p5 ups.length q5, .slice p6 parts.length q6] _ _ rfl hst Tryz.underlying39 rfl hsz.out ?_)
  go_wp2_with fail
  refine (hM'.out _ hsu).mono ?_
  rintro en wA ⟨rfl, hu⟩
  have hA := hu.heap hst fun h => h
  have hUA := hsu.trans hu fun _ _ h => h
  have hzA : w.heap.size + 1 ≤ wA.heap.size := heap_lt hA
  have hK : Hid (∀ w', Upd (At (.slice none 0 0)) wA w' → ∀ j v, (#[.int .i64 err, .int .i64 id, .int .i64 time, .string ⟨text.toArray⟩, .int .i64 re, .int .i64 im, .string ⟨version.toArray⟩, .int .i64 size, .int .i64 hre, .int .i64 him, .bool gone, .bool null, .string ⟨body.toArray⟩, .slice p1 names.length q1, .slice p2 lnames.length q2, .slice p3 lpre.length q3, .string ⟨next.toArray⟩, .bool more, .slice p4 lines.length q4, .string ⟨lobject.toArray⟩, .int .i64 lid, .bool lmore, .slice p5 ups.length q5, .slice p6 parts.length q6] : Array Value)[j]? = some v → w'.cell? ⟨w.heap.size, j, none⟩ = some v) := Lib.hid (fun w' hu j v e => hu.cell (((cells_of hA).1 j).trans e) at_nil)
  have hRA := Lib.hid (fun w' (hu : Upd (At (.slice none 0 0)) wA w') => hR'.out w' (hUA.trans hu fun k _ h => (at_nil h).elim))
  have hBz : ∀ {w'}, Upd (At (.slice none 0 0)) wA w' → w.heap.size + 1 ≤ w'.heap.size := fun h => Nat.le_trans hzA h.size
  clear hu hst hsu hM' hA hR'
  have gA : Grow (.slice none 0 0) wA (.slice none 0 0) wA := Grow.refl _ _
  have hoA : Own wA (w.heap.size + 1) 5 (.slice none 0 0) [] := World.ownsRow_nil _ _ _ _
  obtain ⟨N, hN⟩ : ∃ N, w.heap.size = N := ⟨_, rfl⟩
  rw [hN] at hK hoA
  have hN' := Lib.hid hN
  rw [hN]
  have hS := Lib.hid (fun w' (hu : Upd (At (.slice none 0 0)) wA w') => show w'.cell? ⟨N, 0, none⟩ = some (.int .i64 err) ∧ w'.cell? ⟨N, 1, none⟩ = some (.int .i64 id) ∧ w'.cell? ⟨N, 2, none⟩ = some (.int .i64 time) ∧ w'.cell? ⟨N, 3, none⟩ = some (.string ⟨text.toArray⟩) ∧ w'.cell? ⟨N, 4, none⟩ = some (.int .i64 re) ∧ w'.cell? ⟨N, 5, none⟩ = some (.int .i64 im) from ⟨hK.out w' hu 0 _ rfl, hK.out w' hu 1 _ rfl, hK.out w' hu 2 _ rfl, hK.out w' hu 3 _ rfl, hK.out w' hu 4 _ rfl, hK.out w' hu 5 _ rfl⟩)
  have g0 := gA.right (Upd.drew Non wA)
  have ho0 := (hoA).drew
  have hz0 : wA.heap.size ≤ wA.drew.heap.size := Nat.le_refl _
  have c0 := hS.out _ g0.upd
  go_wp2_with fail
  refine wp_region_held_drew (S := (fun w' => w'.cell? ⟨N, 0, none⟩ = some (.int .i64 err) ∧ w'.cell? ⟨N, 1, none⟩ = some (.int .i64 id) ∧ w'.cell? ⟨N, 2, none⟩ = some (.int .i64 time) ∧ w'.cell? ⟨N, 3, none⟩ = some (.string ⟨text.toArray⟩) ∧ w'.cell? ⟨N, 4, none⟩ = some (.int .i64 re) ∧ w'.cell? ⟨N, 5, none⟩ = some (.int .i64 im))) (by kernel_rfl) (by (try dsimp only); exact c0) (fun hHeld => ?_)
  (refine wpAnyH_take (i := 0) (oi := ?oi_1_0) (v := ?v_1_0) ?ho_1_0 ?hs_1_0 ?hf_1_0 ?hr_1_0 ?hQ_1_0 ?hy_1_0 ?hS_1_0 ?rest_1_0; (case hr_1_0 => kernel_rfl); (case hf_1_0 => kernel_rfl); (case hs_1_0 => kernel_rfl); (case ho_1_0 => (simp only [List.getElem?_toArray, List.getElem?_cons_succ, List.getElem?_cons_zero]; rfl)); (case hS_1_0 => assumption); (case hQ_1_0 => exact fun _ _ _ h => h); (case hy_1_0 => (refine Or.inl ⟨by rfl, ?_⟩; (intro w hSw; (try dsimp only at hSw); go_simp) <;> with_reducible rfl)); (try simp only [Act.put, List.setIfInBounds_toArray, List.set_cons_zero, List.set_cons_succ]))
  (refine wpAnyH_take (i := 1) (oi := ?oi_1_1) (v := ?v_1_1) ?ho_1_1 ?hs_1_1 ?hf_1_1 ?hr_1_1 ?hQ_1_1 ?hy_1_1 ?hS_1_1 ?rest_1_1; (case hr_1_1 => kernel_rfl); (case hf_1_1 => kernel_rfl); (case hs_1_1 => kernel_rfl); (case ho_1_1 => (simp only [List.getElem?_toArray, List.getElem?_cons_succ, List.getElem?_cons_zero]; rfl)); (case hS_1_1 => assumption); (case hQ_1_1 => exact fun _ _ _ h => h); (case hy_1_1 => (refine Or.inl ⟨by rfl, ?_⟩; (intro w hSw; (try dsimp only at hSw); go_simp) <;> with_reducible rfl)); (try simp only [Act.put, List.setIfInBounds_toArray, List.set_cons_zero, List.set_cons_succ]))
  (refine wpAnyH_take (i := 3) (oi := ?oi_1_3) (v := ?v_1_3) ?ho_1_3 ?hs_1_3 ?hf_1_3 ?hr_1_3 ?hQ_1_3 ?hy_1_3 ?hS_1_3 ?rest_1_3; (case hr_1_3 => kernel_rfl); (case hf_1_3 => kernel_rfl); (case hs_1_3 => kernel_rfl); (case ho_1_3 => (simp only [List.getElem?_toArray, List.getElem?_cons_succ, List.getElem?_cons_zero]; rfl)); (case hS_1_3 => assumption); (case hQ_1_3 => exact fun _ _ _ h => h); (case hy_1_3 => (refine Or.inl ⟨by rfl, ?_⟩; (intro w hSw; (try dsimp only at hSw); go_simp) <;> with_reducible rfl)); (try simp only [Act.put, List.setIfInBounds_toArray, List.set_cons_zero, List.set_cons_succ]))
  (refine wpAnyH_take (i := 4) (oi := ?oi_1_4) (v := ?v_1_4) ?ho_1_4 ?hs_1_4 ?hf_1_4 ?hr_1_4 ?hQ_1_4 ?hy_1_4 ?hS_1_4 ?rest_1_4; (case hr_1_4 => kernel_rfl); (case hf_1_4 => kernel_rfl); (case hs_1_4 => kernel_rfl); (case ho_1_4 => (simp only [List.getElem?_toArray, List.getElem?_cons_succ, List.getElem?_cons_zero]; rfl)); (case hS_1_4 => assumption); (case hQ_1_4 => exact fun _ _ _ h => h); (case hy_1_4 => (refine Or.inl ⟨by rfl, ?_⟩; (intro w hSw; (try dsimp only at hSw); go_simp) <;> with_reducible rfl)); (try simp only [Act.put, List.setIfInBounds_toArray, List.set_cons_zero, List.set_cons_succ]))
  (refine wpAnyH_take (i := 6) (oi := ?oi_1_6) (v := ?v_1_6) ?ho_1_6 ?hs_1_6 ?hf_1_6 ?hr_1_6 ?hQ_1_6 ?hy_1_6 ?hS_1_6 ?rest_1_6; (case hr_1_6 => kernel_rfl); (case hf_1_6 => kernel_rfl); (case hs_1_6 => kernel_rfl); (case ho_1_6 => (simp only [List.getElem?_toArray, List.getElem?_cons_succ, List.getElem?_cons_zero]; rfl)); (case hS_1_6 => assumption); (case hQ_1_6 => exact fun _ _ _ h => h); (case hy_1_6 => (refine Or.inl ⟨by rfl, ?_⟩; (intro w hSw; (try dsimp only at hSw); go_simp) <;> with_reducible rfl)); (try simp only [Act.put, List.setIfInBounds_toArray, List.set_cons_zero, List.set_cons_succ]))
  (refine wpAnyH_take (i := 7) (oi := ?oi_1_7) (v := ?v_1_7) ?ho_1_7 ?hs_1_7 ?hf_1_7 ?hr_1_7 ?hQ_1_7 ?hy_1_7 ?hS_1_7 ?rest_1_7; (case hr_1_7 => kernel_rfl); (case hf_1_7 => kernel_rfl); (case hs_1_7 => kernel_rfl); (case ho_1_7 => (simp only [List.getElem?_toArray, List.getElem?_cons_succ, List.getElem?_cons_zero]; rfl)); (case hS_1_7 => assumption); (case hQ_1_7 => exact fun _ _ _ h => h); (case hy_1_7 => (refine Or.inl ⟨by rfl, ?_⟩; (intro w hSw; (try dsimp only at hSw); go_simp) <;> with_reducible rfl)); (try simp only [Act.put, List.setIfInBounds_toArray, List.set_cons_zero, List.set_cons_succ]))
  (refine wpAnyH_take (i := 9) (oi := ?oi_1_9) (v := ?v_1_9) ?ho_1_9 ?hs_1_9 ?hf_1_9 ?hr_1_9 ?hQ_1_9 ?hy_1_9 ?hS_1_9 ?rest_1_9; (case hr_1_9 => kernel_rfl); (case hf_1_9 => kernel_rfl); (case hs_1_9 => kernel_rfl); (case ho_1_9 => (simp only [List.getElem?_toArray, List.getElem?_cons_succ, List.getElem?_cons_zero]; rfl)); (case hS_1_9 => assumption); (case hQ_1_9 => exact fun _ _ _ h => h); (case hy_1_9 => (refine Or.inl ⟨by rfl, ?_⟩; (intro w hSw; (try dsimp only at hSw); go_simp) <;> with_reducible rfl)); (try simp only [Act.put, List.setIfInBounds_toArray, List.set_cons_zero, List.set_cons_succ]))
  (refine wpAnyH_take (i := 10) (oi := ?oi_1_10) (v := ?v_1_10) ?ho_1_10 ?hs_1_10 ?hf_1_10 ?hr_1_10 ?hQ_1_10 ?hy_1_10 ?hS_1_10 ?rest_1_10; (case hr_1_10 => kernel_rfl); (case hf_1_10 => kernel_rfl); (case hs_1_10 => kernel_rfl); (case ho_1_10 => (simp only [List.getElem?_toArray, List.getElem?_cons_succ, List.getElem?_cons_zero]; rfl)); (case hS_1_10 => assumption); (case hQ_1_10 => exact fun _ _ _ h => h); (case hy_1_10 => (refine Or.inl ⟨by rfl, ?_⟩; (intro w hSw; (try dsimp only at hSw); go_simp) <;> with_reducible rfl)); (try simp only [Act.put, List.setIfInBounds_toArray, List.set_cons_zero, List.set_cons_succ]))
  (refine wpAnyH_take (i := 12) (oi := ?oi_1_12) (v := ?v_1_12) ?ho_1_12 ?hs_1_12 ?hf_1_12 ?hr_1_12 ?hQ_1_12 ?hy_1_12 ?hS_1_12 ?rest_1_12; (case hr_1_12 => kernel_rfl); (case hf_1_12 => kernel_rfl); (case hs_1_12 => kernel_rfl); (case ho_1_12 => (simp only [List.getElem?_toArray, List.getElem?_cons_succ, List.getElem?_cons_zero]; rfl)); (case hS_1_12 => assumption); (case hQ_1_12 => exact fun _ _ _ h => h); (case hy_1_12 => (refine Or.inl ⟨by rfl, ?_⟩; (intro w hSw; (try dsimp only at hSw); go_simp) <;> with_reducible rfl)); (try simp only [Act.put, List.setIfInBounds_toArray, List.set_cons_zero, List.set_cons_succ]))
  (refine wpAnyH_take (i := 13) (oi := ?oi_1_13) (v := ?v_1_13) ?ho_1_13 ?hs_1_13 ?hf_1_13 ?hr_1_13 ?hQ_1_13 ?hy_1_13 ?hS_1_13 ?rest_1_13; (case hr_1_13 => kernel_rfl); (case hf_1_13 => kernel_rfl); (case hs_1_13 => kernel_rfl); (case ho_1_13 => (simp only [List.getElem?_toArray, List.getElem?_cons_succ, List.getElem?_cons_zero]; rfl)); (case hS_1_13 => assumption); (case hQ_1_13 => exact fun _ _ _ h => h); (case hy_1_13 => (refine Or.inl ⟨by rfl, ?_⟩; (intro w hSw; (try dsimp only at hSw); go_simp) <;> with_reducible rfl)); (try simp only [Act.put, List.setIfInBounds_toArray, List.set_cons_zero, List.set_cons_succ]))
  (refine wpAnyH_ready (rs := [2]) (by kernel_rfl) (by simp) ?_; refine AllReadyH.cons (o := ?oo_1_2) ?hoo_1_2 ?hst_1_2 AllReadyH.nil; (case hoo_1_2 => (simp only [List.getElem?_toArray, List.getElem?_cons_succ, List.getElem?_cons_zero]; rfl)); intro K hK; go_simp; ((go_at_call 52; (refine (Put8 (N + 1) (.slice none 0 0) [] err _ (by omega) (by omega) ho0 (by (try simp only [List.length_append, fld_length, txtF_len, truF_len, putHd_len, List.length_nil]); omega) (by have := hBz g0.upd; omega)).mono ?_); rintro en w1 ⟨v1, rfl, ho1, hu1, hf1⟩; have g1 := g0.trans ⟨hu1, hf1⟩; have c1 := hS.out _ g1.upd; have hz1 := hu1.size)); (try go_wp2_with fail); refine hK.out _ _ (by (try dsimp only); exact c1) (fun hHeld => ?_); clear hK K; (try simp only [Act.put, List.setIfInBounds_toArray, List.set_cons_zero, List.set_cons_succ]))
  (refine wpAnyH_ready (rs := [5]) (by kernel_rfl) (by simp) ?_; refine AllReadyH.cons (o := ?oo_1_5) ?hoo_1_5 ?hst_1_5 AllReadyH.nil; (case hoo_1_5 => (simp only [List.getElem?_toArray, List.getElem?_cons_succ, List.getElem?_cons_zero]; rfl)); intro K hK; go_simp; ((go_at_call 51; (refine (Put64 (N + 1) v1 _ id _ hi1.1 hi1.2 ho1 (by (try simp only [List.length_append, fld_length, txtF_len, truF_len, putHd_len, List.length_nil]); omega) (by have := hBz g1.upd; omega)).mono ?_); rintro en w2 ⟨v2, rfl, ho2, hu2, hf2⟩; have g2 := g1.trans ⟨hu2, hf2⟩; have c2 := hS.out _ g2.upd; have hz2 := hu2.size)); (try go_wp2_with fail); refine hK.out _ _ (by (try dsimp only); exact c2) (fun hHeld => ?_); clear hK K; (try simp only [Act.put, List.setIfInBounds_toArray, List.set_cons_zero, List.set_cons_succ]))
  (refine wpAnyH_ready (rs := [8]) (by kernel_rfl) (by simp) ?_; refine AllReadyH.cons (o := ?oo_1_8) ?hoo_1_8 ?hst_1_8 AllReadyH.nil; (case hoo_1_8 => (simp only [List.getElem?_toArray, List.getElem?_cons_succ, List.getElem?_cons_zero]; rfl)); intro K hK; go_simp; ((go_at_call 51; (refine (Put64 (N + 1) v2 _ time _ hi2.1 hi2.2 ho2 (by (try simp only [List.length_append, fld_length, txtF_len, truF_len, putHd_len, List.length_nil]); omega) (by have := hBz g2.upd; omega)).mono ?_); rintro en w3 ⟨v3, rfl, ho3, hu3, hf3⟩; have g3 := g2.trans ⟨hu3, hf3⟩; have c3 := hS.out _ g3.upd; have hz3 := hu3.size)); (try go_wp2_with fail); refine hK.out _ _ (by (try dsimp only); exact c3) (fun hHeld => ?_); clear hK K; (try simp only [Act.put, List.setIfInBounds_toArray, List.set_cons_zero, List.set_cons_succ]))
  (refine wpAnyH_ready (rs := [11]) (by kernel_rfl) (by simp) ?_; refine AllReadyH.cons (o := ?oo_1_11) ?hoo_1_11 ?hst_1_11 AllReadyH.nil; (case hoo_1_11 => (simp only [List.getElem?_toArray, List.getElem?_cons_succ, List.getElem?_cons_zero]; rfl)); intro K hK; go_simp; ((go_at_call 50; (refine (PutTextF (N + 1) v3 _ text _ ho3 (by (try simp only [List.length_append, fld_length, txtF_len, truF_len, putHd_len, List.length_nil]); omega) (by have := hBz g3.upd; omega)).mono ?_); rintro en w4 ⟨v4, rfl, ho4, hu4, hf4⟩; have g4 := g3.trans ⟨hu4, hf4⟩; have c4 := hS.out _ g4.upd; have hz4 := hu4.size)); (try go_wp2_with fail); refine hK.out _ _ (by (try dsimp only); exact c4) (fun hHeld => ?_); clear hK K; (try simp only [Act.put, List.setIfInBounds_toArray, List.set_cons_zero, List.set_cons_succ]))
  (refine wpAnyH_ready (rs := [14]) (by kernel_rfl) (by simp) ?_; refine AllReadyH.cons (o := ?oo_1_14) ?hoo_1_14 ?hst_1_14 AllReadyH.nil; (case hoo_1_14 => (simp only [List.getElem?_toArray, List.getElem?_cons_succ, List.getElem?_cons_zero]; rfl)); intro K hK; go_simp; ((go_at_call 49; (refine (wPutTag (N + 1) v4 _ re im _ (by omega) (by omega) ho4 (by (try simp only [List.length_append, fld_length, txtF_len, truF_len, putHd_len, List.length_nil]); omega) (by have := hBz g4.upd; omega)).mono ?_); rintro en w5 ⟨v5, rfl, ho5, hu5, hf5⟩; have g5 := g4.trans ⟨hu5, hf5⟩; have c5 := hS.out _ g5.upd; have hz5 := hu5.size)); (try go_wp2_with fail); refine hK.out _ _ (by (try dsimp only); exact c5) (fun hHeld => ?_); clear hK K; (try simp only [Act.put, List.setIfInBounds_toArray, List.set_cons_zero, List.set_cons_succ]))
  (refine wpAnyH_take (i := 15) (oi := ?oi_1_15) (v := ?v_1_15) ?ho_1_15 ?hs_1_15 ?hf_1_15 ?hr_1_15 ?hQ_1_15 ?hy_1_15 ?hS_1_15 ?rest_1_15; (case hr_1_15 => kernel_rfl); (case hf_1_15 => kernel_rfl); (case hs_1_15 => kernel_rfl); (case ho_1_15 => (simp only [List.getElem?_toArray, List.getElem?_cons_succ, List.getElem?_cons_zero]; rfl)); (case hS_1_15 => assumption); (case hQ_1_15 => exact fun _ _ _ h => h); (case hy_1_15 => (refine Or.inl ⟨by rfl, ?_⟩; (intro w hSw; (try dsimp only at hSw); go_simp) <;> with_reducible rfl)); (try simp only [Act.put, List.setIfInBounds_toArray, List.set_cons_zero, List.set_cons_succ]))
  refine wpAnyH_done (by kernel_rfl) ?_ _
  clear ho0 ho1 ho2 ho3 ho4 hu1 hf1 hu2 hf2 hu3 hf3 hu4 hf4 hu5 hf5 c0 c1 c2 c3 c4 c5 g0 g1 g2 g3 g4 hS
  have hA1 : ∃ A, A = [] ++ fld err 1 ++ fld id 8 ++ fld time 8 ++ txtF text 4 ++ fld re 4 ++ fld im 4 ∧ A.length ≤ 1048700 := ⟨_, rfl, by simp only [List.length_append, fld_length, txtF_len, truF_len, putHd_len, List.length_nil]; omega⟩
  obtain ⟨A1, eA1, lA1⟩ := hA1
  rw [← eA1] at ho5
  replace eA1 := Lib.hid eA1
  have hS := Lib.hid (fun w' (hu : Upd (At (.slice none 0 0)) wA w') => show w'.cell? ⟨N, 6, none⟩ = some (.string ⟨version.toArray⟩) ∧ w'.cell? ⟨N, 7, none⟩ = some (.int .i64 size) ∧ w'.cell? ⟨N, 8, none⟩ = some (.int .i64 hre) ∧ w'.cell? ⟨N, 9, none⟩ = some (.int .i64 him) ∧ w'.cell? ⟨N, 10, none⟩ = some (.bool gone) ∧ w'.cell? ⟨N, 11, none⟩ = some (.bool null) ∧ w'.cell? ⟨N, 12, none⟩ = some (.string ⟨body.toArray⟩) from ⟨hK.out w' hu 6 _ rfl, hK.out w' hu 7 _ rfl, hK.out w' hu 8 _ rfl, hK.out w' hu 9 _ rfl, hK.out w' hu 10 _ rfl, hK.out w' hu 11 _ rfl, hK.out w' hu 12 _ rfl⟩)
  have g6 := g5.right (Upd.drew Non w5)
  have ho6 := (ho5).drew
  have hz6 : w5.heap.size ≤ w5.drew.heap.size := Nat.le_refl _
  have c6 := hS.out _ g6.upd
  go_wp2_with fail
  refine wp_region_held_drew (S := (fun w' => w'.cell? ⟨N, 6, none⟩ = some (.string ⟨version.toArray⟩) ∧ w'.cell? ⟨N, 7, none⟩ = some (.int .i64 size) ∧ w'.cell? ⟨N, 8, none⟩ = some (.int .i64 hre) ∧ w'.cell? ⟨N, 9, none⟩ = some (.int .i64 him) ∧ w'.cell? ⟨N, 10, none⟩ = some (.bool gone) ∧ w'.cell? ⟨N, 11, none⟩ = some (.bool null) ∧ w'.cell? ⟨N, 12, none⟩ = some (.string ⟨body.toArray⟩))) (by kernel_rfl) (by (try dsimp only); exact c6) (fun hHeld => ?_)
  (refine wpAnyH_take (i := 0) (oi := ?oi_2_0) (v := ?v_2_0) ?ho_2_0 ?hs_2_0 ?hf_2_0 ?hr_2_0 ?hQ_2_0 ?hy_2_0 ?hS_2_0 ?rest_2_0; (case hr_2_0 => kernel_rfl); (case hf_2_0 => kernel_rfl); (case hs_2_0 => kernel_rfl); (case ho_2_0 => (simp only [List.getElem?_toArray, List.getElem?_cons_succ, List.getElem?_cons_zero]; rfl)); (case hS_2_0 => assumption); (case hQ_2_0 => exact fun _ _ _ h => h); (case hy_2_0 => (refine Or.inl ⟨by rfl, ?_⟩; (intro w hSw; (try dsimp only at hSw); go_simp) <;> with_reducible rfl)); (try simp only [Act.put, List.setIfInBounds_toArray, List.set_cons_zero, List.set_cons_succ]))
  (refine wpAnyH_take (i := 1) (oi := ?oi_2_1) (v := ?v_2_1) ?ho_2_1 ?hs_2_1 ?hf_2_1 ?hr_2_1 ?hQ_2_1 ?hy_2_1 ?hS_2_1 ?rest_2_1; (case hr_2_1 => kernel_rfl); (case hf_2_1 => kernel_rfl); (case hs_2_1 => kernel_rfl); (case ho_2_1 => (simp only [List.getElem?_toArray, List.getElem?_cons_succ, List.getElem?_cons_zero]; rfl)); (case hS_2_1 => assumption); (case hQ_2_1 => exact fun _ _ _ h => h); (case hy_2_1 => (refine Or.inl ⟨by rfl, ?_⟩; (intro w hSw; (try dsimp only at hSw); go_simp) <;> with_reducible rfl)); (try simp only [Act.put, List.setIfInBounds_toArray, List.set_cons_zero, List.set_cons_succ]))
  (refine wpAnyH_take (i := 2) (oi := ?oi_2_2) (v := ?v_2_2) ?ho_2_2 ?hs_2_2 ?hf_2_2 ?hr_2_2 ?hQ_2_2 ?hy_2_2 ?hS_2_2 ?rest_2_2; (case hr_2_2 => kernel_rfl); (case hf_2_2 => kernel_rfl); (case hs_2_2 => kernel_rfl); (case ho_2_2 => (simp only [List.getElem?_toArray, List.getElem?_cons_succ, List.getElem?_cons_zero]; rfl)); (case hS_2_2 => assumption); (case hQ_2_2 => exact fun _ _ _ h => h); (case hy_2_2 => (refine Or.inl ⟨by rfl, ?_⟩; (intro w hSw; (try dsimp only at hSw); go_simp) <;> with_reducible rfl)); (try simp only [Act.put, List.setIfInBounds_toArray, List.set_cons_zero, List.set_cons_succ]))
  (refine wpAnyH_take (i := 3) (oi := ?oi_2_3) (v := ?v_2_3) ?ho_2_3 ?hs_2_3 ?hf_2_3 ?hr_2_3 ?hQ_2_3 ?hy_2_3 ?hS_2_3 ?rest_2_3; (case hr_2_3 => kernel_rfl); (case hf_2_3 => kernel_rfl); (case hs_2_3 => kernel_rfl); (case ho_2_3 => (simp only [List.getElem?_toArray, List.getElem?_cons_succ, List.getElem?_cons_zero]; rfl)); (case hS_2_3 => assumption); (case hQ_2_3 => exact fun _ _ _ h => h); (case hy_2_3 => (refine Or.inl ⟨by rfl, ?_⟩; (intro w hSw; (try dsimp only at hSw); go_simp) <;> with_reducible rfl)); (try simp only [Act.put, List.setIfInBounds_toArray, List.set_cons_zero, List.set_cons_succ]))
  (refine wpAnyH_take (i := 5) (oi := ?oi_2_5) (v := ?v_2_5) ?ho_2_5 ?hs_2_5 ?hf_2_5 ?hr_2_5 ?hQ_2_5 ?hy_2_5 ?hS_2_5 ?rest_2_5; (case hr_2_5 => kernel_rfl); (case hf_2_5 => kernel_rfl); (case hs_2_5 => kernel_rfl); (case ho_2_5 => (simp only [List.getElem?_toArray, List.getElem?_cons_succ, List.getElem?_cons_zero]; rfl)); (case hS_2_5 => assumption); (case hQ_2_5 => exact fun _ _ _ h => h); (case hy_2_5 => (refine Or.inl ⟨by rfl, ?_⟩; (intro w hSw; (try dsimp only at hSw); go_simp) <;> with_reducible rfl)); (try simp only [Act.put, List.setIfInBounds_toArray, List.set_cons_zero, List.set_cons_succ]))
  (refine wpAnyH_take (i := 6) (oi := ?oi_2_6) (v := ?v_2_6) ?ho_2_6 ?hs_2_6 ?hf_2_6 ?hr_2_6 ?hQ_2_6 ?hy_2_6 ?hS_2_6 ?rest_2_6; (case hr_2_6 => kernel_rfl); (case hf_2_6 => kernel_rfl); (case hs_2_6 => kernel_rfl); (case ho_2_6 => (simp only [List.getElem?_toArray, List.getElem?_cons_succ, List.getElem?_cons_zero]; rfl)); (case hS_2_6 => assumption); (case hQ_2_6 => exact fun _ _ _ h => h); (case hy_2_6 => (refine Or.inl ⟨by rfl, ?_⟩; (intro w hSw; (try dsimp only at hSw); go_simp) <;> with_reducible rfl)); (try simp only [Act.put, List.setIfInBounds_toArray, List.set_cons_zero, List.set_cons_succ]))
  (refine wpAnyH_take (i := 7) (oi := ?oi_2_7) (v := ?v_2_7) ?ho_2_7 ?hs_2_7 ?hf_2_7 ?hr_2_7 ?hQ_2_7 ?hy_2_7 ?hS_2_7 ?rest_2_7; (case hr_2_7 => kernel_rfl); (case hf_2_7 => kernel_rfl); (case hs_2_7 => kernel_rfl); (case ho_2_7 => (simp only [List.getElem?_toArray, List.getElem?_cons_succ, List.getElem?_cons_zero]; rfl)); (case hS_2_7 => assumption); (case hQ_2_7 => exact fun _ _ _ h => h); (case hy_2_7 => (refine Or.inl ⟨by rfl, ?_⟩; (intro w hSw; (try dsimp only at hSw); go_simp) <;> with_reducible rfl)); (try simp only [Act.put, List.setIfInBounds_toArray, List.set_cons_zero, List.set_cons_succ]))
  (refine wpAnyH_take (i := 9) (oi := ?oi_2_9) (v := ?v_2_9) ?ho_2_9 ?hs_2_9 ?hf_2_9 ?hr_2_9 ?hQ_2_9 ?hy_2_9 ?hS_2_9 ?rest_2_9; (case hr_2_9 => kernel_rfl); (case hf_2_9 => kernel_rfl); (case hs_2_9 => kernel_rfl); (case ho_2_9 => (simp only [List.getElem?_toArray, List.getElem?_cons_succ, List.getElem?_cons_zero]; rfl)); (case hS_2_9 => assumption); (case hQ_2_9 => exact fun _ _ _ h => h); (case hy_2_9 => (refine Or.inl ⟨by rfl, ?_⟩; (intro w hSw; (try dsimp only at hSw); go_simp) <;> with_reducible rfl)); (try simp only [Act.put, List.setIfInBounds_toArray, List.set_cons_zero, List.set_cons_succ]))
  (refine wpAnyH_take (i := 10) (oi := ?oi_2_10) (v := ?v_2_10) ?ho_2_10 ?hs_2_10 ?hf_2_10 ?hr_2_10 ?hQ_2_10 ?hy_2_10 ?hS_2_10 ?rest_2_10; (case hr_2_10 => kernel_rfl); (case hf_2_10 => kernel_rfl); (case hs_2_10 => kernel_rfl); (case ho_2_10 => (simp only [List.getElem?_toArray, List.getElem?_cons_succ, List.getElem?_cons_zero]; rfl)); (case hS_2_10 => assumption); (case hQ_2_10 => exact fun _ _ _ h => h); (case hy_2_10 => (refine Or.inl ⟨by rfl, ?_⟩; (intro w hSw; (try dsimp only at hSw); go_simp) <;> with_reducible rfl)); (try simp only [Act.put, List.setIfInBounds_toArray, List.set_cons_zero, List.set_cons_succ]))
  (refine wpAnyH_take (i := 11) (oi := ?oi_2_11) (v := ?v_2_11) ?ho_2_11 ?hs_2_11 ?hf_2_11 ?hr_2_11 ?hQ_2_11 ?hy_2_11 ?hS_2_11 ?rest_2_11; (case hr_2_11 => kernel_rfl); (case hf_2_11 => kernel_rfl); (case hs_2_11 => kernel_rfl); (case ho_2_11 => (simp only [List.getElem?_toArray, List.getElem?_cons_succ, List.getElem?_cons_zero]; rfl)); (case hS_2_11 => assumption); (case hQ_2_11 => exact fun _ _ _ h => h); (case hy_2_11 => (refine Or.inl ⟨by rfl, ?_⟩; (intro w hSw; (try dsimp only at hSw); go_simp) <;> with_reducible rfl)); (try simp only [Act.put, List.setIfInBounds_toArray, List.set_cons_zero, List.set_cons_succ]))
  (refine wpAnyH_ready (rs := [4]) (by kernel_rfl) (by simp) ?_; refine AllReadyH.cons (o := ?oo_2_4) ?hoo_2_4 ?hst_2_4 AllReadyH.nil; (case hoo_2_4 => (simp only [List.getElem?_toArray, List.getElem?_cons_succ, List.getElem?_cons_zero]; rfl)); intro K hK; go_simp; ((go_at_call 50; (refine (PutTextF (N + 1) v5 _ version _ ho6 (by (try simp only [List.length_append, fld_length, txtF_len, truF_len, putHd_len, List.length_nil]); omega) (by have := hBz g6.upd; omega)).mono ?_); rintro en w7 ⟨v7, rfl, ho7, hu7, hf7⟩; have g7 := g6.trans ⟨hu7, hf7⟩; have c7 := hS.out _ g7.upd; have hz7 := hu7.size)); (try go_wp2_with fail); refine hK.out _ _ (by (try dsimp only); exact c7) (fun hHeld => ?_); clear hK K; (try simp only [Act.put, List.setIfInBounds_toArray, List.set_cons_zero, List.set_cons_succ]))
  (refine wpAnyH_ready (rs := [8]) (by kernel_rfl) (by simp) ?_; refine AllReadyH.cons (o := ?oo_2_8) ?hoo_2_8 ?hst_2_8 AllReadyH.nil; (case hoo_2_8 => (simp only [List.getElem?_toArray, List.getElem?_cons_succ, List.getElem?_cons_zero]; rfl)); intro K hK; go_simp; ((go_at_call 53; (refine (wPutHead (N + 1) v7 _ ⟨size, hre, him, gone, null⟩ _ k3 ho7 (by (try simp only [List.length_append, fld_length, txtF_len, truF_len, putHd_len, List.length_nil]); omega) (by have := hBz g7.upd; omega)).mono ?_); rintro en w8 ⟨v8, rfl, ho8, hu8, hf8⟩; have g8 := g7.trans ⟨hu8, hf8⟩; have c8 := hS.out _ g8.upd; have hz8 := hu8.size)); (try go_wp2_with fail); refine hK.out _ _ (by (try dsimp only); exact c8) (fun hHeld => ?_); clear hK K; (try simp only [Act.put, List.setIfInBounds_toArray, List.set_cons_zero, List.set_cons_succ]))
  (refine wpAnyH_ready (rs := [12]) (by kernel_rfl) (by simp) ?_; refine AllReadyH.cons (o := ?oo_2_12) ?hoo_2_12 ?hst_2_12 AllReadyH.nil; (case hoo_2_12 => (simp only [List.getElem?_toArray, List.getElem?_cons_succ, List.getElem?_cons_zero]; rfl)); intro K hK; go_simp; ((go_at_call 50; (refine (PutTextF (N + 1) v8 _ body _ ho8 (by (try simp only [List.length_append, fld_length, txtF_len, truF_len, putHd_len, List.length_nil]); omega) (by have := hBz g8.upd; omega)).mono ?_); rintro en w9 ⟨v9, rfl, ho9, hu9, hf9⟩; have g9 := g8.trans ⟨hu9, hf9⟩; have c9 := hS.out _ g9.upd; have hz9 := hu9.size)); (try go_wp2_with fail); refine hK.out _ _ (by (try dsimp only); exact c9) (fun hHeld => ?_); clear hK K; (try simp only [Act.put, List.setIfInBounds_toArray, List.set_cons_zero, List.set_cons_succ]))
  (refine wpAnyH_take (i := 13) (oi := ?oi_2_13) (v := ?v_2_13) ?ho_2_13 ?hs_2_13 ?hf_2_13 ?hr_2_13 ?hQ_2_13 ?hy_2_13 ?hS_2_13 ?rest_2_13; (case hr_2_13 => kernel_rfl); (case hf_2_13 => kernel_rfl); (case hs_2_13 => kernel_rfl); (case ho_2_13 => (simp only [List.getElem?_toArray, List.getElem?_cons_succ, List.getElem?_cons_zero]; rfl)); (case hS_2_13 => assumption); (case hQ_2_13 => exact fun _ _ _ h => h); (case hy_2_13 => (refine Or.inl ⟨by rfl, ?_⟩; (intro w hSw; (try dsimp only at hSw); go_simp) <;> with_reducible rfl)); (try simp only [Act.put, List.setIfInBounds_toArray, List.set_cons_zero, List.set_cons_succ]))
  refine wpAnyH_done (by kernel_rfl) ?_ _
  clear ho6 ho7 ho8 hu7 hf7 hu8 hf8 hu9 hf9 c6 c7 c8 c9 g6 g7 g8 hS
  have hA2 : ∃ A, A = A1 ++ txtF version 4 ++ putHd ⟨size, hre, him, gone, null⟩ ++ txtF body 4 ∧ A.length ≤ 3200000 := ⟨_, rfl, by simp only [List.length_append, fld_length, txtF_len, truF_len, putHd_len, List.length_nil]; omega⟩
  obtain ⟨A2, eA2, lA2⟩ := hA2
  rw [← eA2] at ho9
  replace eA2 := Lib.hid eA2
  have hS := Lib.hid (fun w' (hu : Upd (At (.slice none 0 0)) wA w') => show w'.cell? ⟨N, 13, none⟩ = some (.slice p1 names.length q1) ∧ w'.cell? ⟨N, 14, none⟩ = some (.slice p2 lnames.length q2) ∧ w'.cell? ⟨N, 15, none⟩ = some (.slice p3 lpre.length q3) from ⟨hK.out w' hu 13 _ rfl, hK.out w' hu 14 _ rfl, hK.out w' hu 15 _ rfl⟩)
  have g10 := g9.right (Upd.drew Non w9)
  have ho10 := (ho9).drew
  have hz10 : w9.heap.size ≤ w9.drew.heap.size := Nat.le_refl _
  have c10 := hS.out _ g10.upd
  go_wp2_with fail
  refine wp_region_held_drew (S := (fun w' => w'.cell? ⟨N, 13, none⟩ = some (.slice p1 names.length q1) ∧ w'.cell? ⟨N, 14, none⟩ = some (.slice p2 lnames.length q2) ∧ w'.cell? ⟨N, 15, none⟩ = some (.slice p3 lpre.length q3))) (by kernel_rfl) (by (try dsimp only); exact c10) (fun hHeld => ?_)
  (refine wpAnyH_take (i := 0) (oi := ?oi_3_0) (v := ?v_3_0) ?ho_3_0 ?hs_3_0 ?hf_3_0 ?hr_3_0 ?hQ_3_0 ?hy_3_0 ?hS_3_0 ?rest_3_0; (case hr_3_0 => kernel_rfl); (case hf_3_0 => kernel_rfl); (case hs_3_0 => kernel_rfl); (case ho_3_0 => (simp only [List.getElem?_toArray, List.getElem?_cons_succ, List.getElem?_cons_zero]; rfl)); (case hS_3_0 => assumption); (case hQ_3_0 => exact fun _ _ _ h => h); (case hy_3_0 => (refine Or.inl ⟨by rfl, ?_⟩; (intro w hSw; (try dsimp only at hSw); go_simp) <;> with_reducible rfl)); (try simp only [Act.put, List.setIfInBounds_toArray, List.set_cons_zero, List.set_cons_succ]))
  (refine wpAnyH_take (i := 1) (oi := ?oi_3_1) (v := ?v_3_1) ?ho_3_1 ?hs_3_1 ?hf_3_1 ?hr_3_1 ?hQ_3_1 ?hy_3_1 ?hS_3_1 ?rest_3_1; (case hr_3_1 => kernel_rfl); (case hf_3_1 => kernel_rfl); (case hs_3_1 => kernel_rfl); (case ho_3_1 => (simp only [List.getElem?_toArray, List.getElem?_cons_succ, List.getElem?_cons_zero]; rfl)); (case hS_3_1 => assumption); (case hQ_3_1 => exact fun _ _ _ h => h); (case hy_3_1 => (refine Or.inl ⟨by rfl, ?_⟩; (intro w hSw; (try dsimp only at hSw); go_simp) <;> with_reducible rfl)); (try simp only [Act.put, List.setIfInBounds_toArray, List.set_cons_zero, List.set_cons_succ]))
  (refine wpAnyH_take (i := 2) (oi := ?oi_3_2) (v := ?v_3_2) ?ho_3_2 ?hs_3_2 ?hf_3_2 ?hr_3_2 ?hQ_3_2 ?hy_3_2 ?hS_3_2 ?rest_3_2; (case hr_3_2 => kernel_rfl); (case hf_3_2 => kernel_rfl); (case hs_3_2 => kernel_rfl); (case ho_3_2 => (simp only [List.getElem?_toArray, List.getElem?_cons_succ, List.getElem?_cons_zero]; rfl)); (case hS_3_2 => assumption); (case hQ_3_2 => exact fun _ _ _ h => h); (case hy_3_2 => (refine Or.inl ⟨by rfl, ?_⟩; (intro w hSw; (try dsimp only at hSw); go_simp) <;> with_reducible rfl)); (try simp only [Act.put, List.setIfInBounds_toArray, List.set_cons_zero, List.set_cons_succ]))
  (refine wpAnyH_take (i := 4) (oi := ?oi_3_4) (v := ?v_3_4) ?ho_3_4 ?hs_3_4 ?hf_3_4 ?hr_3_4 ?hQ_3_4 ?hy_3_4 ?hS_3_4 ?rest_3_4; (case hr_3_4 => kernel_rfl); (case hf_3_4 => kernel_rfl); (case hs_3_4 => kernel_rfl); (case ho_3_4 => (simp only [List.getElem?_toArray, List.getElem?_cons_succ, List.getElem?_cons_zero]; rfl)); (case hS_3_4 => assumption); (case hQ_3_4 => exact fun _ _ _ h => h); (case hy_3_4 => (refine Or.inl ⟨by rfl, ?_⟩; (intro w hSw; (try dsimp only at hSw); go_simp) <;> with_reducible rfl)); (try simp only [Act.put, List.setIfInBounds_toArray, List.set_cons_zero, List.set_cons_succ]))
  (refine wpAnyH_take (i := 5) (oi := ?oi_3_5) (v := ?v_3_5) ?ho_3_5 ?hs_3_5 ?hf_3_5 ?hr_3_5 ?hQ_3_5 ?hy_3_5 ?hS_3_5 ?rest_3_5; (case hr_3_5 => kernel_rfl); (case hf_3_5 => kernel_rfl); (case hs_3_5 => kernel_rfl); (case ho_3_5 => (simp only [List.getElem?_toArray, List.getElem?_cons_succ, List.getElem?_cons_zero]; rfl)); (case hS_3_5 => assumption); (case hQ_3_5 => exact fun _ _ _ h => h); (case hy_3_5 => (refine Or.inl ⟨by rfl, ?_⟩; (intro w hSw; (try dsimp only at hSw); go_simp) <;> with_reducible rfl)); (try simp only [Act.put, List.setIfInBounds_toArray, List.set_cons_zero, List.set_cons_succ]))
  (refine wpAnyH_take (i := 6) (oi := ?oi_3_6) (v := ?v_3_6) ?ho_3_6 ?hs_3_6 ?hf_3_6 ?hr_3_6 ?hQ_3_6 ?hy_3_6 ?hS_3_6 ?rest_3_6; (case hr_3_6 => kernel_rfl); (case hf_3_6 => kernel_rfl); (case hs_3_6 => kernel_rfl); (case ho_3_6 => (simp only [List.getElem?_toArray, List.getElem?_cons_succ, List.getElem?_cons_zero]; rfl)); (case hS_3_6 => assumption); (case hQ_3_6 => exact fun _ _ _ h => h); (case hy_3_6 => (refine Or.inl ⟨by rfl, ?_⟩; (intro w hSw; (try dsimp only at hSw); go_simp) <;> with_reducible rfl)); (try simp only [Act.put, List.setIfInBounds_toArray, List.set_cons_zero, List.set_cons_succ]))
  (refine wpAnyH_take (i := 8) (oi := ?oi_3_8) (v := ?v_3_8) ?ho_3_8 ?hs_3_8 ?hf_3_8 ?hr_3_8 ?hQ_3_8 ?hy_3_8 ?hS_3_8 ?rest_3_8; (case hr_3_8 => kernel_rfl); (case hf_3_8 => kernel_rfl); (case hs_3_8 => kernel_rfl); (case ho_3_8 => (simp only [List.getElem?_toArray, List.getElem?_cons_succ, List.getElem?_cons_zero]; rfl)); (case hS_3_8 => assumption); (case hQ_3_8 => exact fun _ _ _ h => h); (case hy_3_8 => (refine Or.inl ⟨by rfl, ?_⟩; (intro w hSw; (try dsimp only at hSw); go_simp) <;> with_reducible rfl)); (try simp only [Act.put, List.setIfInBounds_toArray, List.set_cons_zero, List.set_cons_succ]))
  (refine wpAnyH_take (i := 9) (oi := ?oi_3_9) (v := ?v_3_9) ?ho_3_9 ?hs_3_9 ?hf_3_9 ?hr_3_9 ?hQ_3_9 ?hy_3_9 ?hS_3_9 ?rest_3_9; (case hr_3_9 => kernel_rfl); (case hf_3_9 => kernel_rfl); (case hs_3_9 => kernel_rfl); (case ho_3_9 => (simp only [List.getElem?_toArray, List.getElem?_cons_succ, List.getElem?_cons_zero]; rfl)); (case hS_3_9 => assumption); (case hQ_3_9 => exact fun _ _ _ h => h); (case hy_3_9 => (refine Or.inl ⟨by rfl, ?_⟩; (intro w hSw; (try dsimp only at hSw); go_simp) <;> with_reducible rfl)); (try simp only [Act.put, List.setIfInBounds_toArray, List.set_cons_zero, List.set_cons_succ]))
  (refine wpAnyH_take (i := 10) (oi := ?oi_3_10) (v := ?v_3_10) ?ho_3_10 ?hs_3_10 ?hf_3_10 ?hr_3_10 ?hQ_3_10 ?hy_3_10 ?hS_3_10 ?rest_3_10; (case hr_3_10 => kernel_rfl); (case hf_3_10 => kernel_rfl); (case hs_3_10 => kernel_rfl); (case ho_3_10 => (simp only [List.getElem?_toArray, List.getElem?_cons_succ, List.getElem?_cons_zero]; rfl)); (case hS_3_10 => assumption); (case hQ_3_10 => exact fun _ _ _ h => h); (case hy_3_10 => (refine Or.inl ⟨by rfl, ?_⟩; (intro w hSw; (try dsimp only at hSw); go_simp) <;> with_reducible rfl)); (try simp only [Act.put, List.setIfInBounds_toArray, List.set_cons_zero, List.set_cons_succ]))
  (refine wpAnyH_ready (rs := [3]) (by kernel_rfl) (by simp) ?_; refine AllReadyH.cons (o := ?oo_3_3) ?hoo_3_3 ?hst_3_3 AllReadyH.nil; (case hoo_3_3 => (simp only [List.getElem?_toArray, List.getElem?_cons_succ, List.getElem?_cons_zero]; rfl)); intro K hK; go_simp; ((go_at_call 54; (refine (wPutTexts (N + 1) v9 _ _ names _ (hRA.out _ g10.upd).n (by rw [← hN]; exact ht1) k5.out ho10 (by (try simp only [List.length_append, fld_length, txtF_len, truF_len, putHd_len, List.length_nil]); omega) (by have := hBz g10.upd; omega)).mono ?_); rintro en w11 ⟨v11, rfl, ho11, hu11, hf11⟩; have g11 := g10.trans ⟨hu11, hf11⟩; have c11 := hS.out _ g11.upd; have hz11 := hu11.size)); (try go_wp2_with fail); refine hK.out _ _ (by (try dsimp only); exact c11) (fun hHeld => ?_); clear hK K; (try simp only [Act.put, List.setIfInBounds_toArray, List.set_cons_zero, List.set_cons_succ]))
  (refine wpAnyH_ready (rs := [7]) (by kernel_rfl) (by simp) ?_; refine AllReadyH.cons (o := ?oo_3_7) ?hoo_3_7 ?hst_3_7 AllReadyH.nil; (case hoo_3_7 => (simp only [List.getElem?_toArray, List.getElem?_cons_succ, List.getElem?_cons_zero]; rfl)); intro K hK; go_simp; ((go_at_call 54; (refine (wPutTexts (N + 1) v11 _ _ lnames _ (hRA.out _ g11.upd).ln (by rw [← hN]; exact ht2) k6.out ho11 (by (try simp only [List.length_append, fld_length, txtF_len, truF_len, putHd_len, List.length_nil]); omega) (by have := hBz g11.upd; omega)).mono ?_); rintro en w12 ⟨v12, rfl, ho12, hu12, hf12⟩; have g12 := g11.trans ⟨hu12, hf12⟩; have c12 := hS.out _ g12.upd; have hz12 := hu12.size)); (try go_wp2_with fail); refine hK.out _ _ (by (try dsimp only); exact c12) (fun hHeld => ?_); clear hK K; (try simp only [Act.put, List.setIfInBounds_toArray, List.set_cons_zero, List.set_cons_succ]))
  (refine wpAnyH_ready (rs := [11]) (by kernel_rfl) (by simp) ?_; refine AllReadyH.cons (o := ?oo_3_11) ?hoo_3_11 ?hst_3_11 AllReadyH.nil; (case hoo_3_11 => (simp only [List.getElem?_toArray, List.getElem?_cons_succ, List.getElem?_cons_zero]; rfl)); intro K hK; go_simp; ((go_at_call 54; (refine (wPutTexts (N + 1) v12 _ _ lpre _ (hRA.out _ g12.upd).lp (by rw [← hN]; exact ht3) k7.out ho12 (by (try simp only [List.length_append, fld_length, txtF_len, truF_len, putHd_len, List.length_nil]); omega) (by have := hBz g12.upd; omega)).mono ?_); rintro en w13 ⟨v13, rfl, ho13, hu13, hf13⟩; have g13 := g12.trans ⟨hu13, hf13⟩; have c13 := hS.out _ g13.upd; have hz13 := hu13.size)); (try go_wp2_with fail); refine hK.out _ _ (by (try dsimp only); exact c13) (fun hHeld => ?_); clear hK K; (try simp only [Act.put, List.setIfInBounds_toArray, List.set_cons_zero, List.set_cons_succ]))
  (refine wpAnyH_take (i := 12) (oi := ?oi_3_12) (v := ?v_3_12) ?ho_3_12 ?hs_3_12 ?hf_3_12 ?hr_3_12 ?hQ_3_12 ?hy_3_12 ?hS_3_12 ?rest_3_12; (case hr_3_12 => kernel_rfl); (case hf_3_12 => kernel_rfl); (case hs_3_12 => kernel_rfl); (case ho_3_12 => (simp only [List.getElem?_toArray, List.getElem?_cons_succ, List.getElem?_cons_zero]; rfl)); (case hS_3_12 => assumption); (case hQ_3_12 => exact fun _ _ _ h => h); (case hy_3_12 => (refine Or.inl ⟨by rfl, ?_⟩; (intro w hSw; (try dsimp only at hSw); go_simp) <;> with_reducible rfl)); (try simp only [Act.put, List.setIfInBounds_toArray, List.set_cons_zero, List.set_cons_succ]))
  refine wpAnyH_done (by kernel_rfl) ?_ _
  clear ho10 ho11 ho12 hu11 hf11 hu12 hf12 hu13 hf13 c10 c11 c12 c13 g10 g11 g12 hS
  have hA3 : ∃ A, A = A2 ++ putTxs names ++ putTxs lnames ++ putTxs lpre ∧ A.length ≤ 206162600000 := ⟨_, rfl, by simp only [List.length_append, fld_length, txtF_len, truF_len, putHd_len, List.length_nil]; omega⟩
  obtain ⟨A3, eA3, lA3⟩ := hA3
  rw [← eA3] at ho13
  replace eA3 := Lib.hid eA3
  have hS := Lib.hid (fun w' (hu : Upd (At (.slice none 0 0)) wA w') => show w'.cell? ⟨N, 16, none⟩ = some (.string ⟨next.toArray⟩) ∧ w'.cell? ⟨N, 17, none⟩ = some (.bool more) ∧ w'.cell? ⟨N, 18, none⟩ = some (.slice p4 lines.length q4) ∧ w'.cell? ⟨N, 19, none⟩ = some (.string ⟨lobject.toArray⟩) ∧ w'.cell? ⟨N, 20, none⟩ = some (.int .i64 lid) ∧ w'.cell? ⟨N, 21, none⟩ = some (.bool lmore) from ⟨hK.out w' hu 16 _ rfl, hK.out w' hu 17 _ rfl, hK.out w' hu 18 _ rfl, hK.out w' hu 19 _ rfl, hK.out w' hu 20 _ rfl, hK.out w' hu 21 _ rfl⟩)
  have g14 := g13.right (Upd.drew Non w13)
  have ho14 := (ho13).drew
  have hz14 : w13.heap.size ≤ w13.drew.heap.size := Nat.le_refl _
  have c14 := hS.out _ g14.upd
  go_wp2_with fail
  refine wp_region_held_drew (S := (fun w' => w'.cell? ⟨N, 16, none⟩ = some (.string ⟨next.toArray⟩) ∧ w'.cell? ⟨N, 17, none⟩ = some (.bool more) ∧ w'.cell? ⟨N, 18, none⟩ = some (.slice p4 lines.length q4) ∧ w'.cell? ⟨N, 19, none⟩ = some (.string ⟨lobject.toArray⟩) ∧ w'.cell? ⟨N, 20, none⟩ = some (.int .i64 lid) ∧ w'.cell? ⟨N, 21, none⟩ = some (.bool lmore))) (by kernel_rfl) (by (try dsimp only); exact c14) (fun hHeld => ?_)
  (refine wpAnyH_take (i := 0) (oi := ?oi_4_0) (v := ?v_4_0) ?ho_4_0 ?hs_4_0 ?hf_4_0 ?hr_4_0 ?hQ_4_0 ?hy_4_0 ?hS_4_0 ?rest_4_0; (case hr_4_0 => kernel_rfl); (case hf_4_0 => kernel_rfl); (case hs_4_0 => kernel_rfl); (case ho_4_0 => (simp only [List.getElem?_toArray, List.getElem?_cons_succ, List.getElem?_cons_zero]; rfl)); (case hS_4_0 => assumption); (case hQ_4_0 => exact fun _ _ _ h => h); (case hy_4_0 => (refine Or.inl ⟨by rfl, ?_⟩; (intro w hSw; (try dsimp only at hSw); go_simp) <;> with_reducible rfl)); (try simp only [Act.put, List.setIfInBounds_toArray, List.set_cons_zero, List.set_cons_succ]))
  (refine wpAnyH_take (i := 1) (oi := ?oi_4_1) (v := ?v_4_1) ?ho_4_1 ?hs_4_1 ?hf_4_1 ?hr_4_1 ?hQ_4_1 ?hy_4_1 ?hS_4_1 ?rest_4_1; (case hr_4_1 => kernel_rfl); (case hf_4_1 => kernel_rfl); (case hs_4_1 => kernel_rfl); (case ho_4_1 => (simp only [List.getElem?_toArray, List.getElem?_cons_succ, List.getElem?_cons_zero]; rfl)); (case hS_4_1 => assumption); (case hQ_4_1 => exact fun _ _ _ h => h); (case hy_4_1 => (refine Or.inl ⟨by rfl, ?_⟩; (intro w hSw; (try dsimp only at hSw); go_simp) <;> with_reducible rfl)); (try simp only [Act.put, List.setIfInBounds_toArray, List.set_cons_zero, List.set_cons_succ]))
  (refine wpAnyH_take (i := 2) (oi := ?oi_4_2) (v := ?v_4_2) ?ho_4_2 ?hs_4_2 ?hf_4_2 ?hr_4_2 ?hQ_4_2 ?hy_4_2 ?hS_4_2 ?rest_4_2; (case hr_4_2 => kernel_rfl); (case hf_4_2 => kernel_rfl); (case hs_4_2 => kernel_rfl); (case ho_4_2 => (simp only [List.getElem?_toArray, List.getElem?_cons_succ, List.getElem?_cons_zero]; rfl)); (case hS_4_2 => assumption); (case hQ_4_2 => exact fun _ _ _ h => h); (case hy_4_2 => (refine Or.inl ⟨by rfl, ?_⟩; (intro w hSw; (try dsimp only at hSw); go_simp) <;> with_reducible rfl)); (try simp only [Act.put, List.setIfInBounds_toArray, List.set_cons_zero, List.set_cons_succ]))
  (refine wpAnyH_take (i := 3) (oi := ?oi_4_3) (v := ?v_4_3) ?ho_4_3 ?hs_4_3 ?hf_4_3 ?hr_4_3 ?hQ_4_3 ?hy_4_3 ?hS_4_3 ?rest_4_3; (case hr_4_3 => kernel_rfl); (case hf_4_3 => kernel_rfl); (case hs_4_3 => kernel_rfl); (case ho_4_3 => (simp only [List.getElem?_toArray, List.getElem?_cons_succ, List.getElem?_cons_zero]; rfl)); (case hS_4_3 => assumption); (case hQ_4_3 => exact fun _ _ _ h => h); (case hy_4_3 => (refine Or.inl ⟨by rfl, ?_⟩; (intro w hSw; (try dsimp only at hSw); go_simp) <;> with_reducible rfl)); (try simp only [Act.put, List.setIfInBounds_toArray, List.set_cons_zero, List.set_cons_succ]))
  (refine wpAnyH_take (i := 5) (oi := ?oi_4_5) (v := ?v_4_5) ?ho_4_5 ?hs_4_5 ?hf_4_5 ?hr_4_5 ?hQ_4_5 ?hy_4_5 ?hS_4_5 ?rest_4_5; (case hr_4_5 => kernel_rfl); (case hf_4_5 => kernel_rfl); (case hs_4_5 => kernel_rfl); (case ho_4_5 => (simp only [List.getElem?_toArray, List.getElem?_cons_succ, List.getElem?_cons_zero]; rfl)); (case hS_4_5 => assumption); (case hQ_4_5 => exact fun _ _ _ h => h); (case hy_4_5 => (refine Or.inl ⟨by rfl, ?_⟩; (intro w hSw; (try dsimp only at hSw); go_simp) <;> with_reducible rfl)); (try simp only [Act.put, List.setIfInBounds_toArray, List.set_cons_zero, List.set_cons_succ]))
  (refine wpAnyH_take (i := 6) (oi := ?oi_4_6) (v := ?v_4_6) ?ho_4_6 ?hs_4_6 ?hf_4_6 ?hr_4_6 ?hQ_4_6 ?hy_4_6 ?hS_4_6 ?rest_4_6; (case hr_4_6 => kernel_rfl); (case hf_4_6 => kernel_rfl); (case hs_4_6 => kernel_rfl); (case ho_4_6 => (simp only [List.getElem?_toArray, List.getElem?_cons_succ, List.getElem?_cons_zero]; rfl)); (case hS_4_6 => assumption); (case hQ_4_6 => exact fun _ _ _ h => h); (case hy_4_6 => (refine Or.inl ⟨by rfl, ?_⟩; (intro w hSw; (try dsimp only at hSw); go_simp) <;> with_reducible rfl)); (try simp only [Act.put, List.setIfInBounds_toArray, List.set_cons_zero, List.set_cons_succ]))
  (refine wpAnyH_take (i := 7) (oi := ?oi_4_7) (v := ?v_4_7) ?ho_4_7 ?hs_4_7 ?hf_4_7 ?hr_4_7 ?hQ_4_7 ?hy_4_7 ?hS_4_7 ?rest_4_7; (case hr_4_7 => kernel_rfl); (case hf_4_7 => kernel_rfl); (case hs_4_7 => kernel_rfl); (case ho_4_7 => (simp only [List.getElem?_toArray, List.getElem?_cons_succ, List.getElem?_cons_zero]; rfl)); (case hS_4_7 => assumption); (case hQ_4_7 => exact fun _ _ _ h => h); (case hy_4_7 => (refine Or.inl ⟨by rfl, ?_⟩; (intro w hSw; (try dsimp only at hSw); go_simp) <;> with_reducible rfl)); (try simp only [Act.put, List.setIfInBounds_toArray, List.set_cons_zero, List.set_cons_succ]))
  (refine wpAnyH_take (i := 9) (oi := ?oi_4_9) (v := ?v_4_9) ?ho_4_9 ?hs_4_9 ?hf_4_9 ?hr_4_9 ?hQ_4_9 ?hy_4_9 ?hS_4_9 ?rest_4_9; (case hr_4_9 => kernel_rfl); (case hf_4_9 => kernel_rfl); (case hs_4_9 => kernel_rfl); (case ho_4_9 => (simp only [List.getElem?_toArray, List.getElem?_cons_succ, List.getElem?_cons_zero]; rfl)); (case hS_4_9 => assumption); (case hQ_4_9 => exact fun _ _ _ h => h); (case hy_4_9 => (refine Or.inl ⟨by rfl, ?_⟩; (intro w hSw; (try dsimp only at hSw); go_simp) <;> with_reducible rfl)); (try simp only [Act.put, List.setIfInBounds_toArray, List.set_cons_zero, List.set_cons_succ]))
  (refine wpAnyH_take (i := 10) (oi := ?oi_4_10) (v := ?v_4_10) ?ho_4_10 ?hs_4_10 ?hf_4_10 ?hr_4_10 ?hQ_4_10 ?hy_4_10 ?hS_4_10 ?rest_4_10; (case hr_4_10 => kernel_rfl); (case hf_4_10 => kernel_rfl); (case hs_4_10 => kernel_rfl); (case ho_4_10 => (simp only [List.getElem?_toArray, List.getElem?_cons_succ, List.getElem?_cons_zero]; rfl)); (case hS_4_10 => assumption); (case hQ_4_10 => exact fun _ _ _ h => h); (case hy_4_10 => (refine Or.inl ⟨by rfl, ?_⟩; (intro w hSw; (try dsimp only at hSw); go_simp) <;> with_reducible rfl)); (try simp only [Act.put, List.setIfInBounds_toArray, List.set_cons_zero, List.set_cons_succ]))
  (refine wpAnyH_ready (rs := [4]) (by kernel_rfl) (by simp) ?_; refine AllReadyH.cons (o := ?oo_4_4) ?hoo_4_4 ?hst_4_4 AllReadyH.nil; (case hoo_4_4 => (simp only [List.getElem?_toArray, List.getElem?_cons_succ, List.getElem?_cons_zero]; rfl)); intro K hK; go_simp; ((go_at_call 50; (refine (PutTextF (N + 1) v13 _ next _ ho14 (by (try simp only [List.length_append, fld_length, txtF_len, truF_len, putHd_len, List.length_nil]); omega) (by have := hBz g14.upd; omega)).mono ?_); rintro en w15 ⟨v15, rfl, ho15, hu15, hf15⟩; have g15 := g14.trans ⟨hu15, hf15⟩; have c15 := hS.out _ g15.upd; have hz15 := hu15.size)); (try go_wp2_with fail); refine hK.out _ _ (by (try dsimp only); exact c15) (fun hHeld => ?_); clear hK K; (try simp only [Act.put, List.setIfInBounds_toArray, List.set_cons_zero, List.set_cons_succ]))
  (refine wpAnyH_ready (rs := [8]) (by kernel_rfl) (by simp) ?_; refine AllReadyH.cons (o := ?oo_4_8) ?hoo_4_8 ?hst_4_8 AllReadyH.nil; (case hoo_4_8 => (simp only [List.getElem?_toArray, List.getElem?_cons_succ, List.getElem?_cons_zero]; rfl)); intro K hK; go_simp; ((go_at_call 56; (refine (wPutTruth (N + 1) v15 _ more _ ho15 (by (try simp only [List.length_append, fld_length, txtF_len, truF_len, putHd_len, List.length_nil]); omega) (by have := hBz g15.upd; omega)).mono ?_); rintro en w16 ⟨v16, rfl, ho16, hu16, hf16⟩; have g16 := g15.trans ⟨hu16, hf16⟩; have c16 := hS.out _ g16.upd; have hz16 := hu16.size)); (try go_wp2_with fail); refine hK.out _ _ (by (try dsimp only); exact c16) (fun hHeld => ?_); clear hK K; (try simp only [Act.put, List.setIfInBounds_toArray, List.set_cons_zero, List.set_cons_succ]))
  (refine wpAnyH_ready (rs := [11]) (by kernel_rfl) (by simp) ?_; refine AllReadyH.cons (o := ?oo_4_11) ?hoo_4_11 ?hst_4_11 AllReadyH.nil; (case hoo_4_11 => (simp only [List.getElem?_toArray, List.getElem?_cons_succ, List.getElem?_cons_zero]; rfl)); intro K hK; go_simp; ((go_at_call 55; (refine (wPutLines (N + 1) v16 _ _ lines lobject lid lmore _ (hRA.out _ g16.upd).l (by rw [← hN]; exact ht4) k8a k8b.out hi4.out hi3 l5 ho16 (by (try simp only [List.length_append, fld_length, txtF_len, truF_len, putHd_len, List.length_nil]); omega) (by have := hBz g16.upd; omega)).mono ?_); rintro en w17 ⟨v17, rfl, ho17, hu17, hf17⟩; have g17 := g16.trans ⟨hu17, hf17⟩; have c17 := hS.out _ g17.upd; have hz17 := hu17.size)); (try go_wp2_with fail); refine hK.out _ _ (by (try dsimp only); exact c17) (fun hHeld => ?_); clear hK K; (try simp only [Act.put, List.setIfInBounds_toArray, List.set_cons_zero, List.set_cons_succ]))
  (refine wpAnyH_take (i := 12) (oi := ?oi_4_12) (v := ?v_4_12) ?ho_4_12 ?hs_4_12 ?hf_4_12 ?hr_4_12 ?hQ_4_12 ?hy_4_12 ?hS_4_12 ?rest_4_12; (case hr_4_12 => kernel_rfl); (case hf_4_12 => kernel_rfl); (case hs_4_12 => kernel_rfl); (case ho_4_12 => (simp only [List.getElem?_toArray, List.getElem?_cons_succ, List.getElem?_cons_zero]; rfl)); (case hS_4_12 => assumption); (case hQ_4_12 => exact fun _ _ _ h => h); (case hy_4_12 => (refine Or.inl ⟨by rfl, ?_⟩; (intro w hSw; (try dsimp only at hSw); go_simp) <;> with_reducible rfl)); (try simp only [Act.put, List.setIfInBounds_toArray, List.set_cons_zero, List.set_cons_succ]))
  refine wpAnyH_done (by kernel_rfl) ?_ _
  clear ho14 ho15 ho16 hu15 hf15 hu16 hf16 hu17 hf17 c14 c15 c16 c17 g14 g15 g16 hS
  have hln : (putLns lines lobject lid lmore).length ≤ 68721100000 := by unfold putLns; simp only [List.length_append, fld_length, txtF_len, truF_len]; omega
  have hA4 : ∃ A, A = A3 ++ txtF next 4 ++ truF more ++ putLns lines lobject lid lmore ∧ A.length ≤ 274890000000 := ⟨_, rfl, by simp only [List.length_append, fld_length, txtF_len, truF_len, putHd_len, List.length_nil]; omega⟩
  obtain ⟨A4, eA4, lA4⟩ := hA4
  rw [← eA4] at ho17
  replace eA4 := Lib.hid eA4
  have hW : Hid (∀ w', Upd (At (.slice none 0 0)) wA w' → Upd Non w w') := Lib.hid (fun w' hu => hUA.trans hu fun k _ h => (at_nil h).elim)
  have hBN : Hid (∀ w', Upd (At (.slice none 0 0)) wA w' → N + 1 ≤ w'.heap.size) := Lib.hid (fun w' h => by have := hBz h; omega)
  have hfl5 := hfu
  have hfl6 := hfp
  have hsn5 := hsnu
  have hsn6 := hsnp
  clear hfu hfp hsnu hsnp hRA hBz
  have z22 : w17.cell? ⟨N, 22, none⟩ = some (.slice p5 ups.length q5) := hK.out _ g17.upd 22 _ rfl
  go_wp2_with fail
  refine (Put16 (N + 1) v17 A4 (ups.length : Int) _ (by omega) (by omega) ho17 (by omega) (hBN.out _ g17.upd)).mono ?_
  rintro en wq5 ⟨vq5, rfl, hoq, huq, hfq⟩
  have gq := g17.trans ⟨huq, hfq⟩
  clear z22 huq hfq ho17 g17
  have z22 : wq5.cell? ⟨N, 22, none⟩ = some (.slice p5 ups.length q5) := hK.out _ gq.upd 22 _ rfl
  go_wp2_with fail
  go_loopw [4, 72] (fun bv iv wr => ∃ k : Nat, iv = .int .i64 (k : Int) ∧ k ≤ ups.length ∧ Own wr (N + 1) 5 bv (A4 ++ fld (ups.length : Int) 2 ++ (ups.take k).flatMap putUp) ∧ Grow (.slice none 0 0) wA bv wr) (fun _ iv _ => ups.length - (intOf iv).toNat)
  case atStart => exact ⟨0, rfl, Nat.zero_le _, by rw [List.take_zero, List.flatMap_nil, List.append_nil]; exact hoq, gq⟩
  case round =>
    clear hoq gq z22
    obtain ⟨k, rfl, hk, ho, g⟩ := hrel
    have hzb := hBN.out _ g.upd
    by_cases hlt : k < ups.length
    · have hltI : (k : Int) < (ups.length : Int) := by omega
      have hk0 : (0 : Int) ≤ (k : Int) := by omega
      obtain ⟨gg, off, rfl, x0⟩ := x5.out k hlt
      have hx2 := fun j u hu => (hW.out _ g.upd).cell (x0 j u hu) fun h => h
      have h1 := hsn5.out k hlt
      have h2 := k9b.out _ (List.getElem_mem hlt)
      unfold upOk at h2
      have h3 := hfl5.out k
      have h4 := hfl5.out (k + 1)
      have h5 := hi5.out _ (List.getElem_mem hlt)
      rw [h1, List.length_append] at h4
      clear x0
      replace h1 := Lib.hid h1
      generalize ups[k] = x at *
      have e1 : ∀ A : List UInt8, A ++ putUp x = A ++ txtF x.object 4 ++ fld x.id 8 := fun A => by unfold putUp; simp only [List.append_assoc]
      obtain ⟨ob, xid⟩ := x
      dsimp only at *
      have hAl : (A4 ++ fld (ups.length : Int) 2 ++ (ups.take k).flatMap putUp).length ≤ 343700000000 := by rw [List.length_append, List.length_append, fld_length]; omega
      generalize (ups.take k).flatMap putUp = A at *
      have y0 : wr.cell? ⟨gg, off + k * 2, none⟩ = some (.string ⟨ob.toArray⟩) := hx2 0 _ rfl
      have y1 : wr.cell? ⟨gg, off + k * 2 + 1, none⟩ = some (.int .i64 xid) := hx2 1 _ rfl
      clear hx2
      have hbx := heap_alloc_new wr (.cells #[.string ⟨#[]⟩, .int .i64 0] 59)
      have hsx : Hid ((Tryz.prog.info? 59).map (·.size) = some (#[.string ⟨ob.toArray⟩, .int .i64 xid] : Array Value).size) := Lib.hid (by kernel_rfl)
      go_wp2_with ((with_reducible (show wpList _ _ _ (⟨_, Op.store _ _ _, _, _, _, _⟩ :: _) _ _)); refine storeB_list rfl 59 _ _ rfl wr.heap.size #[.string ⟨ob.toArray⟩, .int .i64 xid] _ _ rfl rfl hbx rfl hsx.out (by simp [Value.oneCell']) ?_)
      intro w3 hb3 hu3
      have hU3 : Upd Non wr w3 := (Upd.alloc Non wr _).trans hu3 fun j hj h => by omega
      obtain ⟨M, hM⟩ : ∃ M, wr.heap.size = M := ⟨_, rfl⟩
      have hnb : ¬ At u4 M := fun h => by have := own_lt ho h; omega
      have hzw := hU3.size
      have ho0_ : Own w3.drew (N + 1) 5 u4 (A4 ++ fld (ups.length : Int) 2 ++ A) := (hU3.owns ho fun _ _ h => h).drew
      rw [hM] at hb3
      have hS : Hid (∀ w', Upd (At u4) w3.drew w' → w'.cell? ⟨M, 0, none⟩ = some (.string ⟨ob.toArray⟩) ∧ w'.cell? ⟨M, 1, none⟩ = some (.int .i64 xid)) := Lib.hid (fun w' hu => by
        have h := cells_of (hu.heap ((Upd.drew Non w3).heap hb3 fun h => h) hnb)
        exact ⟨h.1 0, h.1 1⟩)
      have gg3 := g.right (hU3.trans (Upd.drew Non w3) fun _ _ h => h)
      have c0_ := hS.out _ (Upd.refl _ _)
      have g0_ : Grow u4 w3.drew u4 w3.drew := Grow.refl _ _
      have hz0_ : w3.heap.size ≤ w3.drew.heap.size := Nat.le_refl _
      have hM' := Lib.hid hM
      rw [hM]
      clear y0 y1 hbx hsx hb3 hu3 ho h3 g
      go_wp2_with fail
      refine wp_region_held_drew (S := (fun w' => w'.cell? ⟨M, 0, none⟩ = some (.string ⟨ob.toArray⟩) ∧ w'.cell? ⟨M, 1, none⟩ = some (.int .i64 xid))) (by kernel_rfl) (by (try dsimp only); exact c0_) (fun hHeld => ?_)
      (refine wpAnyH_take (i := 0) (oi := ?oi_5_0) (v := ?v_5_0) ?ho_5_0 ?hs_5_0 ?hf_5_0 ?hr_5_0 ?hQ_5_0 ?hy_5_0 ?hS_5_0 ?rest_5_0; (case hr_5_0 => kernel_rfl); (case hf_5_0 => kernel_rfl); (case hs_5_0 => kernel_rfl); (case ho_5_0 => (simp only [List.getElem?_toArray, List.getElem?_cons_succ, List.getElem?_cons_zero]; rfl)); (case hS_5_0 => assumption); (case hQ_5_0 => exact fun _ _ _ h => h); (case hy_5_0 => (refine Or.inl ⟨by rfl, ?_⟩; (intro w hSw; (try dsimp only at hSw); go_simp) <;> with_reducible rfl)); (try simp only [Act.put, List.setIfInBounds_toArray, List.set_cons_zero, List.set_cons_succ]))
      (refine wpAnyH_take (i := 1) (oi := ?oi_5_1) (v := ?v_5_1) ?ho_5_1 ?hs_5_1 ?hf_5_1 ?hr_5_1 ?hQ_5_1 ?hy_5_1 ?hS_5_1 ?rest_5_1; (case hr_5_1 => kernel_rfl); (case hf_5_1 => kernel_rfl); (case hs_5_1 => kernel_rfl); (case ho_5_1 => (simp only [List.getElem?_toArray, List.getElem?_cons_succ, List.getElem?_cons_zero]; rfl)); (case hS_5_1 => assumption); (case hQ_5_1 => exact fun _ _ _ h => h); (case hy_5_1 => (refine Or.inl ⟨by rfl, ?_⟩; (intro w hSw; (try dsimp only at hSw); go_simp) <;> with_reducible rfl)); (try simp only [Act.put, List.setIfInBounds_toArray, List.set_cons_zero, List.set_cons_succ]))
      (refine wpAnyH_take (i := 2) (oi := ?oi_5_2) (v := ?v_5_2) ?ho_5_2 ?hs_5_2 ?hf_5_2 ?hr_5_2 ?hQ_5_2 ?hy_5_2 ?hS_5_2 ?rest_5_2; (case hr_5_2 => kernel_rfl); (case hf_5_2 => kernel_rfl); (case hs_5_2 => kernel_rfl); (case ho_5_2 => (simp only [List.getElem?_toArray, List.getElem?_cons_succ, List.getElem?_cons_zero]; rfl)); (case hS_5_2 => assumption); (case hQ_5_2 => exact fun _ _ _ h => h); (case hy_5_2 => (refine Or.inl ⟨by rfl, ?_⟩; (intro w hSw; (try dsimp only at hSw); go_simp) <;> with_reducible rfl)); (try simp only [Act.put, List.setIfInBounds_toArray, List.set_cons_zero, List.set_cons_succ]))
      (refine wpAnyH_take (i := 4) (oi := ?oi_5_4) (v := ?v_5_4) ?ho_5_4 ?hs_5_4 ?hf_5_4 ?hr_5_4 ?hQ_5_4 ?hy_5_4 ?hS_5_4 ?rest_5_4; (case hr_5_4 => kernel_rfl); (case hf_5_4 => kernel_rfl); (case hs_5_4 => kernel_rfl); (case ho_5_4 => (simp only [List.getElem?_toArray, List.getElem?_cons_succ, List.getElem?_cons_zero]; rfl)); (case hS_5_4 => assumption); (case hQ_5_4 => exact fun _ _ _ h => h); (case hy_5_4 => (refine Or.inl ⟨by rfl, ?_⟩; (intro w hSw; (try dsimp only at hSw); go_simp) <;> with_reducible rfl)); (try simp only [Act.put, List.setIfInBounds_toArray, List.set_cons_zero, List.set_cons_succ]))
      (refine wpAnyH_take (i := 5) (oi := ?oi_5_5) (v := ?v_5_5) ?ho_5_5 ?hs_5_5 ?hf_5_5 ?hr_5_5 ?hQ_5_5 ?hy_5_5 ?hS_5_5 ?rest_5_5; (case hr_5_5 => kernel_rfl); (case hf_5_5 => kernel_rfl); (case hs_5_5 => kernel_rfl); (case ho_5_5 => (simp only [List.getElem?_toArray, List.getElem?_cons_succ, List.getElem?_cons_zero]; rfl)); (case hS_5_5 => assumption); (case hQ_5_5 => exact fun _ _ _ h => h); (case hy_5_5 => (refine Or.inl ⟨by rfl, ?_⟩; (intro w hSw; (try dsimp only at hSw); go_simp) <;> with_reducible rfl)); (try simp only [Act.put, List.setIfInBounds_toArray, List.set_cons_zero, List.set_cons_succ]))
      (refine wpAnyH_ready (rs := [3]) (by kernel_rfl) (by simp) ?_; refine AllReadyH.cons (o := ?oo_5_3) ?hoo_5_3 ?hst_5_3 AllReadyH.nil; (case hoo_5_3 => (simp only [List.getElem?_toArray, List.getElem?_cons_succ, List.getElem?_cons_zero]; rfl)); intro K hK; go_simp; ((go_at_call 50; (refine (PutTextF (N + 1) u4 _ ob _ ho0_ (by (try simp only [List.length_append, fld_length, txtF_len, truF_len, putHd_len, List.length_nil]); omega) (by omega)).mono ?_); rintro en ww1 ⟨x1_, rfl, ho1_, hu1_, hf1_⟩; have g1_ := g0_.trans ⟨hu1_, hf1_⟩; have c1_ := hS.out _ g1_.upd; have hz1_ := hu1_.size)); (try go_wp2_with fail); refine hK.out _ _ (by (try dsimp only); exact c1_) (fun hHeld => ?_); clear hK K; (try simp only [Act.put, List.setIfInBounds_toArray, List.set_cons_zero, List.set_cons_succ]))
      (refine wpAnyH_ready (rs := [6]) (by kernel_rfl) (by simp) ?_; refine AllReadyH.cons (o := ?oo_5_6) ?hoo_5_6 ?hst_5_6 AllReadyH.nil; (case hoo_5_6 => (simp only [List.getElem?_toArray, List.getElem?_cons_succ, List.getElem?_cons_zero]; rfl)); intro K hK; go_simp; ((go_at_call 51; (refine (Put64 (N + 1) x1_ _ xid _ h5.1 h5.2 ho1_ (by (try simp only [List.length_append, fld_length, txtF_len, truF_len, putHd_len, List.length_nil]); omega) (by omega)).mono ?_); rintro en ww2 ⟨x2_, rfl, ho2_, hu2_, hf2_⟩; have g2_ := g1_.trans ⟨hu2_, hf2_⟩; have c2_ := hS.out _ g2_.upd; have hz2_ := hu2_.size)); (try go_wp2_with fail); refine hK.out _ _ (by (try dsimp only); exact c2_) (fun hHeld => ?_); clear hK K; (try simp only [Act.put, List.setIfInBounds_toArray, List.set_cons_zero, List.set_cons_succ]))
      (refine wpAnyH_take (i := 7) (oi := ?oi_5_7) (v := ?v_5_7) ?ho_5_7 ?hs_5_7 ?hf_5_7 ?hr_5_7 ?hQ_5_7 ?hy_5_7 ?hS_5_7 ?rest_5_7; (case hr_5_7 => kernel_rfl); (case hf_5_7 => kernel_rfl); (case hs_5_7 => kernel_rfl); (case ho_5_7 => (simp only [List.getElem?_toArray, List.getElem?_cons_succ, List.getElem?_cons_zero]; rfl)); (case hS_5_7 => assumption); (case hQ_5_7 => exact fun _ _ _ h => h); (case hy_5_7 => (refine Or.inl ⟨by rfl, ?_⟩; (intro w hSw; (try dsimp only at hSw); go_simp) <;> with_reducible rfl)); (try simp only [Act.put, List.setIfInBounds_toArray, List.set_cons_zero, List.set_cons_succ]))
      refine wpAnyH_done (by kernel_rfl) ?_ _
      have g8 := gg3.trans g2_
      have ho8 : Own ww2 (N + 1) 5 x2_ (A4 ++ fld (ups.length : Int) 2 ++ (ups.take (k + 1)).flatMap putUp) := by
        rw [h1.out, ← List.append_assoc, e1]
        exact ho2_
      clear ho0_ c0_ g0_ ho1_ c1_ g1_ ho2_ c2_ g2_ hu1_ hf1_ hu2_ hf2_ gg3 hS
      go_wp2_with fail
      go_roundw
      case rel => exact ⟨k + 1, by go_num, by omega, ho8, g8⟩
      case measure => simp [intOf]; omega
    · have hltI : ¬ (k : Int) < (ups.length : Int) := by omega
      obtain rfl : k = ups.length := by omega
      rw [List.take_length] at ho
      have lA5 : (A4 ++ fld (ups.length : Int) 2 ++ ups.flatMap putUp).length ≤ 343700000000 := by rw [List.length_append, List.length_append, fld_length]; omega
      obtain ⟨A5, eA5⟩ : ∃ A, A = A4 ++ fld (ups.length : Int) 2 ++ ups.flatMap putUp := ⟨_, rfl⟩
      rw [← eA5] at ho lA5
      replace eA5 := Lib.hid eA5
      have z23 : wr.cell? ⟨N, 23, none⟩ = some (.slice p6 parts.length q6) := hK.out _ g.upd 23 _ rfl
      go_wp2_with fail
      refine (Put16 (N + 1) u4 A5 (parts.length : Int) _ (by omega) (by omega) ho (by omega) hzb).mono ?_
      rintro en wq6 ⟨vq6, rfl, hoq, huq, hfq⟩
      have gq := g.trans ⟨huq, hfq⟩
      clear z23 huq hfq ho g hk hlt hltI hzb
      have z23 : wq6.cell? ⟨N, 23, none⟩ = some (.slice p6 parts.length q6) := hK.out _ gq.upd 23 _ rfl
      go_wp2_with fail
      go_loopw [4, 92] (fun bv iv wr => ∃ k : Nat, iv = .int .i64 (k : Int) ∧ k ≤ parts.length ∧ Own wr (N + 1) 5 bv (A5 ++ fld (parts.length : Int) 2 ++ (parts.take k).flatMap putPt) ∧ Grow (.slice none 0 0) wA bv wr) (fun _ iv _ => parts.length - (intOf iv).toNat)
      case atStart => exact ⟨0, rfl, Nat.zero_le _, by rw [List.take_zero, List.flatMap_nil, List.append_nil]; exact hoq, gq⟩
      case round =>
        clear hoq gq z23
        obtain ⟨k, rfl, hk, ho, g⟩ := hrel
        have hzb := hBN.out _ g.upd
        by_cases hlt : k < parts.length
        · have hltI : (k : Int) < (parts.length : Int) := by omega
          have hk0 : (0 : Int) ≤ (k : Int) := by omega
          obtain ⟨gg, off, rfl, x0⟩ := x6.out k hlt
          have hx2 := fun j u hu => (hW.out _ g.upd).cell (x0 j u hu) fun h => h
          have h1 := hsn6.out k hlt
          have h2 := k10b.out _ (List.getElem_mem hlt)
          have h3 := hfl6.out k
          have h4 := hfl6.out (k + 1)
          rw [h1, List.length_append] at h4
          clear x0
          replace h1 := Lib.hid h1
          generalize parts[k] = x at *
          have e1 : ∀ A : List UInt8, A ++ putPt x = A ++ fld x.n 2 ++ putHd x.head := fun A => by unfold putPt; simp only [List.append_assoc]
          obtain ⟨xn, ⟨xs, xr, xi, xg, xl⟩⟩ := x
          dsimp only at *
          obtain ⟨h2a, h2b⟩ := h2
          dsimp only at h2a
          have hAl : (A5 ++ fld (parts.length : Int) 2 ++ (parts.take k).flatMap putPt).length ≤ 343800000000 := by rw [List.length_append, List.length_append, fld_length]; omega
          generalize (parts.take k).flatMap putPt = A at *
          have y0 : wr.cell? ⟨gg, off + k * 6, none⟩ = some (.int .i64 xn) := hx2 0 _ rfl
          have y1 : wr.cell? ⟨gg, off + k * 6 + 1, none⟩ = some (.int .i64 xs) := hx2 1 _ rfl
          have y2 : wr.cell? ⟨gg, off + k * 6 + 2, none⟩ = some (.int .i64 xr) := hx2 2 _ rfl
          have y3 : wr.cell? ⟨gg, off + k * 6 + 3, none⟩ = some (.int .i64 xi) := hx2 3 _ rfl
          have y4 : wr.cell? ⟨gg, off + k * 6 + 4, none⟩ = some (.bool xg) := hx2 4 _ rfl
          have y5 : wr.cell? ⟨gg, off + k * 6 + 5, none⟩ = some (.bool xl) := hx2 5 _ rfl
          clear hx2
          have hbx := heap_alloc_new wr (.cells #[.int .i64 0, .int .i64 0, .int .i64 0, .int .i64 0, .bool false, .bool false] 61)
          have hsx : Hid ((Tryz.prog.info? 61).map (·.size) = some (#[.int .i64 xn, .int .i64 xs, .int .i64 xr, .int .i64 xi, .bool xg, .bool xl] : Array Value).size) := Lib.hid (by kernel_rfl)
          go_wp2_with ((with_reducible (show wpList _ _ _ (⟨_, Op.store _ _ _, _, _, _, _⟩ :: _) _ _)); refine storeB_list rfl 61 _ _ rfl wr.heap.size #[.int .i64 xn, .int .i64 xs, .int .i64 xr, .int .i64 xi, .bool xg, .bool xl] _ _ rfl rfl hbx rfl hsx.out (by simp [Value.oneCell']) ?_)
          intro w3 hb3 hu3
          have hU3 : Upd Non wr w3 := (Upd.alloc Non wr _).trans hu3 fun j hj h => by omega
          obtain ⟨M, hM⟩ : ∃ M, wr.heap.size = M := ⟨_, rfl⟩
          have hnb : ¬ At u4 M := fun h => by have := own_lt ho h; omega
          have hzw := hU3.size
          have ho0_ : Own w3.drew (N + 1) 5 u4 (A5 ++ fld (parts.length : Int) 2 ++ A) := (hU3.owns ho fun _ _ h => h).drew
          rw [hM] at hb3
          have hS : Hid (∀ w', Upd (At u4) w3.drew w' → w'.cell? ⟨M, 0, none⟩ = some (.int .i64 xn) ∧ w'.cell? ⟨M, 1, none⟩ = some (.int .i64 xs) ∧ w'.cell? ⟨M, 2, none⟩ = some (.int .i64 xr) ∧ w'.cell? ⟨M, 3, none⟩ = some (.int .i64 xi) ∧ w'.cell? ⟨M, 4, none⟩ = some (.bool xg) ∧ w'.cell? ⟨M, 5, none⟩ = some (.bool xl)) := Lib.hid (fun w' hu => by
            have h := cells_of (hu.heap ((Upd.drew Non w3).heap hb3 fun h => h) hnb)
            exact ⟨h.1 0, h.1 1, h.1 2, h.1 3, h.1 4, h.1 5⟩)
          have gg3 := g.right (hU3.trans (Upd.drew Non w3) fun _ _ h => h)
          have c0_ := hS.out _ (Upd.refl _ _)
          have g0_ : Grow u4 w3.drew u4 w3.drew := Grow.refl _ _
          have hz0_ : w3.heap.size ≤ w3.drew.heap.size := Nat.le_refl _
          have hM' := Lib.hid hM
          rw [hM]
          clear y0 y1 y2 y3 y4 y5 hbx hsx hb3 hu3 ho h3 g
          go_wp2_with fail
          refine wp_region_held_drew (S := (fun w' => w'.cell? ⟨M, 0, none⟩ = some (.int .i64 xn) ∧ w'.cell? ⟨M, 1, none⟩ = some (.int .i64 xs) ∧ w'.cell? ⟨M, 2, none⟩ = some (.int .i64 xr) ∧ w'.cell? ⟨M, 3, none⟩ = some (.int .i64 xi) ∧ w'.cell? ⟨M, 4, none⟩ = some (.bool xg) ∧ w'.cell? ⟨M, 5, none⟩ = some (.bool xl))) (by kernel_rfl) (by (try dsimp only); exact c0_) (fun hHeld => ?_)
          (refine wpAnyH_take (i := 0) (oi := ?oi_6_0) (v := ?v_6_0) ?ho_6_0 ?hs_6_0 ?hf_6_0 ?hr_6_0 ?hQ_6_0 ?hy_6_0 ?hS_6_0 ?rest_6_0; (case hr_6_0 => kernel_rfl); (case hf_6_0 => kernel_rfl); (case hs_6_0 => kernel_rfl); (case ho_6_0 => (simp only [List.getElem?_toArray, List.getElem?_cons_succ, List.getElem?_cons_zero]; rfl)); (case hS_6_0 => assumption); (case hQ_6_0 => exact fun _ _ _ h => h); (case hy_6_0 => (refine Or.inl ⟨by rfl, ?_⟩; (intro w hSw; (try dsimp only at hSw); go_simp) <;> with_reducible rfl)); (try simp only [Act.put, List.setIfInBounds_toArray, List.set_cons_zero, List.set_cons_succ]))
          (refine wpAnyH_take (i := 1) (oi := ?oi_6_1) (v := ?v_6_1) ?ho_6_1 ?hs_6_1 ?hf_6_1 ?hr_6_1 ?hQ_6_1 ?hy_6_1 ?hS_6_1 ?rest_6_1; (case hr_6_1 => kernel_rfl); (case hf_6_1 => kernel_rfl); (case hs_6_1 => kernel_rfl); (case ho_6_1 => (simp only [List.getElem?_toArray, List.getElem?_cons_succ, List.getElem?_cons_zero]; rfl)); (case hS_6_1 => assumption); (case hQ_6_1 => exact fun _ _ _ h => h); (case hy_6_1 => (refine Or.inl ⟨by rfl, ?_⟩; (intro w hSw; (try dsimp only at hSw); go_simp) <;> with_reducible rfl)); (try simp only [Act.put, List.setIfInBounds_toArray, List.set_cons_zero, List.set_cons_succ]))
          (refine wpAnyH_take (i := 2) (oi := ?oi_6_2) (v := ?v_6_2) ?ho_6_2 ?hs_6_2 ?hf_6_2 ?hr_6_2 ?hQ_6_2 ?hy_6_2 ?hS_6_2 ?rest_6_2; (case hr_6_2 => kernel_rfl); (case hf_6_2 => kernel_rfl); (case hs_6_2 => kernel_rfl); (case ho_6_2 => (simp only [List.getElem?_toArray, List.getElem?_cons_succ, List.getElem?_cons_zero]; rfl)); (case hS_6_2 => assumption); (case hQ_6_2 => exact fun _ _ _ h => h); (case hy_6_2 => (refine Or.inl ⟨by rfl, ?_⟩; (intro w hSw; (try dsimp only at hSw); go_simp) <;> with_reducible rfl)); (try simp only [Act.put, List.setIfInBounds_toArray, List.set_cons_zero, List.set_cons_succ]))
          (refine wpAnyH_take (i := 4) (oi := ?oi_6_4) (v := ?v_6_4) ?ho_6_4 ?hs_6_4 ?hf_6_4 ?hr_6_4 ?hQ_6_4 ?hy_6_4 ?hS_6_4 ?rest_6_4; (case hr_6_4 => kernel_rfl); (case hf_6_4 => kernel_rfl); (case hs_6_4 => kernel_rfl); (case ho_6_4 => (simp only [List.getElem?_toArray, List.getElem?_cons_succ, List.getElem?_cons_zero]; rfl)); (case hS_6_4 => assumption); (case hQ_6_4 => exact fun _ _ _ h => h); (case hy_6_4 => (refine Or.inl ⟨by rfl, ?_⟩; (intro w hSw; (try dsimp only at hSw); go_simp) <;> with_reducible rfl)); (try simp only [Act.put, List.setIfInBounds_toArray, List.set_cons_zero, List.set_cons_succ]))
          (refine wpAnyH_take (i := 5) (oi := ?oi_6_5) (v := ?v_6_5) ?ho_6_5 ?hs_6_5 ?hf_6_5 ?hr_6_5 ?hQ_6_5 ?hy_6_5 ?hS_6_5 ?rest_6_5; (case hr_6_5 => kernel_rfl); (case hf_6_5 => kernel_rfl); (case hs_6_5 => kernel_rfl); (case ho_6_5 => (simp only [List.getElem?_toArray, List.getElem?_cons_succ, List.getElem?_cons_zero]; rfl)); (case hS_6_5 => assumption); (case hQ_6_5 => exact fun _ _ _ h => h); (case hy_6_5 => (refine Or.inl ⟨by rfl, ?_⟩; (intro w hSw; (try dsimp only at hSw); go_simp) <;> with_reducible rfl)); (try simp only [Act.put, List.setIfInBounds_toArray, List.set_cons_zero, List.set_cons_succ]))
          (refine wpAnyH_ready (rs := [3]) (by kernel_rfl) (by simp) ?_; refine AllReadyH.cons (o := ?oo_6_3) ?hoo_6_3 ?hst_6_3 AllReadyH.nil; (case hoo_6_3 => (simp only [List.getElem?_toArray, List.getElem?_cons_succ, List.getElem?_cons_zero]; rfl)); intro K hK; go_simp; ((go_at_call 57; (refine (Put16 (N + 1) u4 _ xn _ (by omega) (by omega) ho0_ (by (try simp only [List.length_append, fld_length, txtF_len, truF_len, putHd_len, List.length_nil]); omega) (by omega)).mono ?_); rintro en ww1 ⟨x1_, rfl, ho1_, hu1_, hf1_⟩; have g1_ := g0_.trans ⟨hu1_, hf1_⟩; have c1_ := hS.out _ g1_.upd; have hz1_ := hu1_.size)); (try go_wp2_with fail); refine hK.out _ _ (by (try dsimp only); exact c1_) (fun hHeld => ?_); clear hK K; (try simp only [Act.put, List.setIfInBounds_toArray, List.set_cons_zero, List.set_cons_succ]))
          (refine wpAnyH_ready (rs := [6]) (by kernel_rfl) (by simp) ?_; refine AllReadyH.cons (o := ?oo_6_6) ?hoo_6_6 ?hst_6_6 AllReadyH.nil; (case hoo_6_6 => (simp only [List.getElem?_toArray, List.getElem?_cons_succ, List.getElem?_cons_zero]; rfl)); intro K hK; go_simp; ((go_at_call 53; (refine (wPutHead (N + 1) x1_ _ ⟨xs, xr, xi, xg, xl⟩ _ h2b ho1_ (by (try simp only [List.length_append, fld_length, txtF_len, truF_len, putHd_len, List.length_nil]); omega) (by omega)).mono ?_); rintro en ww2 ⟨x2_, rfl, ho2_, hu2_, hf2_⟩; have g2_ := g1_.trans ⟨hu2_, hf2_⟩; have c2_ := hS.out _ g2_.upd; have hz2_ := hu2_.size)); (try go_wp2_with fail); refine hK.out _ _ (by (try dsimp only); exact c2_) (fun hHeld => ?_); clear hK K; (try simp only [Act.put, List.setIfInBounds_toArray, List.set_cons_zero, List.set_cons_succ]))
          (refine wpAnyH_take (i := 7) (oi := ?oi_6_7) (v := ?v_6_7) ?ho_6_7 ?hs_6_7 ?hf_6_7 ?hr_6_7 ?hQ_6_7 ?hy_6_7 ?hS_6_7 ?rest_6_7; (case hr_6_7 => kernel_rfl); (case hf_6_7 => kernel_rfl); (case hs_6_7 => kernel_rfl); (case ho_6_7 => (simp only [List.getElem?_toArray, List.getElem?_cons_succ, List.getElem?_cons_zero]; rfl)); (case hS_6_7 => assumption); (case hQ_6_7 => exact fun _ _ _ h => h); (case hy_6_7 => (refine Or.inl ⟨by rfl, ?_⟩; (intro w hSw; (try dsimp only at hSw); go_simp) <;> with_reducible rfl)); (try simp only [Act.put, List.setIfInBounds_toArray, List.set_cons_zero, List.set_cons_succ]))
          refine wpAnyH_done (by kernel_rfl) ?_ _
          have g8 := gg3.trans g2_
          have ho8 : Own ww2 (N + 1) 5 x2_ (A5 ++ fld (parts.length : Int) 2 ++ (parts.take (k + 1)).flatMap putPt) := by
            rw [h1.out, ← List.append_assoc, e1]
            exact ho2_
          clear ho0_ c0_ g0_ ho1_ c1_ g1_ ho2_ c2_ g2_ hu1_ hf1_ hu2_ hf2_ gg3 hS
          go_wp2_with fail
          go_roundw
          case rel => exact ⟨k + 1, by go_num, by omega, ho8, g8⟩
          case measure => simp [intOf]; omega
        · have hltI : ¬ (k : Int) < (parts.length : Int) := by omega
          obtain rfl : k = parts.length := by omega
          rw [List.take_length] at ho
          have hg := Lib.hid (hfin.out u4 wr (A5 ++ fld (parts.length : Int) 2 ++ parts.flatMap putPt) (by
            rw [← hpA.out, eA5.out, eA4.out, eA3.out, eA2.out, eA1.out]
            simp only [List.append_assoc, List.nil_append]) (by rw [hN]; exact ho) (hW.out _ g.upd))
          clear ho g
          go_wp2_with fail
          exact hg.out
end Go.Proofs.YtogekobpjjmnjaaGreat
