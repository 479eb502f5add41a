/- The walks over package wire: putTruth, putHead. -/
import Derived.Test.YtogekobpjjmnjaaGreatMWrP
import Derived.Test.YtogekobpjjmnjaaGreatMWrJ
import Derived.Test.YtogekobpjjmnjaaGreatMWrA
import Derived.Test.YtogekobpjjmnjaaGreatMBlA
namespace Go.Proofs.YtogekobpjjmnjaaGreat
open Go.RowKit Go.Amb
set_option linter.unusedVariables false
set_option linter.unusedSimpArgs false
set_option maxRecDepth 100000
theorem wPutTruth (base : Nat) (v : Value) (l : List UInt8) (b : Bool) (w : World) (hown : Own w base 5 v l) (hlen : l.length + 1 ≤ 140737488355328) (hb : base ≤ w.heap.size) :
    Calls Tryz.prog 56 #[v, .bool b] w (Grew base 5 v (l ++ truF b) w) := by
  have hi := Lib.hid (@info_u8)
  cases b
  · go_enter Tryz.func56, Tryz.ntmps56
    go_wp2_with (at_builtin; go_must (refine wpList_app1 rfl _ _ 22 rfl base 5 (.int .u8 0) 1 1 Tryz.underlying22 hi.out rfl _ _ _ rfl hown [.int .u8 0] rfl rfl (one_cell _ _) ?h63 ?hby hb ?_))
    case h63 => unfold maxLen; omega
    case hby => omega
    intro v' w' ho' hu' hf'
    go_wp2_with fail
    go_ret
    exact ⟨v', rfl, own_one 0 ho', hu', hf'⟩
  · go_enter Tryz.func56, Tryz.ntmps56
    go_wp2_with (at_builtin; go_must (refine wpList_app1 rfl _ _ 22 rfl base 5 (.int .u8 0) 1 1 Tryz.underlying22 hi.out rfl _ _ _ rfl hown [.int .u8 1] rfl rfl (one_cell _ _) ?h63 ?hby hb ?_))
    case h63 => unfold maxLen; omega
    case hby => omega
    intro v' w' ho' hu' hf'
    go_wp2_with fail
    go_ret
    exact ⟨v', rfl, own_one 1 ho', hu', hf'⟩
/-- A head's cells. -/
def hdC (h : Hd) : List Value := [.int .i64 h.size, .int .i64 h.re, .int .i64 h.im, .bool h.gone, .bool h.null]
def hdV (h : Hd) : Value := .agg #[.int .i64 h.size, .int .i64 h.re, .int .i64 h.im, .bool h.gone, .bool h.null]
set_option maxHeartbeats 2000000 in
theorem wPutHead (base : Nat) (v : Value) (l : List UInt8) (h : Hd) (w : World) (hh : hdOk h) (hown : Own w base 5 v l) (hlen : l.length + 11 ≤ 140737488355328) (hb : base ≤ w.heap.size) :
    Calls Tryz.prog 53 #[v, hdV h] w (Grew base 5 v (l ++ putHd h) w) := by
  have hnv : ¬ At v w.heap.size := fun h => by have := own_lt hown h; omega
  obtain ⟨size, re, im, gone, null⟩ := h
  obtain ⟨⟨hs1, hs2⟩, ht1, ht2, ht3, ht4⟩ := hh
  dsimp only at *
  cases gone <;> cases null
  · have hu0 : Upd (At v) (w.alloc (.cells #[.int .i64 size, .int .i64 re, .int .i64 im, .bool false, .bool false] 27)) (w.alloc (.cells #[.int .i64 size, .int .i64 re, .int .i64 im, .bool false, .bool false] 27)).drew := Upd.drew _ _
    have c := box2 hu0 hnv
    have c0 := c 0
    have c1 := c 1
    have c2 := c 2
    clear c
    have ho1 : Own (w.alloc (.cells #[.int .i64 size, .int .i64 re, .int .i64 im, .bool false, .bool false] 27)).drew base 5 v l := (hown.alloc _).drew
    have hb1 : base ≤ (w.alloc (.cells #[.int .i64 size, .int .i64 re, .int .i64 im, .bool false, .bool false] 27)).drew.heap.size := by simp; omega
    have e : l ++ putHd ⟨size, re, im, false, false⟩ = l ++ fld 0 1 ++ fld size 2 ++ fld re 4 ++ fld im 4 := by
      show l ++ (fld 0 1 ++ (fld size 2 ++ (fld re 4 ++ fld im 4))) = _
      simp only [List.append_assoc]
    rw [e]
    clear e
    replace hown := Lib.hid hown
    unfold hdV
    dsimp only
    go_enter Tryz.func53, Tryz.ntmps53
    go_wp2_with fail
    refine wp_region_held_drew (S := (fun w' => w'.cell? ⟨w.heap.size, 0, none⟩ = some (.int .i64 size) ∧ w'.cell? ⟨w.heap.size, 1, none⟩ = some (.int .i64 re) ∧ w'.cell? ⟨w.heap.size, 2, none⟩ = some (.int .i64 im))) (by kernel_rfl) (by (try dsimp only); first | exact ⟨m0, m1, m2⟩ | exact ⟨k0, k1, k2⟩ | exact ⟨j0, j1, j2⟩ | exact ⟨c0, c1, c2⟩) (fun hHeld => ?_)
    (refine wpAnyH_take (i := 0) (oi := ?oi_1_0) (v := ?v_1_0) ?ho_1_0 ?hs_1_0 ?hf_1_0 ?hr_1_0 ?hQ_1_0 ?hy_1_0 ?hS_1_0 ?rest_1_0; (case hr_1_0 => kernel_rfl); (case hf_1_0 => kernel_rfl); (case hs_1_0 => kernel_rfl); (case ho_1_0 => (simp only [List.getElem?_toArray, List.getElem?_cons_succ, List.getElem?_cons_zero]; rfl)); (case hS_1_0 => assumption); (case hQ_1_0 => exact fun _ _ _ h => h); (case hy_1_0 => (refine Or.inl ⟨by rfl, ?_⟩; (intro w hSw; (try dsimp only at hSw); go_simp) <;> with_reducible rfl)); (try simp only [Act.put, List.setIfInBounds_toArray, List.set_cons_zero, List.set_cons_succ]))
    (refine wpAnyH_take (i := 1) (oi := ?oi_1_1) (v := ?v_1_1) ?ho_1_1 ?hs_1_1 ?hf_1_1 ?hr_1_1 ?hQ_1_1 ?hy_1_1 ?hS_1_1 ?rest_1_1; (case hr_1_1 => kernel_rfl); (case hf_1_1 => kernel_rfl); (case hs_1_1 => kernel_rfl); (case ho_1_1 => (simp only [List.getElem?_toArray, List.getElem?_cons_succ, List.getElem?_cons_zero]; rfl)); (case hS_1_1 => assumption); (case hQ_1_1 => exact fun _ _ _ h => h); (case hy_1_1 => (refine Or.inl ⟨by rfl, ?_⟩; (intro w hSw; (try dsimp only at hSw); go_simp) <;> with_reducible rfl)); (try simp only [Act.put, List.setIfInBounds_toArray, List.set_cons_zero, List.set_cons_succ]))
    (refine wpAnyH_take (i := 3) (oi := ?oi_1_3) (v := ?v_1_3) ?ho_1_3 ?hs_1_3 ?hf_1_3 ?hr_1_3 ?hQ_1_3 ?hy_1_3 ?hS_1_3 ?rest_1_3; (case hr_1_3 => kernel_rfl); (case hf_1_3 => kernel_rfl); (case hs_1_3 => kernel_rfl); (case ho_1_3 => (simp only [List.getElem?_toArray, List.getElem?_cons_succ, List.getElem?_cons_zero]; rfl)); (case hS_1_3 => assumption); (case hQ_1_3 => exact fun _ _ _ h => h); (case hy_1_3 => (refine Or.inl ⟨by rfl, ?_⟩; (intro w hSw; (try dsimp only at hSw); go_simp) <;> with_reducible rfl)); (try simp only [Act.put, List.setIfInBounds_toArray, List.set_cons_zero, List.set_cons_succ]))
    (refine wpAnyH_take (i := 4) (oi := ?oi_1_4) (v := ?v_1_4) ?ho_1_4 ?hs_1_4 ?hf_1_4 ?hr_1_4 ?hQ_1_4 ?hy_1_4 ?hS_1_4 ?rest_1_4; (case hr_1_4 => kernel_rfl); (case hf_1_4 => kernel_rfl); (case hs_1_4 => kernel_rfl); (case ho_1_4 => (simp only [List.getElem?_toArray, List.getElem?_cons_succ, List.getElem?_cons_zero]; rfl)); (case hS_1_4 => assumption); (case hQ_1_4 => exact fun _ _ _ h => h); (case hy_1_4 => (refine Or.inl ⟨by rfl, ?_⟩; (intro w hSw; (try dsimp only at hSw); go_simp) <;> with_reducible rfl)); (try simp only [Act.put, List.setIfInBounds_toArray, List.set_cons_zero, List.set_cons_succ]))
    (refine wpAnyH_take (i := 6) (oi := ?oi_1_6) (v := ?v_1_6) ?ho_1_6 ?hs_1_6 ?hf_1_6 ?hr_1_6 ?hQ_1_6 ?hy_1_6 ?hS_1_6 ?rest_1_6; (case hr_1_6 => kernel_rfl); (case hf_1_6 => kernel_rfl); (case hs_1_6 => kernel_rfl); (case ho_1_6 => (simp only [List.getElem?_toArray, List.getElem?_cons_succ, List.getElem?_cons_zero]; rfl)); (case hS_1_6 => assumption); (case hQ_1_6 => exact fun _ _ _ h => h); (case hy_1_6 => (refine Or.inl ⟨by rfl, ?_⟩; (intro w hSw; (try dsimp only at hSw); go_simp) <;> with_reducible rfl)); (try simp only [Act.put, List.setIfInBounds_toArray, List.set_cons_zero, List.set_cons_succ]))
    (refine wpAnyH_take (i := 7) (oi := ?oi_1_7) (v := ?v_1_7) ?ho_1_7 ?hs_1_7 ?hf_1_7 ?hr_1_7 ?hQ_1_7 ?hy_1_7 ?hS_1_7 ?rest_1_7; (case hr_1_7 => kernel_rfl); (case hf_1_7 => kernel_rfl); (case hs_1_7 => kernel_rfl); (case ho_1_7 => (simp only [List.getElem?_toArray, List.getElem?_cons_succ, List.getElem?_cons_zero]; rfl)); (case hS_1_7 => assumption); (case hQ_1_7 => exact fun _ _ _ h => h); (case hy_1_7 => (refine Or.inl ⟨by rfl, ?_⟩; (intro w hSw; (try dsimp only at hSw); go_simp) <;> with_reducible rfl)); (try simp only [Act.put, List.setIfInBounds_toArray, List.set_cons_zero, List.set_cons_succ]))
    (refine wpAnyH_ready (rs := [2]) (by kernel_rfl) (by simp) ?_; refine AllReadyH.cons (o := ?oo_1_2) ?hoo_1_2 ?hst_1_2 AllReadyH.nil; (case hoo_1_2 => (simp only [List.getElem?_toArray, List.getElem?_cons_succ, List.getElem?_cons_zero]; rfl)); intro K hK; go_simp; (first | (go_at_call 52; (refine (Put8 base v l 0 _ (by omega) (by omega) ho1 (by omega) hb1).mono ?_); rintro en w2 ⟨v2, rfl, ho2, hu2, hf2⟩; have g2 : Grow v _ v2 w2 := ⟨hu2, hf2⟩; have j := box2 (hu0.trans g2.upd fun _ _ h => h) hnv; have j0 := j 0; have j1 := j 1; have j2 := j 2; have hz2 := hu2.size) | (go_at_call 57; (refine (Put16 base v2 _ size _ (by omega) (by omega) ho2 (by simp [fld_length]; omega) (by omega)).mono ?_); rintro en w3 ⟨v3, rfl, ho3, hu3, hf3⟩; have g3 := g2.trans ⟨hu3, hf3⟩; have k := box2 (hu0.trans g3.upd fun _ _ h => h) hnv; have k0 := k 0; have k1 := k 1; have k2 := k 2; have hz3 := hu3.size) | (go_at_call 49; (refine (wPutTag base v3 _ re im _ (by omega) (by omega) ho3 (by simp [fld_length]; omega) (by omega)).mono ?_); rintro en w4 ⟨v4, rfl, ho4, hu4, hf4⟩; have g4 := g3.trans ⟨hu4, hf4⟩; have m := box2 (hu0.trans g4.upd fun _ _ h => h) hnv; have m0 := m 0; have m1 := m 1; have m2 := m 2)); (try go_wp2_with fail); refine hK.out _ _ (by (try dsimp only); first | exact ⟨m0, m1, m2⟩ | exact ⟨k0, k1, k2⟩ | exact ⟨j0, j1, j2⟩ | exact ⟨c0, c1, c2⟩) (fun hHeld => ?_); clear hK K; (try simp only [Act.put, List.setIfInBounds_toArray, List.set_cons_zero, List.set_cons_succ]))
    (refine wpAnyH_ready (rs := [5]) (by kernel_rfl) (by simp) ?_; refine AllReadyH.cons (o := ?oo_1_5) ?hoo_1_5 ?hst_1_5 AllReadyH.nil; (case hoo_1_5 => (simp only [List.getElem?_toArray, List.getElem?_cons_succ, List.getElem?_cons_zero]; rfl)); intro K hK; go_simp; (first | (go_at_call 52; (refine (Put8 base v l 0 _ (by omega) (by omega) ho1 (by omega) hb1).mono ?_); rintro en w2 ⟨v2, rfl, ho2, hu2, hf2⟩; have g2 : Grow v _ v2 w2 := ⟨hu2, hf2⟩; have j := box2 (hu0.trans g2.upd fun _ _ h => h) hnv; have j0 := j 0; have j1 := j 1; have j2 := j 2; have hz2 := hu2.size) | (go_at_call 57; (refine (Put16 base v2 _ size _ (by omega) (by omega) ho2 (by simp [fld_length]; omega) (by omega)).mono ?_); rintro en w3 ⟨v3, rfl, ho3, hu3, hf3⟩; have g3 := g2.trans ⟨hu3, hf3⟩; have k := box2 (hu0.trans g3.upd fun _ _ h => h) hnv; have k0 := k 0; have k1 := k 1; have k2 := k 2; have hz3 := hu3.size) | (go_at_call 49; (refine (wPutTag base v3 _ re im _ (by omega) (by omega) ho3 (by simp [fld_length]; omega) (by omega)).mono ?_); rintro en w4 ⟨v4, rfl, ho4, hu4, hf4⟩; have g4 := g3.trans ⟨hu4, hf4⟩; have m := box2 (hu0.trans g4.upd fun _ _ h => h) hnv; have m0 := m 0; have m1 := m 1; have m2 := m 2)); (try go_wp2_with fail); refine hK.out _ _ (by (try dsimp only); first | exact ⟨m0, m1, m2⟩ | exact ⟨k0, k1, k2⟩ | exact ⟨j0, j1, j2⟩ | exact ⟨c0, c1, c2⟩) (fun hHeld => ?_); clear hK K; (try simp only [Act.put, List.setIfInBounds_toArray, List.set_cons_zero, List.set_cons_succ]))
    (refine wpAnyH_ready (rs := [8]) (by kernel_rfl) (by simp) ?_; refine AllReadyH.cons (o := ?oo_1_8) ?hoo_1_8 ?hst_1_8 AllReadyH.nil; (case hoo_1_8 => (simp only [List.getElem?_toArray, List.getElem?_cons_succ, List.getElem?_cons_zero]; rfl)); intro K hK; go_simp; (first | (go_at_call 52; (refine (Put8 base v l 0 _ (by omega) (by omega) ho1 (by omega) hb1).mono ?_); rintro en w2 ⟨v2, rfl, ho2, hu2, hf2⟩; have g2 : Grow v _ v2 w2 := ⟨hu2, hf2⟩; have j := box2 (hu0.trans g2.upd fun _ _ h => h) hnv; have j0 := j 0; have j1 := j 1; have j2 := j 2; have hz2 := hu2.size) | (go_at_call 57; (refine (Put16 base v2 _ size _ (by omega) (by omega) ho2 (by simp [fld_length]; omega) (by omega)).mono ?_); rintro en w3 ⟨v3, rfl, ho3, hu3, hf3⟩; have g3 := g2.trans ⟨hu3, hf3⟩; have k := box2 (hu0.trans g3.upd fun _ _ h => h) hnv; have k0 := k 0; have k1 := k 1; have k2 := k 2; have hz3 := hu3.size) | (go_at_call 49; (refine (wPutTag base v3 _ re im _ (by omega) (by omega) ho3 (by simp [fld_length]; omega) (by omega)).mono ?_); rintro en w4 ⟨v4, rfl, ho4, hu4, hf4⟩; have g4 := g3.trans ⟨hu4, hf4⟩; have m := box2 (hu0.trans g4.upd fun _ _ h => h) hnv; have m0 := m 0; have m1 := m 1; have m2 := m 2)); (try go_wp2_with fail); refine hK.out _ _ (by (try dsimp only); first | exact ⟨m0, m1, m2⟩ | exact ⟨k0, k1, k2⟩ | exact ⟨j0, j1, j2⟩ | exact ⟨c0, c1, c2⟩) (fun hHeld => ?_); clear hK K; (try simp only [Act.put, List.setIfInBounds_toArray, List.set_cons_zero, List.set_cons_succ]))
    (refine wpAnyH_take (i := 9) (oi := ?oi_1_9) (v := ?v_1_9) ?ho_1_9 ?hs_1_9 ?hf_1_9 ?hr_1_9 ?hQ_1_9 ?hy_1_9 ?hS_1_9 ?rest_1_9; (case hr_1_9 => kernel_rfl); (case hf_1_9 => kernel_rfl); (case hs_1_9 => kernel_rfl); (case ho_1_9 => (simp only [List.getElem?_toArray, List.getElem?_cons_succ, List.getElem?_cons_zero]; rfl)); (case hS_1_9 => assumption); (case hQ_1_9 => exact fun _ _ _ h => h); (case hy_1_9 => (refine Or.inl ⟨by rfl, ?_⟩; (intro w hSw; (try dsimp only at hSw); go_simp) <;> with_reducible rfl)); (try simp only [Act.put, List.setIfInBounds_toArray, List.set_cons_zero, List.set_cons_succ]))
    refine wpAnyH_done (by kernel_rfl) ?_ _
    go_wp2_with fail
    go_ret
    exact Grow.grew (Grow.left (Upd.alloc Non w _) (Grow.left (Upd.drew Non _) g4)) ho4
  · have hu0 : Upd (At v) (w.alloc (.cells #[.int .i64 size, .int .i64 re, .int .i64 im, .bool false, .bool true] 27)) (w.alloc (.cells #[.int .i64 size, .int .i64 re, .int .i64 im, .bool false, .bool true] 27)).drew := Upd.drew _ _
    have c := box2 hu0 hnv
    have c0 := c 0
    have c1 := c 1
    have c2 := c 2
    clear c
    have ho1 : Own (w.alloc (.cells #[.int .i64 size, .int .i64 re, .int .i64 im, .bool false, .bool true] 27)).drew base 5 v l := (hown.alloc _).drew
    have hb1 : base ≤ (w.alloc (.cells #[.int .i64 size, .int .i64 re, .int .i64 im, .bool false, .bool true] 27)).drew.heap.size := by simp; omega
    have e : l ++ putHd ⟨size, re, im, false, true⟩ = l ++ fld 2 1 ++ fld size 2 ++ fld re 4 ++ fld im 4 := by
      show l ++ (fld 2 1 ++ (fld size 2 ++ (fld re 4 ++ fld im 4))) = _
      simp only [List.append_assoc]
    rw [e]
    clear e
    replace hown := Lib.hid hown
    unfold hdV
    dsimp only
    go_enter Tryz.func53, Tryz.ntmps53
    go_wp2_with fail
    refine wp_region_held_drew (S := (fun w' => w'.cell? ⟨w.heap.size, 0, none⟩ = some (.int .i64 size) ∧ w'.cell? ⟨w.heap.size, 1, none⟩ = some (.int .i64 re) ∧ w'.cell? ⟨w.heap.size, 2, none⟩ = some (.int .i64 im))) (by kernel_rfl) (by (try dsimp only); first | exact ⟨m0, m1, m2⟩ | exact ⟨k0, k1, k2⟩ | exact ⟨j0, j1, j2⟩ | exact ⟨c0, c1, c2⟩) (fun hHeld => ?_)
    (refine wpAnyH_take (i := 0) (oi := ?oi_2_0) (v := ?v_2_0) ?ho_2_0 ?hs_2_0 ?hf_2_0 ?hr_2_0 ?hQ_2_0 ?hy_2_0 ?hS_2_0 ?rest_2_0; (case hr_2_0 => kernel_rfl); (case hf_2_0 => kernel_rfl); (case hs_2_0 => kernel_rfl); (case ho_2_0 => (simp only [List.getElem?_toArray, List.getElem?_cons_succ, List.getElem?_cons_zero]; rfl)); (case hS_2_0 => assumption); (case hQ_2_0 => exact fun _ _ _ h => h); (case hy_2_0 => (refine Or.inl ⟨by rfl, ?_⟩; (intro w hSw; (try dsimp only at hSw); go_simp) <;> with_reducible rfl)); (try simp only [Act.put, List.setIfInBounds_toArray, List.set_cons_zero, List.set_cons_succ]))
    (refine wpAnyH_take (i := 1) (oi := ?oi_2_1) (v := ?v_2_1) ?ho_2_1 ?hs_2_1 ?hf_2_1 ?hr_2_1 ?hQ_2_1 ?hy_2_1 ?hS_2_1 ?rest_2_1; (case hr_2_1 => kernel_rfl); (case hf_2_1 => kernel_rfl); (case hs_2_1 => kernel_rfl); (case ho_2_1 => (simp only [List.getElem?_toArray, List.getElem?_cons_succ, List.getElem?_cons_zero]; rfl)); (case hS_2_1 => assumption); (case hQ_2_1 => exact fun _ _ _ h => h); (case hy_2_1 => (refine Or.inl ⟨by rfl, ?_⟩; (intro w hSw; (try dsimp only at hSw); go_simp) <;> with_reducible rfl)); (try simp only [Act.put, List.setIfInBounds_toArray, List.set_cons_zero, List.set_cons_succ]))
    (refine wpAnyH_take (i := 3) (oi := ?oi_2_3) (v := ?v_2_3) ?ho_2_3 ?hs_2_3 ?hf_2_3 ?hr_2_3 ?hQ_2_3 ?hy_2_3 ?hS_2_3 ?rest_2_3; (case hr_2_3 => kernel_rfl); (case hf_2_3 => kernel_rfl); (case hs_2_3 => kernel_rfl); (case ho_2_3 => (simp only [List.getElem?_toArray, List.getElem?_cons_succ, List.getElem?_cons_zero]; rfl)); (case hS_2_3 => assumption); (case hQ_2_3 => exact fun _ _ _ h => h); (case hy_2_3 => (refine Or.inl ⟨by rfl, ?_⟩; (intro w hSw; (try dsimp only at hSw); go_simp) <;> with_reducible rfl)); (try simp only [Act.put, List.setIfInBounds_toArray, List.set_cons_zero, List.set_cons_succ]))
    (refine wpAnyH_take (i := 4) (oi := ?oi_2_4) (v := ?v_2_4) ?ho_2_4 ?hs_2_4 ?hf_2_4 ?hr_2_4 ?hQ_2_4 ?hy_2_4 ?hS_2_4 ?rest_2_4; (case hr_2_4 => kernel_rfl); (case hf_2_4 => kernel_rfl); (case hs_2_4 => kernel_rfl); (case ho_2_4 => (simp only [List.getElem?_toArray, List.getElem?_cons_succ, List.getElem?_cons_zero]; rfl)); (case hS_2_4 => assumption); (case hQ_2_4 => exact fun _ _ _ h => h); (case hy_2_4 => (refine Or.inl ⟨by rfl, ?_⟩; (intro w hSw; (try dsimp only at hSw); go_simp) <;> with_reducible rfl)); (try simp only [Act.put, List.setIfInBounds_toArray, List.set_cons_zero, List.set_cons_succ]))
    (refine wpAnyH_take (i := 6) (oi := ?oi_2_6) (v := ?v_2_6) ?ho_2_6 ?hs_2_6 ?hf_2_6 ?hr_2_6 ?hQ_2_6 ?hy_2_6 ?hS_2_6 ?rest_2_6; (case hr_2_6 => kernel_rfl); (case hf_2_6 => kernel_rfl); (case hs_2_6 => kernel_rfl); (case ho_2_6 => (simp only [List.getElem?_toArray, List.getElem?_cons_succ, List.getElem?_cons_zero]; rfl)); (case hS_2_6 => assumption); (case hQ_2_6 => exact fun _ _ _ h => h); (case hy_2_6 => (refine Or.inl ⟨by rfl, ?_⟩; (intro w hSw; (try dsimp only at hSw); go_simp) <;> with_reducible rfl)); (try simp only [Act.put, List.setIfInBounds_toArray, List.set_cons_zero, List.set_cons_succ]))
    (refine wpAnyH_take (i := 7) (oi := ?oi_2_7) (v := ?v_2_7) ?ho_2_7 ?hs_2_7 ?hf_2_7 ?hr_2_7 ?hQ_2_7 ?hy_2_7 ?hS_2_7 ?rest_2_7; (case hr_2_7 => kernel_rfl); (case hf_2_7 => kernel_rfl); (case hs_2_7 => kernel_rfl); (case ho_2_7 => (simp only [List.getElem?_toArray, List.getElem?_cons_succ, List.getElem?_cons_zero]; rfl)); (case hS_2_7 => assumption); (case hQ_2_7 => exact fun _ _ _ h => h); (case hy_2_7 => (refine Or.inl ⟨by rfl, ?_⟩; (intro w hSw; (try dsimp only at hSw); go_simp) <;> with_reducible rfl)); (try simp only [Act.put, List.setIfInBounds_toArray, List.set_cons_zero, List.set_cons_succ]))
    (refine wpAnyH_ready (rs := [2]) (by kernel_rfl) (by simp) ?_; refine AllReadyH.cons (o := ?oo_2_2) ?hoo_2_2 ?hst_2_2 AllReadyH.nil; (case hoo_2_2 => (simp only [List.getElem?_toArray, List.getElem?_cons_succ, List.getElem?_cons_zero]; rfl)); intro K hK; go_simp; (first | (go_at_call 52; (refine (Put8 base v l 2 _ (by omega) (by omega) ho1 (by omega) hb1).mono ?_); rintro en w2 ⟨v2, rfl, ho2, hu2, hf2⟩; have g2 : Grow v _ v2 w2 := ⟨hu2, hf2⟩; have j := box2 (hu0.trans g2.upd fun _ _ h => h) hnv; have j0 := j 0; have j1 := j 1; have j2 := j 2; have hz2 := hu2.size) | (go_at_call 57; (refine (Put16 base v2 _ size _ (by omega) (by omega) ho2 (by simp [fld_length]; omega) (by omega)).mono ?_); rintro en w3 ⟨v3, rfl, ho3, hu3, hf3⟩; have g3 := g2.trans ⟨hu3, hf3⟩; have k := box2 (hu0.trans g3.upd fun _ _ h => h) hnv; have k0 := k 0; have k1 := k 1; have k2 := k 2; have hz3 := hu3.size) | (go_at_call 49; (refine (wPutTag base v3 _ re im _ (by omega) (by omega) ho3 (by simp [fld_length]; omega) (by omega)).mono ?_); rintro en w4 ⟨v4, rfl, ho4, hu4, hf4⟩; have g4 := g3.trans ⟨hu4, hf4⟩; have m := box2 (hu0.trans g4.upd fun _ _ h => h) hnv; have m0 := m 0; have m1 := m 1; have m2 := m 2)); (try go_wp2_with fail); refine hK.out _ _ (by (try dsimp only); first | exact ⟨m0, m1, m2⟩ | exact ⟨k0, k1, k2⟩ | exact ⟨j0, j1, j2⟩ | exact ⟨c0, c1, c2⟩) (fun hHeld => ?_); clear hK K; (try simp only [Act.put, List.setIfInBounds_toArray, List.set_cons_zero, List.set_cons_succ]))
    (refine wpAnyH_ready (rs := [5]) (by kernel_rfl) (by simp) ?_; refine AllReadyH.cons (o := ?oo_2_5) ?hoo_2_5 ?hst_2_5 AllReadyH.nil; (case hoo_2_5 => (simp only [List.getElem?_toArray, List.getElem?_cons_succ, List.getElem?_cons_zero]; rfl)); intro K hK; go_simp; (first | (go_at_call 52; (refine (Put8 base v l 2 _ (by omega) (by omega) ho1 (by omega) hb1).mono ?_); rintro en w2 ⟨v2, rfl, ho2, hu2, hf2⟩; have g2 : Grow v _ v2 w2 := ⟨hu2, hf2⟩; have j := box2 (hu0.trans g2.upd fun _ _ h => h) hnv; have j0 := j 0; have j1 := j 1; have j2 := j 2; have hz2 := hu2.size) | (go_at_call 57; (refine (Put16 base v2 _ size _ (by omega) (by omega) ho2 (by simp [fld_length]; omega) (by omega)).mono ?_); rintro en w3 ⟨v3, rfl, ho3, hu3, hf3⟩; have g3 := g2.trans ⟨hu3, hf3⟩; have k := box2 (hu0.trans g3.upd fun _ _ h => h) hnv; have k0 := k 0; have k1 := k 1; have k2 := k 2; have hz3 := hu3.size) | (go_at_call 49; (refine (wPutTag base v3 _ re im _ (by omega) (by omega) ho3 (by simp [fld_length]; omega) (by omega)).mono ?_); rintro en w4 ⟨v4, rfl, ho4, hu4, hf4⟩; have g4 := g3.trans ⟨hu4, hf4⟩; have m := box2 (hu0.trans g4.upd fun _ _ h => h) hnv; have m0 := m 0; have m1 := m 1; have m2 := m 2)); (try go_wp2_with fail); refine hK.out _ _ (by (try dsimp only); first | exact ⟨m0, m1, m2⟩ | exact ⟨k0, k1, k2⟩ | exact ⟨j0, j1, j2⟩ | exact ⟨c0, c1, c2⟩) (fun hHeld => ?_); clear hK K; (try simp only [Act.put, List.setIfInBounds_toArray, List.set_cons_zero, List.set_cons_succ]))
    (refine wpAnyH_ready (rs := [8]) (by kernel_rfl) (by simp) ?_; refine AllReadyH.cons (o := ?oo_2_8) ?hoo_2_8 ?hst_2_8 AllReadyH.nil; (case hoo_2_8 => (simp only [List.getElem?_toArray, List.getElem?_cons_succ, List.getElem?_cons_zero]; rfl)); intro K hK; go_simp; (first | (go_at_call 52; (refine (Put8 base v l 2 _ (by omega) (by omega) ho1 (by omega) hb1).mono ?_); rintro en w2 ⟨v2, rfl, ho2, hu2, hf2⟩; have g2 : Grow v _ v2 w2 := ⟨hu2, hf2⟩; have j := box2 (hu0.trans g2.upd fun _ _ h => h) hnv; have j0 := j 0; have j1 := j 1; have j2 := j 2; have hz2 := hu2.size) | (go_at_call 57; (refine (Put16 base v2 _ size _ (by omega) (by omega) ho2 (by simp [fld_length]; omega) (by omega)).mono ?_); rintro en w3 ⟨v3, rfl, ho3, hu3, hf3⟩; have g3 := g2.trans ⟨hu3, hf3⟩; have k := box2 (hu0.trans g3.upd fun _ _ h => h) hnv; have k0 := k 0; have k1 := k 1; have k2 := k 2; have hz3 := hu3.size) | (go_at_call 49; (refine (wPutTag base v3 _ re im _ (by omega) (by omega) ho3 (by simp [fld_length]; omega) (by omega)).mono ?_); rintro en w4 ⟨v4, rfl, ho4, hu4, hf4⟩; have g4 := g3.trans ⟨hu4, hf4⟩; have m := box2 (hu0.trans g4.upd fun _ _ h => h) hnv; have m0 := m 0; have m1 := m 1; have m2 := m 2)); (try go_wp2_with fail); refine hK.out _ _ (by (try dsimp only); first | exact ⟨m0, m1, m2⟩ | exact ⟨k0, k1, k2⟩ | exact ⟨j0, j1, j2⟩ | exact ⟨c0, c1, c2⟩) (fun hHeld => ?_); clear hK K; (try simp only [Act.put, List.setIfInBounds_toArray, List.set_cons_zero, List.set_cons_succ]))
    (refine wpAnyH_take (i := 9) (oi := ?oi_2_9) (v := ?v_2_9) ?ho_2_9 ?hs_2_9 ?hf_2_9 ?hr_2_9 ?hQ_2_9 ?hy_2_9 ?hS_2_9 ?rest_2_9; (case hr_2_9 => kernel_rfl); (case hf_2_9 => kernel_rfl); (case hs_2_9 => kernel_rfl); (case ho_2_9 => (simp only [List.getElem?_toArray, List.getElem?_cons_succ, List.getElem?_cons_zero]; rfl)); (case hS_2_9 => assumption); (case hQ_2_9 => exact fun _ _ _ h => h); (case hy_2_9 => (refine Or.inl ⟨by rfl, ?_⟩; (intro w hSw; (try dsimp only at hSw); go_simp) <;> with_reducible rfl)); (try simp only [Act.put, List.setIfInBounds_toArray, List.set_cons_zero, List.set_cons_succ]))
    refine wpAnyH_done (by kernel_rfl) ?_ _
    go_wp2_with fail
    go_ret
    exact Grow.grew (Grow.left (Upd.alloc Non w _) (Grow.left (Upd.drew Non _) g4)) ho4
  · have hu0 : Upd (At v) (w.alloc (.cells #[.int .i64 size, .int .i64 re, .int .i64 im, .bool true, .bool false] 27)) (w.alloc (.cells #[.int .i64 size, .int .i64 re, .int .i64 im, .bool true, .bool false] 27)).drew := Upd.drew _ _
    have c := box2 hu0 hnv
    have c0 := c 0
    have c1 := c 1
    have c2 := c 2
    clear c
    have ho1 : Own (w.alloc (.cells #[.int .i64 size, .int .i64 re, .int .i64 im, .bool true, .bool false] 27)).drew base 5 v l := (hown.alloc _).drew
    have hb1 : base ≤ (w.alloc (.cells #[.int .i64 size, .int .i64 re, .int .i64 im, .bool true, .bool false] 27)).drew.heap.size := by simp; omega
    have e : l ++ putHd ⟨size, re, im, true, false⟩ = l ++ fld 1 1 ++ fld size 2 ++ fld re 4 ++ fld im 4 := by
      show l ++ (fld 1 1 ++ (fld size 2 ++ (fld re 4 ++ fld im 4))) = _
      simp only [List.append_assoc]
    rw [e]
    clear e
    replace hown := Lib.hid hown
    unfold hdV
    dsimp only
    go_enter Tryz.func53, Tryz.ntmps53
    go_wp2_with fail
    refine wp_region_held_drew (S := (fun w' => w'.cell? ⟨w.heap.size, 0, none⟩ = some (.int .i64 size) ∧ w'.cell? ⟨w.heap.size, 1, none⟩ = some (.int .i64 re) ∧ w'.cell? ⟨w.heap.size, 2, none⟩ = some (.int .i64 im))) (by kernel_rfl) (by (try dsimp only); first | exact ⟨m0, m1, m2⟩ | exact ⟨k0, k1, k2⟩ | exact ⟨j0, j1, j2⟩ | exact ⟨c0, c1, c2⟩) (fun hHeld => ?_)
    (refine wpAnyH_take (i := 0) (oi := ?oi_3_0) (v := ?v_3_0) ?ho_3_0 ?hs_3_0 ?hf_3_0 ?hr_3_0 ?hQ_3_0 ?hy_3_0 ?hS_3_0 ?rest_3_0; (case hr_3_0 => kernel_rfl); (case hf_3_0 => kernel_rfl); (case hs_3_0 => kernel_rfl); (case ho_3_0 => (simp only [List.getElem?_toArray, List.getElem?_cons_succ, List.getElem?_cons_zero]; rfl)); (case hS_3_0 => assumption); (case hQ_3_0 => exact fun _ _ _ h => h); (case hy_3_0 => (refine Or.inl ⟨by rfl, ?_⟩; (intro w hSw; (try dsimp only at hSw); go_simp) <;> with_reducible rfl)); (try simp only [Act.put, List.setIfInBounds_toArray, List.set_cons_zero, List.set_cons_succ]))
    (refine wpAnyH_take (i := 1) (oi := ?oi_3_1) (v := ?v_3_1) ?ho_3_1 ?hs_3_1 ?hf_3_1 ?hr_3_1 ?hQ_3_1 ?hy_3_1 ?hS_3_1 ?rest_3_1; (case hr_3_1 => kernel_rfl); (case hf_3_1 => kernel_rfl); (case hs_3_1 => kernel_rfl); (case ho_3_1 => (simp only [List.getElem?_toArray, List.getElem?_cons_succ, List.getElem?_cons_zero]; rfl)); (case hS_3_1 => assumption); (case hQ_3_1 => exact fun _ _ _ h => h); (case hy_3_1 => (refine Or.inl ⟨by rfl, ?_⟩; (intro w hSw; (try dsimp only at hSw); go_simp) <;> with_reducible rfl)); (try simp only [Act.put, List.setIfInBounds_toArray, List.set_cons_zero, List.set_cons_succ]))
    (refine wpAnyH_take (i := 3) (oi := ?oi_3_3) (v := ?v_3_3) ?ho_3_3 ?hs_3_3 ?hf_3_3 ?hr_3_3 ?hQ_3_3 ?hy_3_3 ?hS_3_3 ?rest_3_3; (case hr_3_3 => kernel_rfl); (case hf_3_3 => kernel_rfl); (case hs_3_3 => kernel_rfl); (case ho_3_3 => (simp only [List.getElem?_toArray, List.getElem?_cons_succ, List.getElem?_cons_zero]; rfl)); (case hS_3_3 => assumption); (case hQ_3_3 => exact fun _ _ _ h => h); (case hy_3_3 => (refine Or.inl ⟨by rfl, ?_⟩; (intro w hSw; (try dsimp only at hSw); go_simp) <;> with_reducible rfl)); (try simp only [Act.put, List.setIfInBounds_toArray, List.set_cons_zero, List.set_cons_succ]))
    (refine wpAnyH_take (i := 4) (oi := ?oi_3_4) (v := ?v_3_4) ?ho_3_4 ?hs_3_4 ?hf_3_4 ?hr_3_4 ?hQ_3_4 ?hy_3_4 ?hS_3_4 ?rest_3_4; (case hr_3_4 => kernel_rfl); (case hf_3_4 => kernel_rfl); (case hs_3_4 => kernel_rfl); (case ho_3_4 => (simp only [List.getElem?_toArray, List.getElem?_cons_succ, List.getElem?_cons_zero]; rfl)); (case hS_3_4 => assumption); (case hQ_3_4 => exact fun _ _ _ h => h); (case hy_3_4 => (refine Or.inl ⟨by rfl, ?_⟩; (intro w hSw; (try dsimp only at hSw); go_simp) <;> with_reducible rfl)); (try simp only [Act.put, List.setIfInBounds_toArray, List.set_cons_zero, List.set_cons_succ]))
    (refine wpAnyH_take (i := 6) (oi := ?oi_3_6) (v := ?v_3_6) ?ho_3_6 ?hs_3_6 ?hf_3_6 ?hr_3_6 ?hQ_3_6 ?hy_3_6 ?hS_3_6 ?rest_3_6; (case hr_3_6 => kernel_rfl); (case hf_3_6 => kernel_rfl); (case hs_3_6 => kernel_rfl); (case ho_3_6 => (simp only [List.getElem?_toArray, List.getElem?_cons_succ, List.getElem?_cons_zero]; rfl)); (case hS_3_6 => assumption); (case hQ_3_6 => exact fun _ _ _ h => h); (case hy_3_6 => (refine Or.inl ⟨by rfl, ?_⟩; (intro w hSw; (try dsimp only at hSw); go_simp) <;> with_reducible rfl)); (try simp only [Act.put, List.setIfInBounds_toArray, List.set_cons_zero, List.set_cons_succ]))
    (refine wpAnyH_take (i := 7) (oi := ?oi_3_7) (v := ?v_3_7) ?ho_3_7 ?hs_3_7 ?hf_3_7 ?hr_3_7 ?hQ_3_7 ?hy_3_7 ?hS_3_7 ?rest_3_7; (case hr_3_7 => kernel_rfl); (case hf_3_7 => kernel_rfl); (case hs_3_7 => kernel_rfl); (case ho_3_7 => (simp only [List.getElem?_toArray, List.getElem?_cons_succ, List.getElem?_cons_zero]; rfl)); (case hS_3_7 => assumption); (case hQ_3_7 => exact fun _ _ _ h => h); (case hy_3_7 => (refine Or.inl ⟨by rfl, ?_⟩; (intro w hSw; (try dsimp only at hSw); go_simp) <;> with_reducible rfl)); (try simp only [Act.put, List.setIfInBounds_toArray, List.set_cons_zero, List.set_cons_succ]))
    (refine wpAnyH_ready (rs := [2]) (by kernel_rfl) (by simp) ?_; refine AllReadyH.cons (o := ?oo_3_2) ?hoo_3_2 ?hst_3_2 AllReadyH.nil; (case hoo_3_2 => (simp only [List.getElem?_toArray, List.getElem?_cons_succ, List.getElem?_cons_zero]; rfl)); intro K hK; go_simp; (first | (go_at_call 52; (refine (Put8 base v l 1 _ (by omega) (by omega) ho1 (by omega) hb1).mono ?_); rintro en w2 ⟨v2, rfl, ho2, hu2, hf2⟩; have g2 : Grow v _ v2 w2 := ⟨hu2, hf2⟩; have j := box2 (hu0.trans g2.upd fun _ _ h => h) hnv; have j0 := j 0; have j1 := j 1; have j2 := j 2; have hz2 := hu2.size) | (go_at_call 57; (refine (Put16 base v2 _ size _ (by omega) (by omega) ho2 (by simp [fld_length]; omega) (by omega)).mono ?_); rintro en w3 ⟨v3, rfl, ho3, hu3, hf3⟩; have g3 := g2.trans ⟨hu3, hf3⟩; have k := box2 (hu0.trans g3.upd fun _ _ h => h) hnv; have k0 := k 0; have k1 := k 1; have k2 := k 2; have hz3 := hu3.size) | (go_at_call 49; (refine (wPutTag base v3 _ re im _ (by omega) (by omega) ho3 (by simp [fld_length]; omega) (by omega)).mono ?_); rintro en w4 ⟨v4, rfl, ho4, hu4, hf4⟩; have g4 := g3.trans ⟨hu4, hf4⟩; have m := box2 (hu0.trans g4.upd fun _ _ h => h) hnv; have m0 := m 0; have m1 := m 1; have m2 := m 2)); (try go_wp2_with fail); refine hK.out _ _ (by (try dsimp only); first | exact ⟨m0, m1, m2⟩ | exact ⟨k0, k1, k2⟩ | exact ⟨j0, j1, j2⟩ | exact ⟨c0, c1, c2⟩) (fun hHeld => ?_); clear hK K; (try simp only [Act.put, List.setIfInBounds_toArray, List.set_cons_zero, List.set_cons_succ]))
    (refine wpAnyH_ready (rs := [5]) (by kernel_rfl) (by simp) ?_; refine AllReadyH.cons (o := ?oo_3_5) ?hoo_3_5 ?hst_3_5 AllReadyH.nil; (case hoo_3_5 => (simp only [List.getElem?_toArray, List.getElem?_cons_succ, List.getElem?_cons_zero]; rfl)); intro K hK; go_simp; (first | (go_at_call 52; (refine (Put8 base v l 1 _ (by omega) (by omega) ho1 (by omega) hb1).mono ?_); rintro en w2 ⟨v2, rfl, ho2, hu2, hf2⟩; have g2 : Grow v _ v2 w2 := ⟨hu2, hf2⟩; have j := box2 (hu0.trans g2.upd fun _ _ h => h) hnv; have j0 := j 0; have j1 := j 1; have j2 := j 2; have hz2 := hu2.size) | (go_at_call 57; (refine (Put16 base v2 _ size _ (by omega) (by omega) ho2 (by simp [fld_length]; omega) (by omega)).mono ?_); rintro en w3 ⟨v3, rfl, ho3, hu3, hf3⟩; have g3 := g2.trans ⟨hu3, hf3⟩; have k := box2 (hu0.trans g3.upd fun _ _ h => h) hnv; have k0 := k 0; have k1 := k 1; have k2 := k 2; have hz3 := hu3.size) | (go_at_call 49; (refine (wPutTag base v3 _ re im _ (by omega) (by omega) ho3 (by simp [fld_length]; omega) (by omega)).mono ?_); rintro en w4 ⟨v4, rfl, ho4, hu4, hf4⟩; have g4 := g3.trans ⟨hu4, hf4⟩; have m := box2 (hu0.trans g4.upd fun _ _ h => h) hnv; have m0 := m 0; have m1 := m 1; have m2 := m 2)); (try go_wp2_with fail); refine hK.out _ _ (by (try dsimp only); first | exact ⟨m0, m1, m2⟩ | exact ⟨k0, k1, k2⟩ | exact ⟨j0, j1, j2⟩ | exact ⟨c0, c1, c2⟩) (fun hHeld => ?_); clear hK K; (try simp only [Act.put, List.setIfInBounds_toArray, List.set_cons_zero, List.set_cons_succ]))
    (refine wpAnyH_ready (rs := [8]) (by kernel_rfl) (by simp) ?_; refine AllReadyH.cons (o := ?oo_3_8) ?hoo_3_8 ?hst_3_8 AllReadyH.nil; (case hoo_3_8 => (simp only [List.getElem?_toArray, List.getElem?_cons_succ, List.getElem?_cons_zero]; rfl)); intro K hK; go_simp; (first | (go_at_call 52; (refine (Put8 base v l 1 _ (by omega) (by omega) ho1 (by omega) hb1).mono ?_); rintro en w2 ⟨v2, rfl, ho2, hu2, hf2⟩; have g2 : Grow v _ v2 w2 := ⟨hu2, hf2⟩; have j := box2 (hu0.trans g2.upd fun _ _ h => h) hnv; have j0 := j 0; have j1 := j 1; have j2 := j 2; have hz2 := hu2.size) | (go_at_call 57; (refine (Put16 base v2 _ size _ (by omega) (by omega) ho2 (by simp [fld_length]; omega) (by omega)).mono ?_); rintro en w3 ⟨v3, rfl, ho3, hu3, hf3⟩; have g3 := g2.trans ⟨hu3, hf3⟩; have k := box2 (hu0.trans g3.upd fun _ _ h => h) hnv; have k0 := k 0; have k1 := k 1; have k2 := k 2; have hz3 := hu3.size) | (go_at_call 49; (refine (wPutTag base v3 _ re im _ (by omega) (by omega) ho3 (by simp [fld_length]; omega) (by omega)).mono ?_); rintro en w4 ⟨v4, rfl, ho4, hu4, hf4⟩; have g4 := g3.trans ⟨hu4, hf4⟩; have m := box2 (hu0.trans g4.upd fun _ _ h => h) hnv; have m0 := m 0; have m1 := m 1; have m2 := m 2)); (try go_wp2_with fail); refine hK.out _ _ (by (try dsimp only); first | exact ⟨m0, m1, m2⟩ | exact ⟨k0, k1, k2⟩ | exact ⟨j0, j1, j2⟩ | exact ⟨c0, c1, c2⟩) (fun hHeld => ?_); clear hK K; (try simp only [Act.put, List.setIfInBounds_toArray, List.set_cons_zero, List.set_cons_succ]))
    (refine wpAnyH_take (i := 9) (oi := ?oi_3_9) (v := ?v_3_9) ?ho_3_9 ?hs_3_9 ?hf_3_9 ?hr_3_9 ?hQ_3_9 ?hy_3_9 ?hS_3_9 ?rest_3_9; (case hr_3_9 => kernel_rfl); (case hf_3_9 => kernel_rfl); (case hs_3_9 => kernel_rfl); (case ho_3_9 => (simp only [List.getElem?_toArray, List.getElem?_cons_succ, List.getElem?_cons_zero]; rfl)); (case hS_3_9 => assumption); (case hQ_3_9 => exact fun _ _ _ h => h); (case hy_3_9 => (refine Or.inl ⟨by rfl, ?_⟩; (intro w hSw; (try dsimp only at hSw); go_simp) <;> with_reducible rfl)); (try simp only [Act.put, List.setIfInBounds_toArray, List.set_cons_zero, List.set_cons_succ]))
    refine wpAnyH_done (by kernel_rfl) ?_ _
    go_wp2_with fail
    go_ret
    exact Grow.grew (Grow.left (Upd.alloc Non w _) (Grow.left (Upd.drew Non _) g4)) ho4
  · have hu0 : Upd (At v) (w.alloc (.cells #[.int .i64 size, .int .i64 re, .int .i64 im, .bool true, .bool true] 27)) (w.alloc (.cells #[.int .i64 size, .int .i64 re, .int .i64 im, .bool true, .bool true] 27)).drew := Upd.drew _ _
    have c := box2 hu0 hnv
    have c0 := c 0
    have c1 := c 1
    have c2 := c 2
    clear c
    have ho1 : Own (w.alloc (.cells #[.int .i64 size, .int .i64 re, .int .i64 im, .bool true, .bool true] 27)).drew base 5 v l := (hown.alloc _).drew
    have hb1 : base ≤ (w.alloc (.cells #[.int .i64 size, .int .i64 re, .int .i64 im, .bool true, .bool true] 27)).drew.heap.size := by simp; omega
    have e : l ++ putHd ⟨size, re, im, true, true⟩ = l ++ fld 3 1 ++ fld size 2 ++ fld re 4 ++ fld im 4 := by
      show l ++ (fld 3 1 ++ (fld size 2 ++ (fld re 4 ++ fld im 4))) = _
      simp only [List.append_assoc]
    rw [e]
    clear e
    replace hown := Lib.hid hown
    unfold hdV
    dsimp only
    go_enter Tryz.func53, Tryz.ntmps53
    go_wp2_with fail
    refine wp_region_held_drew (S := (fun w' => w'.cell? ⟨w.heap.size, 0, none⟩ = some (.int .i64 size) ∧ w'.cell? ⟨w.heap.size, 1, none⟩ = some (.int .i64 re) ∧ w'.cell? ⟨w.heap.size, 2, none⟩ = some (.int .i64 im))) (by kernel_rfl) (by (try dsimp only); first | exact ⟨m0, m1, m2⟩ | exact ⟨k0, k1, k2⟩ | exact ⟨j0, j1, j2⟩ | exact ⟨c0, c1, c2⟩) (fun hHeld => ?_)
    (refine wpAnyH_take (i := 0) (oi := ?oi_4_0) (v := ?v_4_0) ?ho_4_0 ?hs_4_0 ?hf_4_0 ?hr_4_0 ?hQ_4_0 ?hy_4_0 ?hS_4_0 ?rest_4_0; (case hr_4_0 => kernel_rfl); (case hf_4_0 => kernel_rfl); (case hs_4_0 => kernel_rfl); (case ho_4_0 => (simp only [List.getElem?_toArray, List.getElem?_cons_succ, List.getElem?_cons_zero]; rfl)); (case hS_4_0 => assumption); (case hQ_4_0 => exact fun _ _ _ h => h); (case hy_4_0 => (refine Or.inl ⟨by rfl, ?_⟩; (intro w hSw; (try dsimp only at hSw); go_simp) <;> with_reducible rfl)); (try simp only [Act.put, List.setIfInBounds_toArray, List.set_cons_zero, List.set_cons_succ]))
    (refine wpAnyH_take (i := 1) (oi := ?oi_4_1) (v := ?v_4_1) ?ho_4_1 ?hs_4_1 ?hf_4_1 ?hr_4_1 ?hQ_4_1 ?hy_4_1 ?hS_4_1 ?rest_4_1; (case hr_4_1 => kernel_rfl); (case hf_4_1 => kernel_rfl); (case hs_4_1 => kernel_rfl); (case ho_4_1 => (simp only [List.getElem?_toArray, List.getElem?_cons_succ, List.getElem?_cons_zero]; rfl)); (case hS_4_1 => assumption); (case hQ_4_1 => exact fun _ _ _ h => h); (case hy_4_1 => (refine Or.inl ⟨by rfl, ?_⟩; (intro w hSw; (try dsimp only at hSw); go_simp) <;> with_reducible rfl)); (try simp only [Act.put, List.setIfInBounds_toArray, List.set_cons_zero, List.set_cons_succ]))
    (refine wpAnyH_take (i := 3) (oi := ?oi_4_3) (v := ?v_4_3) ?ho_4_3 ?hs_4_3 ?hf_4_3 ?hr_4_3 ?hQ_4_3 ?hy_4_3 ?hS_4_3 ?rest_4_3; (case hr_4_3 => kernel_rfl); (case hf_4_3 => kernel_rfl); (case hs_4_3 => kernel_rfl); (case ho_4_3 => (simp only [List.getElem?_toArray, List.getElem?_cons_succ, List.getElem?_cons_zero]; rfl)); (case hS_4_3 => assumption); (case hQ_4_3 => exact fun _ _ _ h => h); (case hy_4_3 => (refine Or.inl ⟨by rfl, ?_⟩; (intro w hSw; (try dsimp only at hSw); go_simp) <;> with_reducible rfl)); (try simp only [Act.put, List.setIfInBounds_toArray, List.set_cons_zero, List.set_cons_succ]))
    (refine wpAnyH_take (i := 4) (oi := ?oi_4_4) (v := ?v_4_4) ?ho_4_4 ?hs_4_4 ?hf_4_4 ?hr_4_4 ?hQ_4_4 ?hy_4_4 ?hS_4_4 ?rest_4_4; (case hr_4_4 => kernel_rfl); (case hf_4_4 => kernel_rfl); (case hs_4_4 => kernel_rfl); (case ho_4_4 => (simp only [List.getElem?_toArray, List.getElem?_cons_succ, List.getElem?_cons_zero]; rfl)); (case hS_4_4 => assumption); (case hQ_4_4 => exact fun _ _ _ h => h); (case hy_4_4 => (refine Or.inl ⟨by rfl, ?_⟩; (intro w hSw; (try dsimp only at hSw); go_simp) <;> with_reducible rfl)); (try simp only [Act.put, List.setIfInBounds_toArray, List.set_cons_zero, List.set_cons_succ]))
    (refine wpAnyH_take (i := 6) (oi := ?oi_4_6) (v := ?v_4_6) ?ho_4_6 ?hs_4_6 ?hf_4_6 ?hr_4_6 ?hQ_4_6 ?hy_4_6 ?hS_4_6 ?rest_4_6; (case hr_4_6 => kernel_rfl); (case hf_4_6 => kernel_rfl); (case hs_4_6 => kernel_rfl); (case ho_4_6 => (simp only [List.getElem?_toArray, List.getElem?_cons_succ, List.getElem?_cons_zero]; rfl)); (case hS_4_6 => assumption); (case hQ_4_6 => exact fun _ _ _ h => h); (case hy_4_6 => (refine Or.inl ⟨by rfl, ?_⟩; (intro w hSw; (try dsimp only at hSw); go_simp) <;> with_reducible rfl)); (try simp only [Act.put, List.setIfInBounds_toArray, List.set_cons_zero, List.set_cons_succ]))
    (refine wpAnyH_take (i := 7) (oi := ?oi_4_7) (v := ?v_4_7) ?ho_4_7 ?hs_4_7 ?hf_4_7 ?hr_4_7 ?hQ_4_7 ?hy_4_7 ?hS_4_7 ?rest_4_7; (case hr_4_7 => kernel_rfl); (case hf_4_7 => kernel_rfl); (case hs_4_7 => kernel_rfl); (case ho_4_7 => (simp only [List.getElem?_toArray, List.getElem?_cons_succ, List.getElem?_cons_zero]; rfl)); (case hS_4_7 => assumption); (case hQ_4_7 => exact fun _ _ _ h => h); (case hy_4_7 => (refine Or.inl ⟨by rfl, ?_⟩; (intro w hSw; (try dsimp only at hSw); go_simp) <;> with_reducible rfl)); (try simp only [Act.put, List.setIfInBounds_toArray, List.set_cons_zero, List.set_cons_succ]))
    (refine wpAnyH_ready (rs := [2]) (by kernel_rfl) (by simp) ?_; refine AllReadyH.cons (o := ?oo_4_2) ?hoo_4_2 ?hst_4_2 AllReadyH.nil; (case hoo_4_2 => (simp only [List.getElem?_toArray, List.getElem?_cons_succ, List.getElem?_cons_zero]; rfl)); intro K hK; go_simp; (first | (go_at_call 52; (refine (Put8 base v l 3 _ (by omega) (by omega) ho1 (by omega) hb1).mono ?_); rintro en w2 ⟨v2, rfl, ho2, hu2, hf2⟩; have g2 : Grow v _ v2 w2 := ⟨hu2, hf2⟩; have j := box2 (hu0.trans g2.upd fun _ _ h => h) hnv; have j0 := j 0; have j1 := j 1; have j2 := j 2; have hz2 := hu2.size) | (go_at_call 57; (refine (Put16 base v2 _ size _ (by omega) (by omega) ho2 (by simp [fld_length]; omega) (by omega)).mono ?_); rintro en w3 ⟨v3, rfl, ho3, hu3, hf3⟩; have g3 := g2.trans ⟨hu3, hf3⟩; have k := box2 (hu0.trans g3.upd fun _ _ h => h) hnv; have k0 := k 0; have k1 := k 1; have k2 := k 2; have hz3 := hu3.size) | (go_at_call 49; (refine (wPutTag base v3 _ re im _ (by omega) (by omega) ho3 (by simp [fld_length]; omega) (by omega)).mono ?_); rintro en w4 ⟨v4, rfl, ho4, hu4, hf4⟩; have g4 := g3.trans ⟨hu4, hf4⟩; have m := box2 (hu0.trans g4.upd fun _ _ h => h) hnv; have m0 := m 0; have m1 := m 1; have m2 := m 2)); (try go_wp2_with fail); refine hK.out _ _ (by (try dsimp only); first | exact ⟨m0, m1, m2⟩ | exact ⟨k0, k1, k2⟩ | exact ⟨j0, j1, j2⟩ | exact ⟨c0, c1, c2⟩) (fun hHeld => ?_); clear hK K; (try simp only [Act.put, List.setIfInBounds_toArray, List.set_cons_zero, List.set_cons_succ]))
    (refine wpAnyH_ready (rs := [5]) (by kernel_rfl) (by simp) ?_; refine AllReadyH.cons (o := ?oo_4_5) ?hoo_4_5 ?hst_4_5 AllReadyH.nil; (case hoo_4_5 => (simp only [List.getElem?_toArray, List.getElem?_cons_succ, List.getElem?_cons_zero]; rfl)); intro K hK; go_simp; (first | (go_at_call 52; (refine (Put8 base v l 3 _ (by omega) (by omega) ho1 (by omega) hb1).mono ?_); rintro en w2 ⟨v2, rfl, ho2, hu2, hf2⟩; have g2 : Grow v _ v2 w2 := ⟨hu2, hf2⟩; have j := box2 (hu0.trans g2.upd fun _ _ h => h) hnv; have j0 := j 0; have j1 := j 1; have j2 := j 2; have hz2 := hu2.size) | (go_at_call 57; (refine (Put16 base v2 _ size _ (by omega) (by omega) ho2 (by simp [fld_length]; omega) (by omega)).mono ?_); rintro en w3 ⟨v3, rfl, ho3, hu3, hf3⟩; have g3 := g2.trans ⟨hu3, hf3⟩; have k := box2 (hu0.trans g3.upd fun _ _ h => h) hnv; have k0 := k 0; have k1 := k 1; have k2 := k 2; have hz3 := hu3.size) | (go_at_call 49; (refine (wPutTag base v3 _ re im _ (by omega) (by omega) ho3 (by simp [fld_length]; omega) (by omega)).mono ?_); rintro en w4 ⟨v4, rfl, ho4, hu4, hf4⟩; have g4 := g3.trans ⟨hu4, hf4⟩; have m := box2 (hu0.trans g4.upd fun _ _ h => h) hnv; have m0 := m 0; have m1 := m 1; have m2 := m 2)); (try go_wp2_with fail); refine hK.out _ _ (by (try dsimp only); first | exact ⟨m0, m1, m2⟩ | exact ⟨k0, k1, k2⟩ | exact ⟨j0, j1, j2⟩ | exact ⟨c0, c1, c2⟩) (fun hHeld => ?_); clear hK K; (try simp only [Act.put, List.setIfInBounds_toArray, List.set_cons_zero, List.set_cons_succ]))
    (refine wpAnyH_ready (rs := [8]) (by kernel_rfl) (by simp) ?_; refine AllReadyH.cons (o := ?oo_4_8) ?hoo_4_8 ?hst_4_8 AllReadyH.nil; (case hoo_4_8 => (simp only [List.getElem?_toArray, List.getElem?_cons_succ, List.getElem?_cons_zero]; rfl)); intro K hK; go_simp; (first | (go_at_call 52; (refine (Put8 base v l 3 _ (by omega) (by omega) ho1 (by omega) hb1).mono ?_); rintro en w2 ⟨v2, rfl, ho2, hu2, hf2⟩; have g2 : Grow v _ v2 w2 := ⟨hu2, hf2⟩; have j := box2 (hu0.trans g2.upd fun _ _ h => h) hnv; have j0 := j 0; have j1 := j 1; have j2 := j 2; have hz2 := hu2.size) | (go_at_call 57; (refine (Put16 base v2 _ size _ (by omega) (by omega) ho2 (by simp [fld_length]; omega) (by omega)).mono ?_); rintro en w3 ⟨v3, rfl, ho3, hu3, hf3⟩; have g3 := g2.trans ⟨hu3, hf3⟩; have k := box2 (hu0.trans g3.upd fun _ _ h => h) hnv; have k0 := k 0; have k1 := k 1; have k2 := k 2; have hz3 := hu3.size) | (go_at_call 49; (refine (wPutTag base v3 _ re im _ (by omega) (by omega) ho3 (by simp [fld_length]; omega) (by omega)).mono ?_); rintro en w4 ⟨v4, rfl, ho4, hu4, hf4⟩; have g4 := g3.trans ⟨hu4, hf4⟩; have m := box2 (hu0.trans g4.upd fun _ _ h => h) hnv; have m0 := m 0; have m1 := m 1; have m2 := m 2)); (try go_wp2_with fail); refine hK.out _ _ (by (try dsimp only); first | exact ⟨m0, m1, m2⟩ | exact ⟨k0, k1, k2⟩ | exact ⟨j0, j1, j2⟩ | exact ⟨c0, c1, c2⟩) (fun hHeld => ?_); clear hK K; (try simp only [Act.put, List.setIfInBounds_toArray, List.set_cons_zero, List.set_cons_succ]))
    (refine wpAnyH_take (i := 9) (oi := ?oi_4_9) (v := ?v_4_9) ?ho_4_9 ?hs_4_9 ?hf_4_9 ?hr_4_9 ?hQ_4_9 ?hy_4_9 ?hS_4_9 ?rest_4_9; (case hr_4_9 => kernel_rfl); (case hf_4_9 => kernel_rfl); (case hs_4_9 => kernel_rfl); (case ho_4_9 => (simp only [List.getElem?_toArray, List.getElem?_cons_succ, List.getElem?_cons_zero]; rfl)); (case hS_4_9 => assumption); (case hQ_4_9 => exact fun _ _ _ h => h); (case hy_4_9 => (refine Or.inl ⟨by rfl, ?_⟩; (intro w hSw; (try dsimp only at hSw); go_simp) <;> with_reducible rfl)); (try simp only [Act.put, List.setIfInBounds_toArray, List.set_cons_zero, List.set_cons_succ]))
    refine wpAnyH_done (by kernel_rfl) ?_ _
    go_wp2_with fail
    go_ret
    exact Grow.grew (Grow.left (Upd.alloc Non w _) (Grow.left (Upd.drew Non _) g4)) ho4
end Go.Proofs.YtogekobpjjmnjaaGreat

namespace Go.Proofs.YtogekobpjjmnjaaGreat
open Go.RowKit Go.Amb
set_option linter.unusedVariables false
set_option linter.unusedSimpArgs false
set_option maxRecDepth 100000
theorem flat_snoc {α : Type} (f : α → List UInt8) (l : List α) (k : Nat) (h : k < l.length) : (l.take (k + 1)).flatMap f = (l.take k).flatMap f ++ f l[k] := by
  rw [List.take_add_one, List.getElem?_eq_getElem h, Option.toList_some, List.flatMap_append]; simp
theorem flat_take {α : Type} (f : α → List UInt8) (l : List α) (k : Nat) : ((l.take k).flatMap f).length ≤ (l.flatMap f).length := by
  conv => rhs; rw [← List.take_append_drop k l, List.flatMap_append, List.length_append]
  omega
set_option maxHeartbeats 1000000 in
theorem wPutTexts (base : Nat) (v : Value) (l : List UInt8) (tv : Value) (ts : List (List UInt8)) (w : World) (hT : Txts w tv ts) (htb : ∀ k, At tv k → k < base) (hok : txOk ts) (hown : Own w base 5 v l) (hlen : l.length + 68719800000 ≤ 140737488355328) (hb : base ≤ w.heap.size) :
    Calls Tryz.prog 54 #[v, tv] w (Grew base 5 v (l ++ putTxs ts) w) := by
  obtain ⟨a, c, rfl, hlc, hcm, hx⟩ := has1 hT
  replace hx := Lib.hid (fun k (hk : k < ts.length) => hx k (by rw [List.length_map]; exact hk) hk)
  simp only [List.getElem_map] at hx
  have hm := putTxs_most hok
  have hfl := flat_take (fun s => txtF s 4) ts
  have hsn := Lib.hid (flat_snoc (fun s => txtF s 4) ts)
  have hok2 := Lib.hid hok.2
  have hn := hok.1
  have e : l ++ putTxs ts = l ++ fld (ts.length : Int) 2 ++ ts.flatMap (fun s => txtF s 4) := by unfold putTxs; rw [List.append_assoc]
  have hm2 : 2 + (ts.flatMap (fun s => txtF s 4)).length ≤ 68719800000 := by unfold putTxs at hm; rw [List.length_append, fld_length] at hm; exact hm
  have hfin : Hid (∀ v' w', Grow v w v' w' → Own w' base 5 v' (l ++ fld (ts.length : Int) 2 ++ ts.flatMap (fun s => txtF s 4)) → Grew base 5 v (l ++ putTxs ts) w (.returned v') w') := Lib.hid (fun v' w' g ho => by rw [e]; exact g.grew ho)
  generalize Grew base 5 v (l ++ putTxs ts) w = PR at *
  unfold maxLen at hcm
  clear e hT hm hok
  replace hfl := Lib.hid hfl
  go_enter Tryz.func54, Tryz.ntmps54
  go_wp2_with fail
  refine (Put16 base v l (ts.length : Int) w (by omega) (by omega) hown (by omega) hb).mono ?_
  rintro en w1 ⟨v1, rfl, ho1, hu1, hf1⟩
  have g1 : Grow v w v1 w1 := ⟨hu1, hf1⟩
  clear hu1 hf1
  go_wp2_with fail
  go_loopw [0, 13] (fun bv iv wr => ∃ k : Nat, iv = .int .i64 (k : Int) ∧ k ≤ ts.length ∧ Own wr base 5 bv (l ++ fld (ts.length : Int) 2 ++ (ts.take k).flatMap (fun s => txtF s 4)) ∧ Grow v w bv wr) (fun _ iv _ => ts.length - (intOf iv).toNat)
  case atStart => exact ⟨0, rfl, Nat.zero_le _, by rw [List.take_zero, List.flatMap_nil, List.append_nil]; exact ho1, g1⟩
  case round =>
    clear ho1 g1
    obtain ⟨k, rfl, hk, ho, g⟩ := hrel
    by_cases hlt : k < ts.length
    · have hltI : (k : Int) < (ts.length : Int) := by omega
      have hk0 : (0 : Int) ≤ (k : Int) := by omega
      obtain ⟨gg, off, rfl, x0⟩ := hx.out k hlt
      have x1 := g.upd.cell x0 (fun h => by have h1 := htb gg rfl; have := own_ge hown h; dsimp only at this; omega)
      have h1 := hsn.out k hlt
      have h2 := hok2.out _ (List.getElem_mem hlt)
      have h3 := hfl.out k
      have hz := g.upd.size
      have hlen2 : (l ++ fld (ts.length : Int) 2 ++ (ts.take k).flatMap (fun s => txtF s 4)).length ≤ l.length + 68719800000 := by rw [List.length_append, List.length_append, fld_length]; omega
      have hlen3 : (l ++ fld (ts.length : Int) 2 ++ (ts.take k).flatMap (fun s => txtF s 4)).length + ts[k].length + 4 ≤ 140737488355328 := by
        have h4 := hfl.out (k + 1)
        rw [h1, List.length_append, txtF_len] at h4
        rw [List.length_append, List.length_append, fld_length]; omega
      have h5 := Lib.hid h1
      generalize ts[k] = s at *
      generalize (ts.take k).flatMap (fun s => txtF s 4) = A at *
      clear h1 h2 h3 x0
      go_wp2_with fail
      refine (PutText base u0 _ s wr ho hlen3 (by omega)).mono ?_
      rintro en w3 ⟨v3, rfl, ho3, hu3, hf3⟩
      have g3 := g.trans ⟨hu3, hf3⟩
      have ho4 : Own w3 base 5 v3 (l ++ fld (ts.length : Int) 2 ++ (ts.take (k + 1)).flatMap (fun s => txtF s 4)) := by rw [h5.out, ← List.append_assoc]; exact ho3
      clear ho ho3 hu3 hf3 g x1
      go_wp2_with fail
      go_roundw
      case rel => exact ⟨k + 1, by go_num, by omega, ho4, g3⟩
      case measure => simp [intOf]; omega
    · have hltI : ¬ (k : Int) < (ts.length : Int) := by omega
      obtain rfl : k = ts.length := by omega
      rw [List.take_length] at ho
      have hg := Lib.hid (hfin.out _ _ g ho)
      clear ho g
      go_wp2_with fail
      exact hg.out
end Go.Proofs.YtogekobpjjmnjaaGreat

namespace Go.Amb
open Go.RowKit
/-- A slice of structs: each element's cells. -/
theorem has_rows {α : Type} {f : α → List Value} {m : Nat} (hf : ∀ x, (f x).length = m) {w : World} {v : Value} {l : List α} (h : Has w m v l.length (l.flatMap f)) :
    ∃ a c, v = .slice a l.length c ∧ l.length ≤ c ∧ c ≤ maxLen ∧ ∀ k (hk : k < l.length), ∃ g off, a = some ⟨g, off, none⟩ ∧ ∀ j u, (f l[k])[j]? = some u → w.cell? ⟨g, off + k * m + j, none⟩ = some u := by
  obtain ⟨hl, a, c, rfl, hc, hm, hx⟩ := h
  refine ⟨a, c, rfl, hc, hm, fun k hk => ?_⟩
  obtain ⟨g, off, ha, hx2⟩ := hx.resolve_left (by omega)
  clear hx
  refine ⟨g, off, ha, fun j u hu => ?_⟩
  have hj : j < m := by rw [← hf l[k]]; exact (List.getElem?_eq_some_iff.1 hu).1
  have hfl := fl_get (L := l.map f) (m := m) (fun s hs => by obtain ⟨y, _, rfl⟩ := List.mem_map.1 hs; exact hf y) k j (by simpa using hk) hj
  rw [List.getElem_map, ← List.flatMap_def] at hfl
  have := hx2 (k * m + j) u (by rw [hfl]; exact hu)
  rwa [← Nat.add_assoc] at this
end Go.Amb
namespace Go.Proofs.YtogekobpjjmnjaaGreat
open Go.RowKit Go.Amb
set_option linter.unusedVariables false
set_option linter.unusedSimpArgs false
set_option maxRecDepth 100000
def lnC (x : Ln) : List Value := [.string ⟨x.object.toArray⟩, .int .i64 x.id, .bool x.latest, .int .i64 x.head.size, .int .i64 x.head.re, .int .i64 x.head.im, .bool x.head.gone, .bool x.head.null]
abbrev Lns (w : World) (v : Value) (l : List Ln) : Prop := Has w 8 v l.length (l.flatMap lnC)
def lnsV (tv : Value) (o : List UInt8) (id : Int) (more : Bool) : Value := .agg #[tv, .string ⟨o.toArray⟩, .int .i64 id, .bool more]
theorem PutTextF (base : Nat) (v : Value) (l s : List UInt8) (w : World) (hown : Own w base 5 v l) (hlen : l.length + s.length + 4 ≤ 140737488355328) (hb : base ≤ w.heap.size) :
    Calls Tryz.prog 50 #[v, .string ⟨s.toArray⟩] w (Grew base 5 v (l ++ txtF s 4) w) := PutText base v l s w hown hlen hb
set_option maxHeartbeats 4000000 in
theorem wPutLines (base : Nat) (v : Value) (l : List UInt8) (tv : Value) (ls : List Ln) (o : List UInt8) (id : Int) (more : Bool) (w : World) (hT : Lns w tv ls) (htb : ∀ k, At tv k → k < base) (hn : ls.length ≤ 65535) (hok : ∀ x ∈ ls, lnOk x) (hids : ∀ x ∈ ls, i64 x.id) (hid : i64 id) (hol : o.length ≤ 1048576)
    (hown : Own w base 5 v l) (hlen : l.length + 68730000000 ≤ 140737488355328) (hb : base ≤ w.heap.size) :
    Calls Tryz.prog 55 #[v, lnsV tv o id more] w (Grew base 5 v (l ++ putLns ls o id more) w) := by
  obtain ⟨a, c, rfl, hlc, hcm, hx⟩ := has_rows (f := lnC) (m := 8) (fun _ => rfl) hT
  have hm := flat_most putLn 1048600 ls (fun x hx => putLn_most (hok x hx))
  have hfl := Lib.hid (flat_take putLn ls)
  have hsn := Lib.hid (flat_snoc putLn ls)
  have e : l ++ putLns ls o id more = l ++ fld (ls.length : Int) 2 ++ ls.flatMap putLn ++ txtF o 4 ++ fld id 8 ++ truF more := by unfold putLns; simp only [List.append_assoc]
  have hfin : Hid (∀ v' w', Grow v w v' w' → Own w' base 5 v' (l ++ fld (ls.length : Int) 2 ++ ls.flatMap putLn ++ txtF o 4 ++ fld id 8 ++ truF more) → Grew base 5 v (l ++ putLns ls o id more) w (.returned v') w') := Lib.hid (fun v' w' g ho => by rw [e]; exact g.grew ho)
  generalize Grew base 5 v (l ++ putLns ls o id more) w = PR at *
  have hm2 : (ls.flatMap putLn).length ≤ 68720001000 := by
    have : ls.length * 1048600 ≤ 65535 * 1048600 := Nat.mul_le_mul_right _ hn
    omega
  unfold maxLen at hcm
  clear e hm
  replace hok := Lib.hid hok
  replace hids := Lib.hid hids
  have hnv : ¬ At v w.heap.size := fun h => by have := own_lt hown h; omega
  unfold lnsV
  have hc0 : (w.alloc (.cells #[.slice a ls.length c, .string ⟨o.toArray⟩, .int .i64 id, .bool more] 35)).cell? ⟨w.heap.size, 0, none⟩ = some (.slice a ls.length c) := (cells_of (heap_alloc_new w _)).1 0
  have ho0 : Own (w.alloc (.cells #[.slice a ls.length c, .string ⟨o.toArray⟩, .int .i64 id, .bool more] 35)) base 5 v l := hown.alloc _
  have hz0 : base ≤ (w.alloc (.cells #[.slice a ls.length c, .string ⟨o.toArray⟩, .int .i64 id, .bool more] 35)).heap.size := by simp; omega
  go_enter Tryz.func55, Tryz.ntmps55
  go_wp2_with fail
  refine (Put16 base v l (ls.length : Int) _ (by omega) (by omega) ho0 (by omega) hz0).mono ?_
  rintro en w1 ⟨v1, rfl, ho1, hu1, hf1⟩
  have g1 : Grow v (w.alloc (.cells #[.slice a ls.length c, .string ⟨o.toArray⟩, .int .i64 id, .bool more] 35)) v1 w1 := ⟨hu1, hf1⟩
  have y0 : w1.cell? ⟨w.heap.size, 0, none⟩ = some (.slice a ls.length c) := (box2 g1.upd hnv) 0
  have hx1 := Lib.hid hx
  clear hu1 hf1 hx
  go_wp2_with fail
  go_loopw [0, 15] (fun bv iv wr => ∃ k : Nat, iv = .int .i64 (k : Int) ∧ k ≤ ls.length ∧ Own wr base 5 bv (l ++ fld (ls.length : Int) 2 ++ (ls.take k).flatMap putLn) ∧ Grow v (w.alloc (.cells #[.slice a ls.length c, .string ⟨o.toArray⟩, .int .i64 id, .bool more] 35)) bv wr) (fun _ iv _ => ls.length - (intOf iv).toNat)
  case atStart => exact ⟨0, rfl, Nat.zero_le _, by rw [List.take_zero, List.flatMap_nil, List.append_nil]; exact ho1, g1⟩
  case round =>
    clear ho1 g1 y0
    obtain ⟨k, rfl, hk, ho, g⟩ := hrel
    have hz := g.upd.size
    by_cases hlt : k < ls.length
    · have hltI : (k : Int) < (ls.length : Int) := by omega
      have hk0 : (0 : Int) ≤ (k : Int) := by omega
      obtain ⟨gg, off, rfl, x0⟩ := hx1.out k hlt
      have hgv : ¬ At v gg := fun h => by have h1 := htb gg rfl; have := own_ge hown h; omega
      have hx2 := fun j u hu => (Upd.alloc (At v) w (.cells #[.slice (some ⟨gg, off, none⟩) ls.length c, .string ⟨o.toArray⟩, .int .i64 id, .bool more] 35)).trans g.upd (fun _ _ h => h) |>.cell (x0 j u hu) hgv
      have h1 := hsn.out k hlt
      have h2 := hok.out _ (List.getElem_mem hlt)
      have h3 := hfl.out k
      have h4 := hfl.out (k + 1)
      have h5 := hids.out _ (List.getElem_mem hlt)
      rw [h1, List.length_append] at h4
      clear x0
      replace h1 := Lib.hid h1
      generalize ls[k] = x at *
      have e1 : ∀ A : List UInt8, A ++ putLn x = A ++ txtF x.object 4 ++ fld x.id 8 ++ truF x.latest ++ putHd x.head := fun A => by unfold putLn; simp only [List.append_assoc]
      obtain ⟨ob, xid, lat, ⟨hsz, hre, him, hgo, hnu⟩⟩ := x
      obtain ⟨h2a, h2b⟩ := h2
      dsimp only at *
      have hAl : (l ++ fld (ls.length : Int) 2 ++ (ls.take k).flatMap putLn).length ≤ l.length + 68720001002 := by rw [List.length_append, List.length_append, fld_length]; omega
      generalize (ls.take k).flatMap putLn = A at *
      have z0 : wr.cell? ⟨gg, off + k * 8, none⟩ = some (.string ⟨ob.toArray⟩) := hx2 0 _ rfl
      have z1 : wr.cell? ⟨gg, off + k * 8 + 1, none⟩ = some (.int .i64 xid) := hx2 1 _ rfl
      have z2 : wr.cell? ⟨gg, off + k * 8 + 2, none⟩ = some (.bool lat) := hx2 2 _ rfl
      have z3 : wr.cell? ⟨gg, off + k * 8 + 3, none⟩ = some (.int .i64 hsz) := hx2 3 _ rfl
      have z4 : wr.cell? ⟨gg, off + k * 8 + 4, none⟩ = some (.int .i64 hre) := hx2 4 _ rfl
      have z5 : wr.cell? ⟨gg, off + k * 8 + 5, none⟩ = some (.int .i64 him) := hx2 5 _ rfl
      have z6 : wr.cell? ⟨gg, off + k * 8 + 6, none⟩ = some (.bool hgo) := hx2 6 _ rfl
      have z7 : wr.cell? ⟨gg, off + k * 8 + 7, none⟩ = some (.bool hnu) := hx2 7 _ rfl
      clear hx2
      have hbx := heap_alloc_new wr (.cells #[.string ⟨#[]⟩, .int .i64 0, .bool false, .int .i64 0, .int .i64 0, .int .i64 0, .bool false, .bool false] 96)
      have hsx : Hid ((Tryz.prog.info? 96).map (·.size) = some (#[.string ⟨ob.toArray⟩, .int .i64 xid, .bool lat, .int .i64 hsz, .int .i64 hre, .int .i64 him, .bool hgo, .bool hnu] : Array Value).size) := Lib.hid (by kernel_rfl)
      go_wp2_with ((with_reducible (show wpList _ _ _ (⟨_, Op.store _ _ _, _, _, _, _⟩ :: _) _ _)); refine storeB_list rfl 96 _ _ rfl wr.heap.size #[.string ⟨ob.toArray⟩, .int .i64 xid, .bool lat, .int .i64 hsz, .int .i64 hre, .int .i64 him, .bool hgo, .bool hnu] _ _ rfl rfl hbx rfl hsx.out (by simp [Value.oneCell']) ?_)
      intro w3 hb3 hu3
      have hU3 : Upd Non wr w3 := (Upd.alloc Non wr _).trans hu3 fun j hj h => by omega
      obtain ⟨N, hN⟩ : ∃ N, wr.heap.size = N := ⟨_, rfl⟩
      have hnb : ¬ At u0 N := fun h => by have := own_lt ho h; omega
      have hzw := hU3.size
      have ho3 : Own w3.drew base 5 u0 (l ++ fld (ls.length : Int) 2 ++ A) := (hU3.owns ho fun _ _ h => h).drew
      rw [hN] at hb3
      have hS : Hid (∀ w', Upd (At u0) w3.drew w' → w'.cell? ⟨N, 0, none⟩ = some (.string ⟨ob.toArray⟩) ∧ w'.cell? ⟨N, 1, none⟩ = some (.int .i64 xid) ∧ w'.cell? ⟨N, 2, none⟩ = some (.bool lat) ∧ w'.cell? ⟨N, 3, none⟩ = some (.int .i64 hsz) ∧ w'.cell? ⟨N, 4, none⟩ = some (.int .i64 hre) ∧ w'.cell? ⟨N, 5, none⟩ = some (.int .i64 him) ∧ w'.cell? ⟨N, 6, none⟩ = some (.bool hgo) ∧ w'.cell? ⟨N, 7, none⟩ = some (.bool hnu)) := Lib.hid (fun w' hu => by
        have h := cells_of (hu.heap ((Upd.drew Non w3).heap hb3 fun h => h) hnb)
        exact ⟨h.1 0, h.1 1, h.1 2, h.1 3, h.1 4, h.1 5, h.1 6, h.1 7⟩)
      have gg3 := g.right (hU3.trans (Upd.drew Non w3) fun _ _ h => h)
      have c3 := hS.out _ (Upd.refl _ _)
      have g3 : Grow u0 w3.drew u0 w3.drew := Grow.refl _ _
      have hz3 : w3.heap.size ≤ w3.drew.heap.size := Nat.le_refl _
      have hzz := hz
      rw [World.size_alloc] at hzz
      have hk1 := h1.out
      replace g := Lib.hid g
      clear z0 z1 z2 z3 z4 z5 z6 z7 hbx hsx hb3 hu3 ho h3
      go_wp2_with fail
      refine wp_region_held_drew (S := (fun w' => w'.cell? ⟨N, 0, none⟩ = some (.string ⟨ob.toArray⟩) ∧ w'.cell? ⟨N, 1, none⟩ = some (.int .i64 xid) ∧ w'.cell? ⟨N, 2, none⟩ = some (.bool lat) ∧ w'.cell? ⟨N, 3, none⟩ = some (.int .i64 hsz) ∧ w'.cell? ⟨N, 4, none⟩ = some (.int .i64 hre) ∧ w'.cell? ⟨N, 5, none⟩ = some (.int .i64 him) ∧ w'.cell? ⟨N, 6, none⟩ = some (.bool hgo) ∧ w'.cell? ⟨N, 7, none⟩ = some (.bool hnu))) (by kernel_rfl) (by (try dsimp only); exact c3) (fun hHeld => ?_)
      (refine wpAnyH_take (i := 0) (oi := ?oi_1_0) (v := ?v_1_0) ?ho_1_0 ?hs_1_0 ?hf_1_0 ?hr_1_0 ?hQ_1_0 ?hy_1_0 ?hS_1_0 ?rest_1_0; (case hr_1_0 => kernel_rfl); (case hf_1_0 => kernel_rfl); (case hs_1_0 => kernel_rfl); (case ho_1_0 => (simp only [List.getElem?_toArray, List.getElem?_cons_succ, List.getElem?_cons_zero]; rfl)); (case hS_1_0 => assumption); (case hQ_1_0 => exact fun _ _ _ h => h); (case hy_1_0 => (refine Or.inl ⟨by rfl, ?_⟩; (intro w hSw; (try dsimp only at hSw); go_simp) <;> with_reducible rfl)); (try simp only [Act.put, List.setIfInBounds_toArray, List.set_cons_zero, List.set_cons_succ]))
      (refine wpAnyH_take (i := 1) (oi := ?oi_1_1) (v := ?v_1_1) ?ho_1_1 ?hs_1_1 ?hf_1_1 ?hr_1_1 ?hQ_1_1 ?hy_1_1 ?hS_1_1 ?rest_1_1; (case hr_1_1 => kernel_rfl); (case hf_1_1 => kernel_rfl); (case hs_1_1 => kernel_rfl); (case ho_1_1 => (simp only [List.getElem?_toArray, List.getElem?_cons_succ, List.getElem?_cons_zero]; rfl)); (case hS_1_1 => assumption); (case hQ_1_1 => exact fun _ _ _ h => h); (case hy_1_1 => (refine Or.inl ⟨by rfl, ?_⟩; (intro w hSw; (try dsimp only at hSw); go_simp) <;> with_reducible rfl)); (try simp only [Act.put, List.setIfInBounds_toArray, List.set_cons_zero, List.set_cons_succ]))
      (refine wpAnyH_take (i := 2) (oi := ?oi_1_2) (v := ?v_1_2) ?ho_1_2 ?hs_1_2 ?hf_1_2 ?hr_1_2 ?hQ_1_2 ?hy_1_2 ?hS_1_2 ?rest_1_2; (case hr_1_2 => kernel_rfl); (case hf_1_2 => kernel_rfl); (case hs_1_2 => kernel_rfl); (case ho_1_2 => (simp only [List.getElem?_toArray, List.getElem?_cons_succ, List.getElem?_cons_zero]; rfl)); (case hS_1_2 => assumption); (case hQ_1_2 => exact fun _ _ _ h => h); (case hy_1_2 => (refine Or.inl ⟨by rfl, ?_⟩; (intro w hSw; (try dsimp only at hSw); go_simp) <;> with_reducible rfl)); (try simp only [Act.put, List.setIfInBounds_toArray, List.set_cons_zero, List.set_cons_succ]))
      (refine wpAnyH_take (i := 4) (oi := ?oi_1_4) (v := ?v_1_4) ?ho_1_4 ?hs_1_4 ?hf_1_4 ?hr_1_4 ?hQ_1_4 ?hy_1_4 ?hS_1_4 ?rest_1_4; (case hr_1_4 => kernel_rfl); (case hf_1_4 => kernel_rfl); (case hs_1_4 => kernel_rfl); (case ho_1_4 => (simp only [List.getElem?_toArray, List.getElem?_cons_succ, List.getElem?_cons_zero]; rfl)); (case hS_1_4 => assumption); (case hQ_1_4 => exact fun _ _ _ h => h); (case hy_1_4 => (refine Or.inl ⟨by rfl, ?_⟩; (intro w hSw; (try dsimp only at hSw); go_simp) <;> with_reducible rfl)); (try simp only [Act.put, List.setIfInBounds_toArray, List.set_cons_zero, List.set_cons_succ]))
      (refine wpAnyH_take (i := 5) (oi := ?oi_1_5) (v := ?v_1_5) ?ho_1_5 ?hs_1_5 ?hf_1_5 ?hr_1_5 ?hQ_1_5 ?hy_1_5 ?hS_1_5 ?rest_1_5; (case hr_1_5 => kernel_rfl); (case hf_1_5 => kernel_rfl); (case hs_1_5 => kernel_rfl); (case ho_1_5 => (simp only [List.getElem?_toArray, List.getElem?_cons_succ, List.getElem?_cons_zero]; rfl)); (case hS_1_5 => assumption); (case hQ_1_5 => exact fun _ _ _ h => h); (case hy_1_5 => (refine Or.inl ⟨by rfl, ?_⟩; (intro w hSw; (try dsimp only at hSw); go_simp) <;> with_reducible rfl)); (try simp only [Act.put, List.setIfInBounds_toArray, List.set_cons_zero, List.set_cons_succ]))
      (refine wpAnyH_take (i := 7) (oi := ?oi_1_7) (v := ?v_1_7) ?ho_1_7 ?hs_1_7 ?hf_1_7 ?hr_1_7 ?hQ_1_7 ?hy_1_7 ?hS_1_7 ?rest_1_7; (case hr_1_7 => kernel_rfl); (case hf_1_7 => kernel_rfl); (case hs_1_7 => kernel_rfl); (case ho_1_7 => (simp only [List.getElem?_toArray, List.getElem?_cons_succ, List.getElem?_cons_zero]; rfl)); (case hS_1_7 => assumption); (case hQ_1_7 => exact fun _ _ _ h => h); (case hy_1_7 => (refine Or.inl ⟨by rfl, ?_⟩; (intro w hSw; (try dsimp only at hSw); go_simp) <;> with_reducible rfl)); (try simp only [Act.put, List.setIfInBounds_toArray, List.set_cons_zero, List.set_cons_succ]))
      (refine wpAnyH_take (i := 8) (oi := ?oi_1_8) (v := ?v_1_8) ?ho_1_8 ?hs_1_8 ?hf_1_8 ?hr_1_8 ?hQ_1_8 ?hy_1_8 ?hS_1_8 ?rest_1_8; (case hr_1_8 => kernel_rfl); (case hf_1_8 => kernel_rfl); (case hs_1_8 => kernel_rfl); (case ho_1_8 => (simp only [List.getElem?_toArray, List.getElem?_cons_succ, List.getElem?_cons_zero]; rfl)); (case hS_1_8 => assumption); (case hQ_1_8 => exact fun _ _ _ h => h); (case hy_1_8 => (refine Or.inl ⟨by rfl, ?_⟩; (intro w hSw; (try dsimp only at hSw); go_simp) <;> with_reducible rfl)); (try simp only [Act.put, List.setIfInBounds_toArray, List.set_cons_zero, List.set_cons_succ]))
      (refine wpAnyH_take (i := 10) (oi := ?oi_1_10) (v := ?v_1_10) ?ho_1_10 ?hs_1_10 ?hf_1_10 ?hr_1_10 ?hQ_1_10 ?hy_1_10 ?hS_1_10 ?rest_1_10; (case hr_1_10 => kernel_rfl); (case hf_1_10 => kernel_rfl); (case hs_1_10 => kernel_rfl); (case ho_1_10 => (simp only [List.getElem?_toArray, List.getElem?_cons_succ, List.getElem?_cons_zero]; rfl)); (case hS_1_10 => assumption); (case hQ_1_10 => exact fun _ _ _ h => h); (case hy_1_10 => (refine Or.inl ⟨by rfl, ?_⟩; (intro w hSw; (try dsimp only at hSw); go_simp) <;> with_reducible rfl)); (try simp only [Act.put, List.setIfInBounds_toArray, List.set_cons_zero, List.set_cons_succ]))
      (refine wpAnyH_take (i := 11) (oi := ?oi_1_11) (v := ?v_1_11) ?ho_1_11 ?hs_1_11 ?hf_1_11 ?hr_1_11 ?hQ_1_11 ?hy_1_11 ?hS_1_11 ?rest_1_11; (case hr_1_11 => kernel_rfl); (case hf_1_11 => kernel_rfl); (case hs_1_11 => kernel_rfl); (case ho_1_11 => (simp only [List.getElem?_toArray, List.getElem?_cons_succ, List.getElem?_cons_zero]; rfl)); (case hS_1_11 => assumption); (case hQ_1_11 => exact fun _ _ _ h => h); (case hy_1_11 => (refine Or.inl ⟨by rfl, ?_⟩; (intro w hSw; (try dsimp only at hSw); go_simp) <;> with_reducible rfl)); (try simp only [Act.put, List.setIfInBounds_toArray, List.set_cons_zero, List.set_cons_succ]))
      (refine wpAnyH_ready (rs := [3]) (by kernel_rfl) (by simp) ?_; refine AllReadyH.cons (o := ?oo_1_3) ?hoo_1_3 ?hst_1_3 AllReadyH.nil; (case hoo_1_3 => (simp only [List.getElem?_toArray, List.getElem?_cons_succ, List.getElem?_cons_zero]; rfl)); intro K hK; go_simp; ((go_at_call 50; (refine (PutTextF base u0 _ ob _ ho3 (by simp only [List.length_append, fld_length, txtF_len, truF_len, putHd_len]; omega) (by omega)).mono ?_); rintro en w4 ⟨v4, rfl, ho4, hu4, hf4⟩; have g4 := g3.trans ⟨hu4, hf4⟩; have c4 := hS.out _ g4.upd; have hz4 := hu4.size)); (try go_wp2_with fail); refine hK.out _ _ (by (try dsimp only); exact c4) (fun hHeld => ?_); clear hK K; (try simp only [Act.put, List.setIfInBounds_toArray, List.set_cons_zero, List.set_cons_succ]))
      (refine wpAnyH_ready (rs := [6]) (by kernel_rfl) (by simp) ?_; refine AllReadyH.cons (o := ?oo_1_6) ?hoo_1_6 ?hst_1_6 AllReadyH.nil; (case hoo_1_6 => (simp only [List.getElem?_toArray, List.getElem?_cons_succ, List.getElem?_cons_zero]; rfl)); intro K hK; go_simp; ((go_at_call 51; (refine (Put64 base v4 _ xid _ h5.1 h5.2 ho4 (by simp only [List.length_append, fld_length, txtF_len, truF_len, putHd_len]; omega) (by omega)).mono ?_); rintro en w5 ⟨v5, rfl, ho5, hu5, hf5⟩; have g5 := g4.trans ⟨hu5, hf5⟩; have c5 := hS.out _ g5.upd; have hz5 := hu5.size)); (try go_wp2_with fail); refine hK.out _ _ (by (try dsimp only); exact c5) (fun hHeld => ?_); clear hK K; (try simp only [Act.put, List.setIfInBounds_toArray, List.set_cons_zero, List.set_cons_succ]))
      (refine wpAnyH_ready (rs := [9]) (by kernel_rfl) (by simp) ?_; refine AllReadyH.cons (o := ?oo_1_9) ?hoo_1_9 ?hst_1_9 AllReadyH.nil; (case hoo_1_9 => (simp only [List.getElem?_toArray, List.getElem?_cons_succ, List.getElem?_cons_zero]; rfl)); intro K hK; go_simp; ((go_at_call 56; (refine (wPutTruth base v5 _ lat _ ho5 (by simp only [List.length_append, fld_length, txtF_len, truF_len, putHd_len]; omega) (by omega)).mono ?_); rintro en w6 ⟨v6, rfl, ho6, hu6, hf6⟩; have g6 := g5.trans ⟨hu6, hf6⟩; have c6 := hS.out _ g6.upd; have hz6 := hu6.size)); (try go_wp2_with fail); refine hK.out _ _ (by (try dsimp only); exact c6) (fun hHeld => ?_); clear hK K; (try simp only [Act.put, List.setIfInBounds_toArray, List.set_cons_zero, List.set_cons_succ]))
      (refine wpAnyH_ready (rs := [12]) (by kernel_rfl) (by simp) ?_; refine AllReadyH.cons (o := ?oo_1_12) ?hoo_1_12 ?hst_1_12 AllReadyH.nil; (case hoo_1_12 => (simp only [List.getElem?_toArray, List.getElem?_cons_succ, List.getElem?_cons_zero]; rfl)); intro K hK; go_simp; ((go_at_call 53; (refine (wPutHead base v6 _ ⟨hsz, hre, him, hgo, hnu⟩ _ h2b ho6 (by simp only [List.length_append, fld_length, txtF_len, truF_len, putHd_len]; omega) (by omega)).mono ?_); rintro en w7 ⟨v7, rfl, ho7, hu7, hf7⟩; have g7 := g6.trans ⟨hu7, hf7⟩; have c7 := hS.out _ g7.upd; have hz7 := hu7.size)); (try go_wp2_with fail); refine hK.out _ _ (by (try dsimp only); exact c7) (fun hHeld => ?_); clear hK K; (try simp only [Act.put, List.setIfInBounds_toArray, List.set_cons_zero, List.set_cons_succ]))
      (refine wpAnyH_take (i := 13) (oi := ?oi_1_13) (v := ?v_1_13) ?ho_1_13 ?hs_1_13 ?hf_1_13 ?hr_1_13 ?hQ_1_13 ?hy_1_13 ?hS_1_13 ?rest_1_13; (case hr_1_13 => kernel_rfl); (case hf_1_13 => kernel_rfl); (case hs_1_13 => kernel_rfl); (case ho_1_13 => (simp only [List.getElem?_toArray, List.getElem?_cons_succ, List.getElem?_cons_zero]; rfl)); (case hS_1_13 => assumption); (case hQ_1_13 => exact fun _ _ _ h => h); (case hy_1_13 => (refine Or.inl ⟨by rfl, ?_⟩; (intro w hSw; (try dsimp only at hSw); go_simp) <;> with_reducible rfl)); (try simp only [Act.put, List.setIfInBounds_toArray, List.set_cons_zero, List.set_cons_succ]))
      refine wpAnyH_done (by kernel_rfl) ?_ _
      have g8 := gg3.trans g7
      have ho8 : Own w7 base 5 v7 (l ++ fld (ls.length : Int) 2 ++ (ls.take (k + 1)).flatMap putLn) := by
        rw [h1.out, ← List.append_assoc, e1]
        exact ho7
      clear ho3 ho4 ho5 ho6 ho7 hu4 hu5 hu6 hu7 hf4 hf5 hf6 hf7 c3 c4 c5 c6 c7 g3 g4 g5 g6 g7 gg3 hS
      go_wp2_with fail
      go_roundw
      case rel => exact ⟨k + 1, by go_num, by omega, ho8, g8⟩
      case measure => simp [intOf]; omega
    · have hltI : ¬ (k : Int) < (ls.length : Int) := by omega
      obtain rfl : k = ls.length := by omega
      rw [List.take_length] at ho
      obtain ⟨N, hN⟩ : ∃ N, w.heap.size = N := ⟨_, rfl⟩
      have g0 := g.right (Upd.drew Non wr)
      have ho3 := ho.drew
      have hS : Hid (∀ w', Upd (At v) (w.alloc (.cells #[.slice a ls.length c, .string ⟨o.toArray⟩, .int .i64 id, .bool more] 35)) w' → w'.cell? ⟨N, 1, none⟩ = some (.string ⟨o.toArray⟩) ∧ w'.cell? ⟨N, 2, none⟩ = some (.int .i64 id) ∧ w'.cell? ⟨N, 3, none⟩ = some (.bool more)) := Lib.hid (fun w' hu => by
        have h := box2 hu hnv
        rw [hN] at h
        exact ⟨h 1, h 2, h 3⟩)
      have c3 := hS.out _ g0.upd
      have g3 := g0
      have hzz := hz
      rw [World.size_alloc] at hzz
      have hz3 : wr.heap.size ≤ wr.drew.heap.size := Nat.le_refl _
      have hfl3 := hm2
      generalize ls.flatMap putLn = A at *
      rw [hN]
      replace g := Lib.hid g
      clear ho g0
      go_wp2_with fail
      refine wp_region_held_drew (S := (fun w' => w'.cell? ⟨N, 1, none⟩ = some (.string ⟨o.toArray⟩) ∧ w'.cell? ⟨N, 2, none⟩ = some (.int .i64 id) ∧ w'.cell? ⟨N, 3, none⟩ = some (.bool more))) (by kernel_rfl) (by (try dsimp only); exact c3) (fun hHeld => ?_)
      (refine wpAnyH_take (i := 0) (oi := ?oi_2_0) (v := ?v_2_0) ?ho_2_0 ?hs_2_0 ?hf_2_0 ?hr_2_0 ?hQ_2_0 ?hy_2_0 ?hS_2_0 ?rest_2_0; (case hr_2_0 => kernel_rfl); (case hf_2_0 => kernel_rfl); (case hs_2_0 => kernel_rfl); (case ho_2_0 => (simp only [List.getElem?_toArray, List.getElem?_cons_succ, List.getElem?_cons_zero]; rfl)); (case hS_2_0 => assumption); (case hQ_2_0 => exact fun _ _ _ h => h); (case hy_2_0 => (refine Or.inl ⟨by rfl, ?_⟩; (intro w hSw; (try dsimp only at hSw); go_simp) <;> with_reducible rfl)); (try simp only [Act.put, List.setIfInBounds_toArray, List.set_cons_zero, List.set_cons_succ]))
      (refine wpAnyH_take (i := 1) (oi := ?oi_2_1) (v := ?v_2_1) ?ho_2_1 ?hs_2_1 ?hf_2_1 ?hr_2_1 ?hQ_2_1 ?hy_2_1 ?hS_2_1 ?rest_2_1; (case hr_2_1 => kernel_rfl); (case hf_2_1 => kernel_rfl); (case hs_2_1 => kernel_rfl); (case ho_2_1 => (simp only [List.getElem?_toArray, List.getElem?_cons_succ, List.getElem?_cons_zero]; rfl)); (case hS_2_1 => assumption); (case hQ_2_1 => exact fun _ _ _ h => h); (case hy_2_1 => (refine Or.inl ⟨by rfl, ?_⟩; (intro w hSw; (try dsimp only at hSw); go_simp) <;> with_reducible rfl)); (try simp only [Act.put, List.setIfInBounds_toArray, List.set_cons_zero, List.set_cons_succ]))
      (refine wpAnyH_take (i := 2) (oi := ?oi_2_2) (v := ?v_2_2) ?ho_2_2 ?hs_2_2 ?hf_2_2 ?hr_2_2 ?hQ_2_2 ?hy_2_2 ?hS_2_2 ?rest_2_2; (case hr_2_2 => kernel_rfl); (case hf_2_2 => kernel_rfl); (case hs_2_2 => kernel_rfl); (case ho_2_2 => (simp only [List.getElem?_toArray, List.getElem?_cons_succ, List.getElem?_cons_zero]; rfl)); (case hS_2_2 => assumption); (case hQ_2_2 => exact fun _ _ _ h => h); (case hy_2_2 => (refine Or.inl ⟨by rfl, ?_⟩; (intro w hSw; (try dsimp only at hSw); go_simp) <;> with_reducible rfl)); (try simp only [Act.put, List.setIfInBounds_toArray, List.set_cons_zero, List.set_cons_succ]))
      (refine wpAnyH_take (i := 4) (oi := ?oi_2_4) (v := ?v_2_4) ?ho_2_4 ?hs_2_4 ?hf_2_4 ?hr_2_4 ?hQ_2_4 ?hy_2_4 ?hS_2_4 ?rest_2_4; (case hr_2_4 => kernel_rfl); (case hf_2_4 => kernel_rfl); (case hs_2_4 => kernel_rfl); (case ho_2_4 => (simp only [List.getElem?_toArray, List.getElem?_cons_succ, List.getElem?_cons_zero]; rfl)); (case hS_2_4 => assumption); (case hQ_2_4 => exact fun _ _ _ h => h); (case hy_2_4 => (refine Or.inl ⟨by rfl, ?_⟩; (intro w hSw; (try dsimp only at hSw); go_simp) <;> with_reducible rfl)); (try simp only [Act.put, List.setIfInBounds_toArray, List.set_cons_zero, List.set_cons_succ]))
      (refine wpAnyH_take (i := 5) (oi := ?oi_2_5) (v := ?v_2_5) ?ho_2_5 ?hs_2_5 ?hf_2_5 ?hr_2_5 ?hQ_2_5 ?hy_2_5 ?hS_2_5 ?rest_2_5; (case hr_2_5 => kernel_rfl); (case hf_2_5 => kernel_rfl); (case hs_2_5 => kernel_rfl); (case ho_2_5 => (simp only [List.getElem?_toArray, List.getElem?_cons_succ, List.getElem?_cons_zero]; rfl)); (case hS_2_5 => assumption); (case hQ_2_5 => exact fun _ _ _ h => h); (case hy_2_5 => (refine Or.inl ⟨by rfl, ?_⟩; (intro w hSw; (try dsimp only at hSw); go_simp) <;> with_reducible rfl)); (try simp only [Act.put, List.setIfInBounds_toArray, List.set_cons_zero, List.set_cons_succ]))
      (refine wpAnyH_take (i := 7) (oi := ?oi_2_7) (v := ?v_2_7) ?ho_2_7 ?hs_2_7 ?hf_2_7 ?hr_2_7 ?hQ_2_7 ?hy_2_7 ?hS_2_7 ?rest_2_7; (case hr_2_7 => kernel_rfl); (case hf_2_7 => kernel_rfl); (case hs_2_7 => kernel_rfl); (case ho_2_7 => (simp only [List.getElem?_toArray, List.getElem?_cons_succ, List.getElem?_cons_zero]; rfl)); (case hS_2_7 => assumption); (case hQ_2_7 => exact fun _ _ _ h => h); (case hy_2_7 => (refine Or.inl ⟨by rfl, ?_⟩; (intro w hSw; (try dsimp only at hSw); go_simp) <;> with_reducible rfl)); (try simp only [Act.put, List.setIfInBounds_toArray, List.set_cons_zero, List.set_cons_succ]))
      (refine wpAnyH_take (i := 8) (oi := ?oi_2_8) (v := ?v_2_8) ?ho_2_8 ?hs_2_8 ?hf_2_8 ?hr_2_8 ?hQ_2_8 ?hy_2_8 ?hS_2_8 ?rest_2_8; (case hr_2_8 => kernel_rfl); (case hf_2_8 => kernel_rfl); (case hs_2_8 => kernel_rfl); (case ho_2_8 => (simp only [List.getElem?_toArray, List.getElem?_cons_succ, List.getElem?_cons_zero]; rfl)); (case hS_2_8 => assumption); (case hQ_2_8 => exact fun _ _ _ h => h); (case hy_2_8 => (refine Or.inl ⟨by rfl, ?_⟩; (intro w hSw; (try dsimp only at hSw); go_simp) <;> with_reducible rfl)); (try simp only [Act.put, List.setIfInBounds_toArray, List.set_cons_zero, List.set_cons_succ]))
      (refine wpAnyH_ready (rs := [3]) (by kernel_rfl) (by simp) ?_; refine AllReadyH.cons (o := ?oo_2_3) ?hoo_2_3 ?hst_2_3 AllReadyH.nil; (case hoo_2_3 => (simp only [List.getElem?_toArray, List.getElem?_cons_succ, List.getElem?_cons_zero]; rfl)); intro K hK; go_simp; ((go_at_call 50; (refine (PutTextF base u0 _ o _ ho3 (by simp only [List.length_append, fld_length, txtF_len, truF_len, putHd_len]; omega) (by omega)).mono ?_); rintro en w4 ⟨v4, rfl, ho4, hu4, hf4⟩; have g4 := g3.trans ⟨hu4, hf4⟩; have c4 := hS.out _ g4.upd; have hz4 := hu4.size)); (try go_wp2_with fail); refine hK.out _ _ (by (try dsimp only); exact c4) (fun hHeld => ?_); clear hK K; (try simp only [Act.put, List.setIfInBounds_toArray, List.set_cons_zero, List.set_cons_succ]))
      (refine wpAnyH_ready (rs := [6]) (by kernel_rfl) (by simp) ?_; refine AllReadyH.cons (o := ?oo_2_6) ?hoo_2_6 ?hst_2_6 AllReadyH.nil; (case hoo_2_6 => (simp only [List.getElem?_toArray, List.getElem?_cons_succ, List.getElem?_cons_zero]; rfl)); intro K hK; go_simp; ((go_at_call 51; (refine (Put64 base v4 _ id _ hid.1 hid.2 ho4 (by simp only [List.length_append, fld_length, txtF_len, truF_len, putHd_len]; omega) (by omega)).mono ?_); rintro en w5 ⟨v5, rfl, ho5, hu5, hf5⟩; have g5 := g4.trans ⟨hu5, hf5⟩; have c5 := hS.out _ g5.upd; have hz5 := hu5.size)); (try go_wp2_with fail); refine hK.out _ _ (by (try dsimp only); exact c5) (fun hHeld => ?_); clear hK K; (try simp only [Act.put, List.setIfInBounds_toArray, List.set_cons_zero, List.set_cons_succ]))
      (refine wpAnyH_ready (rs := [9]) (by kernel_rfl) (by simp) ?_; refine AllReadyH.cons (o := ?oo_2_9) ?hoo_2_9 ?hst_2_9 AllReadyH.nil; (case hoo_2_9 => (simp only [List.getElem?_toArray, List.getElem?_cons_succ, List.getElem?_cons_zero]; rfl)); intro K hK; go_simp; ((go_at_call 56; (refine (wPutTruth base v5 _ more _ ho5 (by simp only [List.length_append, fld_length, txtF_len, truF_len, putHd_len]; omega) (by omega)).mono ?_); rintro en w6 ⟨v6, rfl, ho6, hu6, hf6⟩; have g6 := g5.trans ⟨hu6, hf6⟩; have c6 := hS.out _ g6.upd; have hz6 := hu6.size)); (try go_wp2_with fail); refine hK.out _ _ (by (try dsimp only); exact c6) (fun hHeld => ?_); clear hK K; (try simp only [Act.put, List.setIfInBounds_toArray, List.set_cons_zero, List.set_cons_succ]))
      (refine wpAnyH_take (i := 10) (oi := ?oi_2_10) (v := ?v_2_10) ?ho_2_10 ?hs_2_10 ?hf_2_10 ?hr_2_10 ?hQ_2_10 ?hy_2_10 ?hS_2_10 ?rest_2_10; (case hr_2_10 => kernel_rfl); (case hf_2_10 => kernel_rfl); (case hs_2_10 => kernel_rfl); (case ho_2_10 => (simp only [List.getElem?_toArray, List.getElem?_cons_succ, List.getElem?_cons_zero]; rfl)); (case hS_2_10 => assumption); (case hQ_2_10 => exact fun _ _ _ h => h); (case hy_2_10 => (refine Or.inl ⟨by rfl, ?_⟩; (intro w hSw; (try dsimp only at hSw); go_simp) <;> with_reducible rfl)); (try simp only [Act.put, List.setIfInBounds_toArray, List.set_cons_zero, List.set_cons_succ]))
      refine wpAnyH_done (by kernel_rfl) ?_ _
      have g8 := Grow.left (Upd.alloc Non w _) g6
      have hg := Lib.hid (hfin.out _ _ g8 ho6)
      clear ho3 ho4 ho5 ho6 hu4 hu5 hu6 hf4 hf5 hf6 c3 c4 c5 c6 g3 g4 g5 g6 hS g8
      go_wp2_with fail
      exact hg.out
end Go.Proofs.YtogekobpjjmnjaaGreat
