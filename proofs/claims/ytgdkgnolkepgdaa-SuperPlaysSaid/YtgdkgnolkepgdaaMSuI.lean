/- The walk over super.Find (printed by gen/mkfind11.py). -/
import Derived.Test.YtgdkgnolkepgdaaMSuH
namespace Go.Proofs.Ytgdkgnolkepgdaa
set_option maxRecDepth 100000
open Go.RowKit Go.Amb Go.Shelf
set_option linter.unusedVariables false
set_option linter.unusedSimpArgs false
attribute [local go_sem ↓] Go.wp_at_zero Go.wp_at_succ

/-- The best of the first sectors. -/
def bst (d : Dk) : Nat → Sp × Int × Bool
  | 0 => (Sp.none, 0, false)
  | j + 1 => if (readR (d.reads j)).2 = 0 ∧ ((bst d j).2.2 = false ∨ (bst d j).1.gen < (readR (d.reads j)).1.gen) then ((readR (d.reads j)).1, j, true) else bst d j
theorem find_no0 {d : Dk} (h : d.within 0 ≠ 0) : findR d = (Sp.none, 0, d.within 0) := by unfold findR; rw [if_pos h]
theorem find_no1 {d : Dk} (h0 : d.within 0 = 0) (h : d.within 1 ≠ 0) : findR d = (Sp.none, 0, d.within 1) := by unfold findR; rw [if_neg (by simp [h0]), if_pos h]
theorem find_bst {d : Dk} (h0 : d.within 0 = 0) (h1 : d.within 1 = 0) : findR d = if (bst d 2).2.2 = true then ((bst d 2).1, (bst d 2).2.1, 0) else (Sp.none, 0, 4) := by
  have e0 : d.reads ((0 : Nat) : Int) = d.has 0 := if_pos h0
  have e1 : d.reads ((1 : Nat) : Int) = d.has 1 := if_pos h1
  unfold findR
  rw [if_neg (by simp [h0]), if_neg (by simp [h1])]
  simp only [bst, e0, e1]
  generalize readR (d.has 0) = a
  generalize readR (d.has 1) = b
  by_cases ha : a.2 = 0
  · by_cases hb : b.2 = 0
    · by_cases hc : a.1.gen < b.1.gen
      · simp [ha, hb, hc]
      · simp [ha, hb, hc]
    · simp [ha, hb]
  · by_cases hb : b.2 = 0
    · simp [ha, hb]
    · simp [ha, hb]
def fdC (x : Sp × Int × Bool) : Array Value := #[.int .i64 x.1.gen, .int .i64 x.1.root, .int .i64 x.1.start, .int .i64 x.1.epoch, .int .i64 x.1.last, .int .i64 x.1.mark, .int .i64 x.2.1, .bool x.2.2]
set_option maxHeartbeats 4000000 in
theorem yFind {w : World} {D : Nat} {F : Nat → Prop} {d : Dk} (h : DiskAt w D F d) (hn : d.P.length ≤ 1000000) :
    Calls Try.prog 21 #[.pointer (some ⟨D, 0, none⟩)] w (Ret (.tuple #[spV (findR d).1, .int .i64 (findR d).2.1, .int .i64 (findR d).2.2]) w) := by
  have hlk := Lib.hid (fun w' (hu : Upd Non w w') i => yLook (h.non hu) hn i)
  clear h
  go_enter Try.func21, Try.ntmps21
  go_wp2_with fail
  have hbA0 := heap_alloc2_old w (.cells #[.int .i64 0, .int .i64 0, .int .i64 0, .int .i64 0, .int .i64 0, .int .i64 0] 23) (.cells #[.int .i64 0, .int .i64 0, .int .i64 0, .int .i64 0, .int .i64 0, .int .i64 0, .int .i64 0, .bool false] 92)
  have hbB0 := heap_alloc2_new w (.cells #[.int .i64 0, .int .i64 0, .int .i64 0, .int .i64 0, .int .i64 0, .int .i64 0] 23) (.cells #[.int .i64 0, .int .i64 0, .int .i64 0, .int .i64 0, .int .i64 0, .int .i64 0, .int .i64 0, .bool false] 92)
  have hU0 := ((Upd.refl Non w).then_alloc (.cells #[.int .i64 0, .int .i64 0, .int .i64 0, .int .i64 0, .int .i64 0, .int .i64 0] 23)).then_alloc (.cells #[.int .i64 0, .int .i64 0, .int .i64 0, .int .i64 0, .int .i64 0, .int .i64 0, .int .i64 0, .bool false] 92)
  go_loopw [9] (fun i wr => ∃ j : Nat, j ≤ 2 ∧ i = .int .i64 (j : Int) ∧ wr.heap[w.heap.size]? = some (.cells #[.int .i64 0, .int .i64 0, .int .i64 0, .int .i64 0, .int .i64 0, .int .i64 0] 23 (0, 0)) ∧ wr.heap[w.heap.size + 1]? = some (.cells (fdC (bst d j)) 92 (0, 0)) ∧ Upd Non w wr ∧ (0 < j → d.within 0 = 0) ∧ (1 < j → d.within 1 = 0)) (fun i _ => 2 - (intOf i).toNat)
  case atStart => exact ⟨0, by omega, rfl, hbA0, hbB0, hU0, fun h => by omega, fun h => by omega⟩
  case round =>
    clear hbA0 hbB0 hU0
    obtain ⟨j, hj, rfl, hbA, hbB, hU, hw0, hw1⟩ := hrel
    by_cases hlt : j < 2
    · have hltI : (j : Int) < 2 := by omega
      have hj01 : j = 0 ∨ j = 1 := by omega
      have hnx : Hid (bst d (j + 1) = if (readR (d.reads j)).2 = 0 ∧ ((bst d j).2.2 = false ∨ (bst d j).1.gen < (readR (d.reads j)).1.gen) then ((readR (d.reads j)).1, (j : Int), true) else bst d j) := Lib.hid rfl
      by_cases hw : d.within (j : Int) = 0
      · have hw' : Hid (d.within (j : Int) = 0) := Lib.hid hw
        have hl := Lib.hid (fun w' hu => hlk.out w' hu (j : Int))
        unfold lookR at hl
        rw [if_pos hw, hw] at hl
        have hw2 : Hid ((0 < j + 1 → d.within 0 = 0) ∧ (1 < j + 1 → d.within 1 = 0)) := Lib.hid (by
          rcases hj01 with rfl | rfl
          · exact ⟨fun _ => hw, fun h => by omega⟩
          · exact ⟨fun _ => hw0 (by omega), fun _ => hw⟩)
        clear hw hw' hlk hw0 hw1 hj01
        generalize hnxe : bst d (j + 1) = nx at *
        replace hnxe := Lib.hid hnxe
        generalize hbo : bst d j = bo at *
        generalize readR (d.reads (j : Int)) = rr at *
        obtain ⟨⟨xg, xr, xs, xe, xl, xm⟩, xc⟩ := rr
        obtain ⟨⟨bg, br, bs, be, bl, bm⟩, ba, bi⟩ := bo
        unfold fdC at hbB
        unfold fdV at hl
        simp only at hl hnx hbB
        clear hbo
        by_cases hx : xc = 0
        · rw [decide_eq_true hx] at hl
          cases bi with
          | false =>
            replace hx := Lib.hid hx
            go_wp2_with fail
            refine (hl.out _ hU).mono ?_
            rintro en w2 ⟨rfl, hu⟩
            replace hU := (hU.trans hu fun _ _ h => h).then_alloc (.cells #[.int .i64 xg, .int .i64 xr, .int .i64 xs, .int .i64 xe, .int .i64 xl, .int .i64 xm, .int .i64 (j : Int), .bool true] 92)
            replace hbA := (Upd.alloc Non w2 (.cells #[.int .i64 xg, .int .i64 xr, .int .i64 xs, .int .i64 xe, .int .i64 xl, .int .i64 xm, .int .i64 (j : Int), .bool true] 92)).heap (hu.heap hbA fun h => h) fun h => h
            replace hbB := (Upd.alloc Non w2 (.cells #[.int .i64 xg, .int .i64 xr, .int .i64 xs, .int .i64 xe, .int .i64 xl, .int .i64 xm, .int .i64 (j : Int), .bool true] 92)).heap (hu.heap hbB fun h => h) fun h => h
            clear hu
            obtain ⟨y0, y1, y2, y3, y4, y5, y6, y7⟩ := cells8 hbB
            go_wp2_with ((with_reducible (show wpList _ _ _ (⟨_, Op.store _ _ _, _, _, _, _⟩ :: _) _ _)); refine storeB_list rfl 92 _ _ rfl (w.heap.size + 1) #[.int .i64 xg, .int .i64 xr, .int .i64 xs, .int .i64 xe, .int .i64 xl, .int .i64 xm, .int .i64 (j : Int), .bool true] _ _ rfl rfl hbB rfl size_fd.out (by simp [Value.oneCell']) ?_)
            intro w17 hb17 hu17
            have hbA7 := hu17.heap hbA (fun e => by (have : w.heap.size = w.heap.size + 1 := e); omega)
            have hU7 := hU.trans hu17 (fun k hk e => by (have : k = w.heap.size + 1 := e); omega)
            clear hbA hbB hU hu17 y0 y1 y2 y3 y4 y5 y6 y7
            go_wp2_with fail
            go_roundw
            case rel => exact ⟨j + 1, by omega, by go_num, hbA7, by rw [hnxe.out, hnx.out, if_pos ⟨hx.out, .inl (by simp)⟩]; exact hb17, hU7, hw2.out.1, hw2.out.2⟩
            case measure => simp [intOf]; omega
          | true =>
            by_cases hg : bg < xg
            · replace hx := Lib.hid hx
              go_wp2_with fail
              refine (hl.out _ hU).mono ?_
              rintro en w2 ⟨rfl, hu⟩
              replace hU := (hU.trans hu fun _ _ h => h).then_alloc (.cells #[.int .i64 xg, .int .i64 xr, .int .i64 xs, .int .i64 xe, .int .i64 xl, .int .i64 xm, .int .i64 (j : Int), .bool true] 92)
              replace hbA := (Upd.alloc Non w2 (.cells #[.int .i64 xg, .int .i64 xr, .int .i64 xs, .int .i64 xe, .int .i64 xl, .int .i64 xm, .int .i64 (j : Int), .bool true] 92)).heap (hu.heap hbA fun h => h) fun h => h
              replace hbB := (Upd.alloc Non w2 (.cells #[.int .i64 xg, .int .i64 xr, .int .i64 xs, .int .i64 xe, .int .i64 xl, .int .i64 xm, .int .i64 (j : Int), .bool true] 92)).heap (hu.heap hbB fun h => h) fun h => h
              clear hu
              obtain ⟨y0, y1, y2, y3, y4, y5, y6, y7⟩ := cells8 hbB
              go_wp2_with ((with_reducible (show wpList _ _ _ (⟨_, Op.store _ _ _, _, _, _, _⟩ :: _) _ _)); refine storeB_list rfl 92 _ _ rfl (w.heap.size + 1) #[.int .i64 xg, .int .i64 xr, .int .i64 xs, .int .i64 xe, .int .i64 xl, .int .i64 xm, .int .i64 (j : Int), .bool true] _ _ rfl rfl hbB rfl size_fd.out (by simp [Value.oneCell']) ?_)
              intro w17 hb17 hu17
              have hbA7 := hu17.heap hbA (fun e => by (have : w.heap.size = w.heap.size + 1 := e); omega)
              have hU7 := hU.trans hu17 (fun k hk e => by (have : k = w.heap.size + 1 := e); omega)
              clear hbA hbB hU hu17 y0 y1 y2 y3 y4 y5 y6 y7
              go_wp2_with fail
              go_roundw
              case rel => exact ⟨j + 1, by omega, by go_num, hbA7, by rw [hnxe.out, hnx.out, if_pos ⟨hx.out, .inr hg⟩]; exact hb17, hU7, hw2.out.1, hw2.out.2⟩
              case measure => simp [intOf]; omega
            · have hg2 : decide (bg < xg) = false := decide_eq_false hg
              replace hx := Lib.hid hx
              replace hg := Lib.hid hg
              go_wp2_with fail
              refine (hl.out _ hU).mono ?_
              rintro en w2 ⟨rfl, hu⟩
              replace hU := (hU.trans hu fun _ _ h => h).then_alloc (.cells #[.int .i64 xg, .int .i64 xr, .int .i64 xs, .int .i64 xe, .int .i64 xl, .int .i64 xm, .int .i64 (j : Int), .bool true] 92)
              replace hbA := (Upd.alloc Non w2 (.cells #[.int .i64 xg, .int .i64 xr, .int .i64 xs, .int .i64 xe, .int .i64 xl, .int .i64 xm, .int .i64 (j : Int), .bool true] 92)).heap (hu.heap hbA fun h => h) fun h => h
              replace hbB := (Upd.alloc Non w2 (.cells #[.int .i64 xg, .int .i64 xr, .int .i64 xs, .int .i64 xe, .int .i64 xl, .int .i64 xm, .int .i64 (j : Int), .bool true] 92)).heap (hu.heap hbB fun h => h) fun h => h
              clear hu
              obtain ⟨y0, y1, y2, y3, y4, y5, y6, y7⟩ := cells8 hbB
              go_wp2_with fail
              go_roundw
              case rel => exact ⟨j + 1, by omega, by go_num, hbA, by rw [hnxe.out, hnx.out, if_neg (fun e => e.2.elim (fun h => by simp at h) (fun h => by have := hg.out; omega))]; exact hbB, hU, hw2.out.1, hw2.out.2⟩
              case measure => simp [intOf]; omega
        · rw [decide_eq_false hx] at hl
          replace hx := Lib.hid hx
          go_wp2_with fail
          refine (hl.out _ hU).mono ?_
          rintro en w2 ⟨rfl, hu⟩
          replace hU := (hU.trans hu fun _ _ h => h).then_alloc (.cells #[.int .i64 xg, .int .i64 xr, .int .i64 xs, .int .i64 xe, .int .i64 xl, .int .i64 xm, .int .i64 (j : Int), .bool false] 92)
          replace hbA := (Upd.alloc Non w2 (.cells #[.int .i64 xg, .int .i64 xr, .int .i64 xs, .int .i64 xe, .int .i64 xl, .int .i64 xm, .int .i64 (j : Int), .bool false] 92)).heap (hu.heap hbA fun h => h) fun h => h
          replace hbB := (Upd.alloc Non w2 (.cells #[.int .i64 xg, .int .i64 xr, .int .i64 xs, .int .i64 xe, .int .i64 xl, .int .i64 xm, .int .i64 (j : Int), .bool false] 92)).heap (hu.heap hbB fun h => h) fun h => h
          clear hu
          obtain ⟨y0, y1, y2, y3, y4, y5, y6, y7⟩ := cells8 hbB
          go_wp2_with fail
          go_roundw
          case rel => exact ⟨j + 1, by omega, by go_num, hbA, by rw [hnxe.out, hnx.out, if_neg (fun e => hx.out e.1)]; exact hbB, hU, hw2.out.1, hw2.out.2⟩
          case measure => simp [intOf]; omega
      · have hl := Lib.hid (fun w' hu => hlk.out w' hu (j : Int))
        unfold lookR at hl
        rw [if_neg hw] at hl
        have hw2 : (d.within (j : Int) != 0) = true := by simp [hw]
        have hfin : Hid (findR d = (Sp.none, 0, d.within (j : Int))) := Lib.hid (by
          rcases hj01 with rfl | rfl
          · exact find_no0 hw
          · exact find_no1 (hw0 (by omega)) hw)
        clear hw hlk hw0 hw1 hj01 hnx
        generalize d.within (j : Int) = ew at *
        unfold fdV Sp.none at hl
        simp only at hl
        unfold fdC at hbB
        go_wp2_with fail
        refine (hl.out _ hU).mono ?_
        rintro en w2 ⟨rfl, hu⟩
        replace hU := (hU.trans hu fun _ _ h => h).then_alloc (.cells #[.int .i64 0, .int .i64 0, .int .i64 0, .int .i64 0, .int .i64 0, .int .i64 0, .int .i64 0, .bool false] 92)
        replace hbA := (Upd.alloc Non w2 (.cells #[.int .i64 0, .int .i64 0, .int .i64 0, .int .i64 0, .int .i64 0, .int .i64 0, .int .i64 0, .bool false] 92)).heap (hu.heap hbA fun h => h) fun h => h
        replace hbB := (Upd.alloc Non w2 (.cells #[.int .i64 0, .int .i64 0, .int .i64 0, .int .i64 0, .int .i64 0, .int .i64 0, .int .i64 0, .bool false] 92)).heap (hu.heap hbB fun h => h) fun h => h
        clear hu
        obtain ⟨y0, y1, y2, y3, y4, y5, y6, y7⟩ := cells8 hbB
        clear y0 y1 y2 y3 y4 y5 y6 y7 hbB
        go_wp2_with ((with_reducible (show wpList _ _ _ (⟨_, Op.store _ _ _, _, _, _, _⟩ :: _) _ _)); refine storeB_list rfl 23 _ _ rfl w.heap.size #[.int .i64 0, .int .i64 0, .int .i64 0, .int .i64 0, .int .i64 0, .int .i64 0] _ _ rfl rfl hbA rfl size_sp.out (by simp [Value.oneCell']) ?_)
        intro w18 hb18 hu18
        obtain ⟨x0, x1, x2, x3, x4, x5⟩ := cells6 hb18
        have hU18 := hU.trans hu18 (fun k hk e => by (have : k = w.heap.size := e); omega)
        go_wp2_with fail
        refine bodyPost_ret (v := .tuple #[.agg #[.int .i64 0, .int .i64 0, .int .i64 0, .int .i64 0, .int .i64 0, .int .i64 0], .int .i64 0, .int .i64 ew]) (by simp [results, Try.results21, go_sem, x0, x1, x2, x3, x4, x5]; try rfl) rfl ⟨by rw [hfin.out]; rfl, hU18⟩
    · obtain rfl : j = 2 := by omega
      have hfin := Lib.hid (find_bst (hw0 (by omega)) (hw1 (by omega)))
      clear hlk hw0 hw1
      generalize bst d 2 = bo at *
      obtain ⟨⟨bg, br, bs, be, bl, bm⟩, ba, bi⟩ := bo
      unfold fdC at hbB
      simp only at hbB hfin
      obtain ⟨y0, y1, y2, y3, y4, y5, y6, y7⟩ := cells8 hbB
      cases bi with
      | false =>
        rw [if_neg (by decide)] at hfin
        go_wp2_with ((with_reducible (show wpList _ _ _ (⟨_, Op.store _ _ _, _, _, _, _⟩ :: _) _ _)); refine storeB_list rfl 23 _ _ rfl w.heap.size #[.int .i64 0, .int .i64 0, .int .i64 0, .int .i64 0, .int .i64 0, .int .i64 0] _ _ rfl rfl hbA rfl size_sp.out (by simp [Value.oneCell']) ?_)
        intro w18 hb18 hu18
        obtain ⟨x0, x1, x2, x3, x4, x5⟩ := cells6 hb18
        have hU18 := hU.trans hu18 (fun k hk e => by (have : k = w.heap.size := e); omega)
        go_wp2_with fail
        refine bodyPost_ret (v := .tuple #[.agg #[.int .i64 0, .int .i64 0, .int .i64 0, .int .i64 0, .int .i64 0, .int .i64 0], .int .i64 0, .int .i64 4]) (by simp [results, Try.results21, go_sem, x0, x1, x2, x3, x4, x5]; try rfl) rfl ⟨by rw [hfin.out]; rfl, hU18⟩
      | true =>
        rw [if_pos rfl] at hfin
        go_wp2_with fail
        refine wp_region_held_drew (S := (fun w' => w'.cell? ⟨w.heap.size + 1, 0, none⟩ = some (.int .i64 bg) ∧ w'.cell? ⟨w.heap.size + 1, 1, none⟩ = some (.int .i64 br) ∧ w'.cell? ⟨w.heap.size + 1, 2, none⟩ = some (.int .i64 bs) ∧ w'.cell? ⟨w.heap.size + 1, 3, none⟩ = some (.int .i64 be) ∧ w'.cell? ⟨w.heap.size + 1, 4, none⟩ = some (.int .i64 bl) ∧ w'.cell? ⟨w.heap.size + 1, 5, none⟩ = some (.int .i64 bm) ∧ w'.cell? ⟨w.heap.size + 1, 6, none⟩ = some (.int .i64 ba) ∧ w'.cell? ⟨w.heap.size + 1, 7, none⟩ = some (.bool true))) (by kernel_rfl) (by exact cells8 ((Upd.drew Non wr).heap hbB fun h => h)) (fun hHeld => ?_)
        (refine wpAnyH_take (i := 0) (oi := ?oi_f1) (v := ?v_f1) ?ho_f1 ?hs_f1 ?hf_f1 ?hr_f1 ?hQ_f1 ?hy_f1 ?hS_f1 ?rest_f1; (case hr_f1 => kernel_rfl); (case hf_f1 => kernel_rfl); (case hs_f1 => kernel_rfl); (case ho_f1 => (simp only [List.getElem?_toArray, List.getElem?_cons_succ, List.getElem?_cons_zero]; rfl)); (case hS_f1 => assumption); (case hQ_f1 => exact fun _ _ _ h => h); (case hy_f1 => (refine Or.inl ⟨by rfl, ?_⟩; (intro w hSw; obtain ⟨x0, x1, x2, x3, x4, x5, x6, x7⟩ := hSw; go_simp) <;> with_reducible rfl)); (try simp only [Act.put, List.setIfInBounds_toArray, List.set_cons_zero, List.set_cons_succ]))
        (refine wpAnyH_take (i := 1) (oi := ?oi_f2) (v := ?v_f2) ?ho_f2 ?hs_f2 ?hf_f2 ?hr_f2 ?hQ_f2 ?hy_f2 ?hS_f2 ?rest_f2; (case hr_f2 => kernel_rfl); (case hf_f2 => kernel_rfl); (case hs_f2 => kernel_rfl); (case ho_f2 => (simp only [List.getElem?_toArray, List.getElem?_cons_succ, List.getElem?_cons_zero]; rfl)); (case hS_f2 => assumption); (case hQ_f2 => exact fun _ _ _ h => h); (case hy_f2 => (refine Or.inl ⟨by rfl, ?_⟩; (intro w hSw; obtain ⟨x0, x1, x2, x3, x4, x5, x6, x7⟩ := hSw; go_simp) <;> with_reducible rfl)); (try simp only [Act.put, List.setIfInBounds_toArray, List.set_cons_zero, List.set_cons_succ]))
        (refine wpAnyH_take (i := 2) (oi := ?oi_f3) (v := ?v_f3) ?ho_f3 ?hs_f3 ?hf_f3 ?hr_f3 ?hQ_f3 ?hy_f3 ?hS_f3 ?rest_f3; (case hr_f3 => kernel_rfl); (case hf_f3 => kernel_rfl); (case hs_f3 => kernel_rfl); (case ho_f3 => (simp only [List.getElem?_toArray, List.getElem?_cons_succ, List.getElem?_cons_zero]; rfl)); (case hS_f3 => assumption); (case hQ_f3 => exact fun _ _ _ h => h); (case hy_f3 => (refine Or.inl ⟨by rfl, ?_⟩; (intro w hSw; obtain ⟨x0, x1, x2, x3, x4, x5, x6, x7⟩ := hSw; go_simp) <;> with_reducible rfl)); (try simp only [Act.put, List.setIfInBounds_toArray, List.set_cons_zero, List.set_cons_succ]))
        (refine wpAnyH_take (i := 3) (oi := ?oi_f4) (v := ?v_f4) ?ho_f4 ?hs_f4 ?hf_f4 ?hr_f4 ?hQ_f4 ?hy_f4 ?hS_f4 ?rest_f4; (case hr_f4 => kernel_rfl); (case hf_f4 => kernel_rfl); (case hs_f4 => kernel_rfl); (case ho_f4 => (simp only [List.getElem?_toArray, List.getElem?_cons_succ, List.getElem?_cons_zero]; rfl)); (case hS_f4 => assumption); (case hQ_f4 => exact fun _ _ _ h => h); (case hy_f4 => (refine Or.inl ⟨by rfl, ?_⟩; (intro w hSw; obtain ⟨x0, x1, x2, x3, x4, x5, x6, x7⟩ := hSw; go_simp) <;> with_reducible rfl)); (try simp only [Act.put, List.setIfInBounds_toArray, List.set_cons_zero, List.set_cons_succ]))
        refine wpAnyH_ready (rs := [4]) (by kernel_rfl) (by simp) ?_
        refine (AllReadyH.cons (o := ?oof5_0) ?hof5_0 ?hsf5_0 AllReadyH.nil)
        case hof5_0 => (simp only [List.getElem?_toArray, List.getElem?_cons_succ, List.getElem?_cons_zero]; rfl)
        case hsf5_0 =>
          intro K hK
          refine storeB_step rfl 23 _ _ rfl w.heap.size #[.int .i64 bg, .int .i64 br, .int .i64 bs, .int .i64 be, .int .i64 bl, .int .i64 bm] _ _ rfl rfl ((Upd.drew Non wr).heap hbA fun h => h) rfl size_sp.out (by simp [Value.oneCell']) ?_
          intro w18 hb18 hu18
          have hU18 := (hU.then_drew).trans hu18 (fun k hk e => by (have : k = w.heap.size := e); omega)
          have hbB8 := hu18.heap ((Upd.drew Non wr).heap hbB fun h => h) (fun e => by (have : w.heap.size + 1 = w.heap.size := e); omega)
          refine hK.out _ _ (by exact cells8 hbB8) (fun hHeld => ?_)
          clear hK K
          try simp only [Act.put, List.setIfInBounds_toArray, List.set_cons_zero, List.set_cons_succ]
          (refine wpAnyH_take (i := 5) (oi := ?oi_f6) (v := ?v_f6) ?ho_f6 ?hs_f6 ?hf_f6 ?hr_f6 ?hQ_f6 ?hy_f6 ?hS_f6 ?rest_f6; (case hr_f6 => kernel_rfl); (case hf_f6 => kernel_rfl); (case hs_f6 => kernel_rfl); (case ho_f6 => (simp only [List.getElem?_toArray, List.getElem?_cons_succ, List.getElem?_cons_zero]; rfl)); (case hS_f6 => assumption); (case hQ_f6 => exact fun _ _ _ h => h); (case hy_f6 => (refine Or.inl ⟨by rfl, ?_⟩; (intro w hSw; skip; go_simp) <;> with_reducible rfl)); (try simp only [Act.put, List.setIfInBounds_toArray, List.set_cons_zero, List.set_cons_succ]))
          (refine wpAnyH_take (i := 6) (oi := ?oi_f7) (v := ?v_f7) ?ho_f7 ?hs_f7 ?hf_f7 ?hr_f7 ?hQ_f7 ?hy_f7 ?hS_f7 ?rest_f7; (case hr_f7 => kernel_rfl); (case hf_f7 => kernel_rfl); (case hs_f7 => kernel_rfl); (case ho_f7 => (simp only [List.getElem?_toArray, List.getElem?_cons_succ, List.getElem?_cons_zero]; rfl)); (case hS_f7 => assumption); (case hQ_f7 => exact fun _ _ _ h => h); (case hy_f7 => (refine Or.inl ⟨by rfl, ?_⟩; (intro w hSw; skip; go_simp) <;> with_reducible rfl)); (try simp only [Act.put, List.setIfInBounds_toArray, List.set_cons_zero, List.set_cons_succ]))
          refine wpAnyH_done (by kernel_rfl) ?_ _
          obtain ⟨x0, x1, x2, x3, x4, x5⟩ := cells6 hb18
          clear hHeld hbB8 hbA hbB
          go_wp2_with fail
          refine bodyPost_ret (v := .tuple #[.agg #[.int .i64 bg, .int .i64 br, .int .i64 bs, .int .i64 be, .int .i64 bl, .int .i64 bm], .int .i64 ba, .int .i64 0]) (by simp [results, Try.results21, go_sem, x0, x1, x2, x3, x4, x5]; try rfl) rfl ⟨by rw [hfin.out]; rfl, hU18⟩
end Go.Proofs.Ytgdkgnolkepgdaa
