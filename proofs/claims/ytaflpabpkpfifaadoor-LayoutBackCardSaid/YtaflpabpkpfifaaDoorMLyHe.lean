/- The walks over ambryref21.head, Head (printed by gen/mkhead.py). -/
import Derived.Test.YtaflpabpkpfifaaDoorMLyHd
namespace Go.Proofs.YtaflpabpkpfifaaDoor
set_option maxRecDepth 100000
open Go.RowKit Go.Amb
set_option linter.unusedVariables false
attribute [local go_sem ↓] Go.wp_at_zero Go.wp_at_succ

theorem HdBox.drew {w wr : World} {s r i : Int} {g n : Bool} (h : HdBox w s r i g n wr) : HdBox w s r i g n wr.drew := h.trans (Upd.drew Non _) fun _ h => h.elim
set_option maxHeartbeats 4000000 in
theorem qHead0 (h : Hd) (w : World) (hi : hdI64 h) : Calls Tryd.prog 54 #[hdV h] w (Ret (txtV (hdB h)) w) := by
  obtain ⟨s, re, im, gone, null⟩ := h
  obtain ⟨⟨i1, i2⟩, ⟨i3, i4⟩, i5, i6⟩ := hi
  simp only at i1 i2 i3 i4 i5 i6
  have ha := txt_add
  have hfl := fld_length
  unfold hdV txtV hdB hdFl
  cases gone with
  | true =>
    cases null with
    | true =>
      go_enter Tryd.func54, Tryd.ntmps54
      have hB : HdBox w s re im true true (w.alloc (.cells #[.int .i64 s, .int .i64 re, .int .i64 im, .bool true, .bool true] 48)) := Upd.refl _ _
      obtain ⟨c0, c1, c2, c3, c4⟩ := hB.cells
      go_wp2_with fail
      refine wp_region_held_drew (S := (fun w' => w'.cell? ⟨w.heap.size, 0, none⟩ = some (.int .i64 s) ∧ w'.cell? ⟨w.heap.size, 1, none⟩ = some (.int .i64 re) ∧ w'.cell? ⟨w.heap.size, 2, none⟩ = some (.int .i64 im))) (by kernel_rfl) (by exact ⟨c0, c1, c2⟩) (fun hHeld => ?_)
      (refine wpAnyH_take (i := 0) (oi := ?oi_h1_1) (v := ?v_h1_1) ?ho_h1_1 ?hs_h1_1 ?hf_h1_1 ?hr_h1_1 ?hQ_h1_1 ?hy_h1_1 ?hS_h1_1 ?rest_h1_1; (case hr_h1_1 => kernel_rfl); (case hf_h1_1 => kernel_rfl); (case hs_h1_1 => kernel_rfl); (case ho_h1_1 => (simp only [List.getElem?_toArray, List.getElem?_cons_succ, List.getElem?_cons_zero]; rfl)); (case hS_h1_1 => assumption); (case hQ_h1_1 => exact fun _ _ _ h => h); (case hy_h1_1 => (refine Or.inl ⟨by rfl, ?_⟩; (intro w hSw; obtain ⟨x0, x1, x2⟩ := hSw; go_simp) <;> with_reducible rfl)); (try simp only [Act.put, List.setIfInBounds_toArray, List.set_cons_zero, List.set_cons_succ]))
      (refine wpAnyH_take (i := 2) (oi := ?oi_h1_2) (v := ?v_h1_2) ?ho_h1_2 ?hs_h1_2 ?hf_h1_2 ?hr_h1_2 ?hQ_h1_2 ?hy_h1_2 ?hS_h1_2 ?rest_h1_2; (case hr_h1_2 => kernel_rfl); (case hf_h1_2 => kernel_rfl); (case hs_h1_2 => kernel_rfl); (case ho_h1_2 => (simp only [List.getElem?_toArray, List.getElem?_cons_succ, List.getElem?_cons_zero]; rfl)); (case hS_h1_2 => assumption); (case hQ_h1_2 => exact fun _ _ _ h => h); (case hy_h1_2 => (refine Or.inl ⟨by rfl, ?_⟩; (intro w hSw; obtain ⟨x0, x1, x2⟩ := hSw; go_simp) <;> with_reducible rfl)); (try simp only [Act.put, List.setIfInBounds_toArray, List.set_cons_zero, List.set_cons_succ]))
      (refine wpAnyH_take (i := 3) (oi := ?oi_h1_3) (v := ?v_h1_3) ?ho_h1_3 ?hs_h1_3 ?hf_h1_3 ?hr_h1_3 ?hQ_h1_3 ?hy_h1_3 ?hS_h1_3 ?rest_h1_3; (case hr_h1_3 => kernel_rfl); (case hf_h1_3 => kernel_rfl); (case hs_h1_3 => kernel_rfl); (case ho_h1_3 => (simp only [List.getElem?_toArray, List.getElem?_cons_succ, List.getElem?_cons_zero]; rfl)); (case hS_h1_3 => assumption); (case hQ_h1_3 => exact fun _ _ _ h => h); (case hy_h1_3 => (refine Or.inl ⟨by rfl, ?_⟩; (intro w hSw; obtain ⟨x0, x1, x2⟩ := hSw; go_simp) <;> with_reducible rfl)); (try simp only [Act.put, List.setIfInBounds_toArray, List.set_cons_zero, List.set_cons_succ]))
      (refine wpAnyH_take (i := 6) (oi := ?oi_h1_4) (v := ?v_h1_4) ?ho_h1_4 ?hs_h1_4 ?hf_h1_4 ?hr_h1_4 ?hQ_h1_4 ?hy_h1_4 ?hS_h1_4 ?rest_h1_4; (case hr_h1_4 => kernel_rfl); (case hf_h1_4 => kernel_rfl); (case hs_h1_4 => kernel_rfl); (case ho_h1_4 => (simp only [List.getElem?_toArray, List.getElem?_cons_succ, List.getElem?_cons_zero]; rfl)); (case hS_h1_4 => assumption); (case hQ_h1_4 => exact fun _ _ _ h => h); (case hy_h1_4 => (refine Or.inl ⟨by rfl, ?_⟩; (intro w hSw; obtain ⟨x0, x1, x2⟩ := hSw; go_simp) <;> with_reducible rfl)); (try simp only [Act.put, List.setIfInBounds_toArray, List.set_cons_zero, List.set_cons_succ]))
      (refine wpAnyH_take (i := 7) (oi := ?oi_h1_5) (v := ?v_h1_5) ?ho_h1_5 ?hs_h1_5 ?hf_h1_5 ?hr_h1_5 ?hQ_h1_5 ?hy_h1_5 ?hS_h1_5 ?rest_h1_5; (case hr_h1_5 => kernel_rfl); (case hf_h1_5 => kernel_rfl); (case hs_h1_5 => kernel_rfl); (case ho_h1_5 => (simp only [List.getElem?_toArray, List.getElem?_cons_succ, List.getElem?_cons_zero]; rfl)); (case hS_h1_5 => assumption); (case hQ_h1_5 => exact fun _ _ _ h => h); (case hy_h1_5 => (refine Or.inl ⟨by rfl, ?_⟩; (intro w hSw; obtain ⟨x0, x1, x2⟩ := hSw; go_simp) <;> with_reducible rfl)); (try simp only [Act.put, List.setIfInBounds_toArray, List.set_cons_zero, List.set_cons_succ]))
      (refine wpAnyH_take (i := 8) (oi := ?oi_h1_6) (v := ?v_h1_6) ?ho_h1_6 ?hs_h1_6 ?hf_h1_6 ?hr_h1_6 ?hQ_h1_6 ?hy_h1_6 ?hS_h1_6 ?rest_h1_6; (case hr_h1_6 => kernel_rfl); (case hf_h1_6 => kernel_rfl); (case hs_h1_6 => kernel_rfl); (case ho_h1_6 => (simp only [List.getElem?_toArray, List.getElem?_cons_succ, List.getElem?_cons_zero]; rfl)); (case hS_h1_6 => assumption); (case hQ_h1_6 => exact fun _ _ _ h => h); (case hy_h1_6 => (refine Or.inl ⟨by rfl, ?_⟩; (intro w hSw; obtain ⟨x0, x1, x2⟩ := hSw; go_simp) <;> with_reducible rfl)); (try simp only [Act.put, List.setIfInBounds_toArray, List.set_cons_zero, List.set_cons_succ]))
      (refine wpAnyH_take (i := 11) (oi := ?oi_h1_7) (v := ?v_h1_7) ?ho_h1_7 ?hs_h1_7 ?hf_h1_7 ?hr_h1_7 ?hQ_h1_7 ?hy_h1_7 ?hS_h1_7 ?rest_h1_7; (case hr_h1_7 => kernel_rfl); (case hf_h1_7 => kernel_rfl); (case hs_h1_7 => kernel_rfl); (case ho_h1_7 => (simp only [List.getElem?_toArray, List.getElem?_cons_succ, List.getElem?_cons_zero]; rfl)); (case hS_h1_7 => assumption); (case hQ_h1_7 => exact fun _ _ _ h => h); (case hy_h1_7 => (refine Or.inl ⟨by rfl, ?_⟩; (intro w hSw; obtain ⟨x0, x1, x2⟩ := hSw; go_simp) <;> with_reducible rfl)); (try simp only [Act.put, List.setIfInBounds_toArray, List.set_cons_zero, List.set_cons_succ]))
      (refine wpAnyH_take (i := 12) (oi := ?oi_h1_8) (v := ?v_h1_8) ?ho_h1_8 ?hs_h1_8 ?hf_h1_8 ?hr_h1_8 ?hQ_h1_8 ?hy_h1_8 ?hS_h1_8 ?rest_h1_8; (case hr_h1_8 => kernel_rfl); (case hf_h1_8 => kernel_rfl); (case hs_h1_8 => kernel_rfl); (case ho_h1_8 => (simp only [List.getElem?_toArray, List.getElem?_cons_succ, List.getElem?_cons_zero]; rfl)); (case hS_h1_8 => assumption); (case hQ_h1_8 => exact fun _ _ _ h => h); (case hy_h1_8 => (refine Or.inl ⟨by rfl, ?_⟩; (intro w hSw; obtain ⟨x0, x1, x2⟩ := hSw; go_simp) <;> with_reducible rfl)); (try simp only [Act.put, List.setIfInBounds_toArray, List.set_cons_zero, List.set_cons_succ]))
      (refine wpAnyH_take (i := 13) (oi := ?oi_h1_9) (v := ?v_h1_9) ?ho_h1_9 ?hs_h1_9 ?hf_h1_9 ?hr_h1_9 ?hQ_h1_9 ?hy_h1_9 ?hS_h1_9 ?rest_h1_9; (case hr_h1_9 => kernel_rfl); (case hf_h1_9 => kernel_rfl); (case hs_h1_9 => kernel_rfl); (case ho_h1_9 => (simp only [List.getElem?_toArray, List.getElem?_cons_succ, List.getElem?_cons_zero]; rfl)); (case hS_h1_9 => assumption); (case hQ_h1_9 => exact fun _ _ _ h => h); (case hy_h1_9 => (refine Or.inl ⟨by rfl, ?_⟩; (intro w hSw; obtain ⟨x0, x1, x2⟩ := hSw; go_simp) <;> with_reducible rfl)); (try simp only [Act.put, List.setIfInBounds_toArray, List.set_cons_zero, List.set_cons_succ]))
      refine wpAnyH_ready (rs := [1]) (by kernel_rfl) (by simp) ?_
      refine (AllReadyH.cons (o := ?ooh1_10_0) ?hoh1_10_0 ?hsh1_10_0 AllReadyH.nil)
      case hoh1_10_0 => (simp only [List.getElem?_toArray, List.getElem?_cons_succ, List.getElem?_cons_zero]; rfl)
      case hsh1_10_0 =>
        intro K hK
        go_simp
        refine (refField 3 1 _ (by omega) (by omega) (by decide)).mono ?_
        rintro en w20 ⟨rfl, hu0⟩
        have B0 := HdBox.trans (hB.drew) hu0 (fun j hj => by cases hj)
        try go_wp2_with fail
        refine hK.out _ _ (by exact ⟨B0.cells.1, B0.cells.2.1, B0.cells.2.2.1⟩) (fun hHeld => ?_)
        clear hK K
        try simp only [Act.put, List.setIfInBounds_toArray, List.set_cons_zero, List.set_cons_succ]
        refine wpAnyH_ready (rs := [4]) (by kernel_rfl) (by simp) ?_
        refine (AllReadyH.cons (o := ?ooh1_11_0) ?hoh1_11_0 ?hsh1_11_0 AllReadyH.nil)
        case hoh1_11_0 => (simp only [List.getElem?_toArray, List.getElem?_cons_succ, List.getElem?_cons_zero]; rfl)
        case hsh1_11_0 =>
          intro K hK
          go_simp
          refine (refField s 2 _ (by omega) (by omega) (by decide)).mono ?_
          rintro en w21 ⟨rfl, hu1⟩
          have B1 := HdBox.trans (B0) hu1 (fun j hj => by cases hj)
          try go_wp2_with fail
          refine hK.out _ _ (by exact ⟨B1.cells.1, B1.cells.2.1, B1.cells.2.2.1⟩) (fun hHeld => ?_)
          clear hK K
          try simp only [Act.put, List.setIfInBounds_toArray, List.set_cons_zero, List.set_cons_succ]
          (refine wpAnyH_take (i := 5) (oi := ?oi_h1_12) (v := ?v_h1_12) ?ho_h1_12 ?hs_h1_12 ?hf_h1_12 ?hr_h1_12 ?hQ_h1_12 ?hy_h1_12 ?hS_h1_12 ?rest_h1_12; (case hr_h1_12 => kernel_rfl); (case hf_h1_12 => kernel_rfl); (case hs_h1_12 => kernel_rfl); (case ho_h1_12 => (simp only [List.getElem?_toArray, List.getElem?_cons_succ, List.getElem?_cons_zero]; rfl)); (case hS_h1_12 => assumption); (case hQ_h1_12 => exact fun _ _ _ h => h); (case hy_h1_12 => (refine Or.inl ⟨by rfl, ?_⟩; (intro w hSw; obtain ⟨x0, x1, x2⟩ := hSw; go_simp) <;> with_reducible rfl)); (try simp only [Act.put, List.setIfInBounds_toArray, List.set_cons_zero, List.set_cons_succ]))
          refine wpAnyH_ready (rs := [9]) (by kernel_rfl) (by simp) ?_
          refine (AllReadyH.cons (o := ?ooh1_13_0) ?hoh1_13_0 ?hsh1_13_0 AllReadyH.nil)
          case hoh1_13_0 => (simp only [List.getElem?_toArray, List.getElem?_cons_succ, List.getElem?_cons_zero]; rfl)
          case hsh1_13_0 =>
            intro K hK
            go_simp
            refine (refField re 4 _ (by omega) (by omega) (by decide)).mono ?_
            rintro en w22 ⟨rfl, hu2⟩
            have B2 := HdBox.trans (B1) hu2 (fun j hj => by cases hj)
            try go_wp2_with fail
            refine hK.out _ _ (by exact ⟨B2.cells.1, B2.cells.2.1, B2.cells.2.2.1⟩) (fun hHeld => ?_)
            clear hK K
            try simp only [Act.put, List.setIfInBounds_toArray, List.set_cons_zero, List.set_cons_succ]
            (refine wpAnyH_take (i := 10) (oi := ?oi_h1_14) (v := ?v_h1_14) ?ho_h1_14 ?hs_h1_14 ?hf_h1_14 ?hr_h1_14 ?hQ_h1_14 ?hy_h1_14 ?hS_h1_14 ?rest_h1_14; (case hr_h1_14 => kernel_rfl); (case hf_h1_14 => kernel_rfl); (case hs_h1_14 => kernel_rfl); (case ho_h1_14 => (simp only [List.getElem?_toArray, List.getElem?_cons_succ, List.getElem?_cons_zero]; rfl)); (case hS_h1_14 => assumption); (case hQ_h1_14 => exact fun _ _ _ h => h); (case hy_h1_14 => (refine Or.inl ⟨by rfl, ?_⟩; (intro w hSw; obtain ⟨x0, x1, x2⟩ := hSw; go_simp) <;> with_reducible rfl)); (try simp only [Act.put, List.setIfInBounds_toArray, List.set_cons_zero, List.set_cons_succ]))
            refine wpAnyH_ready (rs := [14]) (by kernel_rfl) (by simp) ?_
            refine (AllReadyH.cons (o := ?ooh1_15_0) ?hoh1_15_0 ?hsh1_15_0 AllReadyH.nil)
            case hoh1_15_0 => (simp only [List.getElem?_toArray, List.getElem?_cons_succ, List.getElem?_cons_zero]; rfl)
            case hsh1_15_0 =>
              intro K hK
              go_simp
              refine (refField im 4 _ (by omega) (by omega) (by decide)).mono ?_
              rintro en w23 ⟨rfl, hu3⟩
              have B3 := HdBox.trans (B2) hu3 (fun j hj => by cases hj)
              try go_wp2_with fail
              refine hK.out _ _ (by exact ⟨B3.cells.1, B3.cells.2.1, B3.cells.2.2.1⟩) (fun hHeld => ?_)
              clear hK K
              try simp only [Act.put, List.setIfInBounds_toArray, List.set_cons_zero, List.set_cons_succ]
              (refine wpAnyH_take (i := 15) (oi := ?oi_h1_16) (v := ?v_h1_16) ?ho_h1_16 ?hs_h1_16 ?hf_h1_16 ?hr_h1_16 ?hQ_h1_16 ?hy_h1_16 ?hS_h1_16 ?rest_h1_16; (case hr_h1_16 => kernel_rfl); (case hf_h1_16 => kernel_rfl); (case hs_h1_16 => kernel_rfl); (case ho_h1_16 => (simp only [List.getElem?_toArray, List.getElem?_cons_succ, List.getElem?_cons_zero]; rfl)); (case hS_h1_16 => assumption); (case hQ_h1_16 => exact fun _ _ _ h => h); (case hy_h1_16 => (refine Or.inl ⟨by rfl, ?_⟩; (intro w hSw; obtain ⟨x0, x1, x2⟩ := hSw; go_simp) <;> with_reducible rfl)); (try simp only [Act.put, List.setIfInBounds_toArray, List.set_cons_zero, List.set_cons_succ]))
              (refine wpAnyH_take (i := 16) (oi := ?oi_h1_17) (v := ?v_h1_17) ?ho_h1_17 ?hs_h1_17 ?hf_h1_17 ?hr_h1_17 ?hQ_h1_17 ?hy_h1_17 ?hS_h1_17 ?rest_h1_17; (case hr_h1_17 => kernel_rfl); (case hf_h1_17 => kernel_rfl); (case hs_h1_17 => kernel_rfl); (case ho_h1_17 => (simp only [List.getElem?_toArray, List.getElem?_cons_succ, List.getElem?_cons_zero]; rfl)); (case hS_h1_17 => assumption); (case hQ_h1_17 => exact fun _ _ _ h => h); (case hy_h1_17 => (refine Or.inl ⟨by rfl, ?_⟩; (intro w hSw; obtain ⟨x0, x1, x2⟩ := hSw; go_simp) <;> with_reducible rfl)); (try simp only [Act.put, List.setIfInBounds_toArray, List.set_cons_zero, List.set_cons_succ]))
              refine wpAnyH_done (by kernel_rfl) ?_ _
              go_wp2_with fail
              go_ret
              exact ⟨rfl, B3.upd⟩
    | false =>
      go_enter Tryd.func54, Tryd.ntmps54
      have hB : HdBox w s re im true false (w.alloc (.cells #[.int .i64 s, .int .i64 re, .int .i64 im, .bool true, .bool false] 48)) := Upd.refl _ _
      obtain ⟨c0, c1, c2, c3, c4⟩ := hB.cells
      go_wp2_with fail
      refine wp_region_held_drew (S := (fun w' => w'.cell? ⟨w.heap.size, 0, none⟩ = some (.int .i64 s) ∧ w'.cell? ⟨w.heap.size, 1, none⟩ = some (.int .i64 re) ∧ w'.cell? ⟨w.heap.size, 2, none⟩ = some (.int .i64 im))) (by kernel_rfl) (by exact ⟨c0, c1, c2⟩) (fun hHeld => ?_)
      (refine wpAnyH_take (i := 0) (oi := ?oi_h2_1) (v := ?v_h2_1) ?ho_h2_1 ?hs_h2_1 ?hf_h2_1 ?hr_h2_1 ?hQ_h2_1 ?hy_h2_1 ?hS_h2_1 ?rest_h2_1; (case hr_h2_1 => kernel_rfl); (case hf_h2_1 => kernel_rfl); (case hs_h2_1 => kernel_rfl); (case ho_h2_1 => (simp only [List.getElem?_toArray, List.getElem?_cons_succ, List.getElem?_cons_zero]; rfl)); (case hS_h2_1 => assumption); (case hQ_h2_1 => exact fun _ _ _ h => h); (case hy_h2_1 => (refine Or.inl ⟨by rfl, ?_⟩; (intro w hSw; obtain ⟨x0, x1, x2⟩ := hSw; go_simp) <;> with_reducible rfl)); (try simp only [Act.put, List.setIfInBounds_toArray, List.set_cons_zero, List.set_cons_succ]))
      (refine wpAnyH_take (i := 2) (oi := ?oi_h2_2) (v := ?v_h2_2) ?ho_h2_2 ?hs_h2_2 ?hf_h2_2 ?hr_h2_2 ?hQ_h2_2 ?hy_h2_2 ?hS_h2_2 ?rest_h2_2; (case hr_h2_2 => kernel_rfl); (case hf_h2_2 => kernel_rfl); (case hs_h2_2 => kernel_rfl); (case ho_h2_2 => (simp only [List.getElem?_toArray, List.getElem?_cons_succ, List.getElem?_cons_zero]; rfl)); (case hS_h2_2 => assumption); (case hQ_h2_2 => exact fun _ _ _ h => h); (case hy_h2_2 => (refine Or.inl ⟨by rfl, ?_⟩; (intro w hSw; obtain ⟨x0, x1, x2⟩ := hSw; go_simp) <;> with_reducible rfl)); (try simp only [Act.put, List.setIfInBounds_toArray, List.set_cons_zero, List.set_cons_succ]))
      (refine wpAnyH_take (i := 3) (oi := ?oi_h2_3) (v := ?v_h2_3) ?ho_h2_3 ?hs_h2_3 ?hf_h2_3 ?hr_h2_3 ?hQ_h2_3 ?hy_h2_3 ?hS_h2_3 ?rest_h2_3; (case hr_h2_3 => kernel_rfl); (case hf_h2_3 => kernel_rfl); (case hs_h2_3 => kernel_rfl); (case ho_h2_3 => (simp only [List.getElem?_toArray, List.getElem?_cons_succ, List.getElem?_cons_zero]; rfl)); (case hS_h2_3 => assumption); (case hQ_h2_3 => exact fun _ _ _ h => h); (case hy_h2_3 => (refine Or.inl ⟨by rfl, ?_⟩; (intro w hSw; obtain ⟨x0, x1, x2⟩ := hSw; go_simp) <;> with_reducible rfl)); (try simp only [Act.put, List.setIfInBounds_toArray, List.set_cons_zero, List.set_cons_succ]))
      (refine wpAnyH_take (i := 6) (oi := ?oi_h2_4) (v := ?v_h2_4) ?ho_h2_4 ?hs_h2_4 ?hf_h2_4 ?hr_h2_4 ?hQ_h2_4 ?hy_h2_4 ?hS_h2_4 ?rest_h2_4; (case hr_h2_4 => kernel_rfl); (case hf_h2_4 => kernel_rfl); (case hs_h2_4 => kernel_rfl); (case ho_h2_4 => (simp only [List.getElem?_toArray, List.getElem?_cons_succ, List.getElem?_cons_zero]; rfl)); (case hS_h2_4 => assumption); (case hQ_h2_4 => exact fun _ _ _ h => h); (case hy_h2_4 => (refine Or.inl ⟨by rfl, ?_⟩; (intro w hSw; obtain ⟨x0, x1, x2⟩ := hSw; go_simp) <;> with_reducible rfl)); (try simp only [Act.put, List.setIfInBounds_toArray, List.set_cons_zero, List.set_cons_succ]))
      (refine wpAnyH_take (i := 7) (oi := ?oi_h2_5) (v := ?v_h2_5) ?ho_h2_5 ?hs_h2_5 ?hf_h2_5 ?hr_h2_5 ?hQ_h2_5 ?hy_h2_5 ?hS_h2_5 ?rest_h2_5; (case hr_h2_5 => kernel_rfl); (case hf_h2_5 => kernel_rfl); (case hs_h2_5 => kernel_rfl); (case ho_h2_5 => (simp only [List.getElem?_toArray, List.getElem?_cons_succ, List.getElem?_cons_zero]; rfl)); (case hS_h2_5 => assumption); (case hQ_h2_5 => exact fun _ _ _ h => h); (case hy_h2_5 => (refine Or.inl ⟨by rfl, ?_⟩; (intro w hSw; obtain ⟨x0, x1, x2⟩ := hSw; go_simp) <;> with_reducible rfl)); (try simp only [Act.put, List.setIfInBounds_toArray, List.set_cons_zero, List.set_cons_succ]))
      (refine wpAnyH_take (i := 8) (oi := ?oi_h2_6) (v := ?v_h2_6) ?ho_h2_6 ?hs_h2_6 ?hf_h2_6 ?hr_h2_6 ?hQ_h2_6 ?hy_h2_6 ?hS_h2_6 ?rest_h2_6; (case hr_h2_6 => kernel_rfl); (case hf_h2_6 => kernel_rfl); (case hs_h2_6 => kernel_rfl); (case ho_h2_6 => (simp only [List.getElem?_toArray, List.getElem?_cons_succ, List.getElem?_cons_zero]; rfl)); (case hS_h2_6 => assumption); (case hQ_h2_6 => exact fun _ _ _ h => h); (case hy_h2_6 => (refine Or.inl ⟨by rfl, ?_⟩; (intro w hSw; obtain ⟨x0, x1, x2⟩ := hSw; go_simp) <;> with_reducible rfl)); (try simp only [Act.put, List.setIfInBounds_toArray, List.set_cons_zero, List.set_cons_succ]))
      (refine wpAnyH_take (i := 11) (oi := ?oi_h2_7) (v := ?v_h2_7) ?ho_h2_7 ?hs_h2_7 ?hf_h2_7 ?hr_h2_7 ?hQ_h2_7 ?hy_h2_7 ?hS_h2_7 ?rest_h2_7; (case hr_h2_7 => kernel_rfl); (case hf_h2_7 => kernel_rfl); (case hs_h2_7 => kernel_rfl); (case ho_h2_7 => (simp only [List.getElem?_toArray, List.getElem?_cons_succ, List.getElem?_cons_zero]; rfl)); (case hS_h2_7 => assumption); (case hQ_h2_7 => exact fun _ _ _ h => h); (case hy_h2_7 => (refine Or.inl ⟨by rfl, ?_⟩; (intro w hSw; obtain ⟨x0, x1, x2⟩ := hSw; go_simp) <;> with_reducible rfl)); (try simp only [Act.put, List.setIfInBounds_toArray, List.set_cons_zero, List.set_cons_succ]))
      (refine wpAnyH_take (i := 12) (oi := ?oi_h2_8) (v := ?v_h2_8) ?ho_h2_8 ?hs_h2_8 ?hf_h2_8 ?hr_h2_8 ?hQ_h2_8 ?hy_h2_8 ?hS_h2_8 ?rest_h2_8; (case hr_h2_8 => kernel_rfl); (case hf_h2_8 => kernel_rfl); (case hs_h2_8 => kernel_rfl); (case ho_h2_8 => (simp only [List.getElem?_toArray, List.getElem?_cons_succ, List.getElem?_cons_zero]; rfl)); (case hS_h2_8 => assumption); (case hQ_h2_8 => exact fun _ _ _ h => h); (case hy_h2_8 => (refine Or.inl ⟨by rfl, ?_⟩; (intro w hSw; obtain ⟨x0, x1, x2⟩ := hSw; go_simp) <;> with_reducible rfl)); (try simp only [Act.put, List.setIfInBounds_toArray, List.set_cons_zero, List.set_cons_succ]))
      (refine wpAnyH_take (i := 13) (oi := ?oi_h2_9) (v := ?v_h2_9) ?ho_h2_9 ?hs_h2_9 ?hf_h2_9 ?hr_h2_9 ?hQ_h2_9 ?hy_h2_9 ?hS_h2_9 ?rest_h2_9; (case hr_h2_9 => kernel_rfl); (case hf_h2_9 => kernel_rfl); (case hs_h2_9 => kernel_rfl); (case ho_h2_9 => (simp only [List.getElem?_toArray, List.getElem?_cons_succ, List.getElem?_cons_zero]; rfl)); (case hS_h2_9 => assumption); (case hQ_h2_9 => exact fun _ _ _ h => h); (case hy_h2_9 => (refine Or.inl ⟨by rfl, ?_⟩; (intro w hSw; obtain ⟨x0, x1, x2⟩ := hSw; go_simp) <;> with_reducible rfl)); (try simp only [Act.put, List.setIfInBounds_toArray, List.set_cons_zero, List.set_cons_succ]))
      refine wpAnyH_ready (rs := [1]) (by kernel_rfl) (by simp) ?_
      refine (AllReadyH.cons (o := ?ooh2_10_0) ?hoh2_10_0 ?hsh2_10_0 AllReadyH.nil)
      case hoh2_10_0 => (simp only [List.getElem?_toArray, List.getElem?_cons_succ, List.getElem?_cons_zero]; rfl)
      case hsh2_10_0 =>
        intro K hK
        go_simp
        refine (refField 1 1 _ (by omega) (by omega) (by decide)).mono ?_
        rintro en w20 ⟨rfl, hu0⟩
        have B0 := HdBox.trans (hB.drew) hu0 (fun j hj => by cases hj)
        try go_wp2_with fail
        refine hK.out _ _ (by exact ⟨B0.cells.1, B0.cells.2.1, B0.cells.2.2.1⟩) (fun hHeld => ?_)
        clear hK K
        try simp only [Act.put, List.setIfInBounds_toArray, List.set_cons_zero, List.set_cons_succ]
        refine wpAnyH_ready (rs := [4]) (by kernel_rfl) (by simp) ?_
        refine (AllReadyH.cons (o := ?ooh2_11_0) ?hoh2_11_0 ?hsh2_11_0 AllReadyH.nil)
        case hoh2_11_0 => (simp only [List.getElem?_toArray, List.getElem?_cons_succ, List.getElem?_cons_zero]; rfl)
        case hsh2_11_0 =>
          intro K hK
          go_simp
          refine (refField s 2 _ (by omega) (by omega) (by decide)).mono ?_
          rintro en w21 ⟨rfl, hu1⟩
          have B1 := HdBox.trans (B0) hu1 (fun j hj => by cases hj)
          try go_wp2_with fail
          refine hK.out _ _ (by exact ⟨B1.cells.1, B1.cells.2.1, B1.cells.2.2.1⟩) (fun hHeld => ?_)
          clear hK K
          try simp only [Act.put, List.setIfInBounds_toArray, List.set_cons_zero, List.set_cons_succ]
          (refine wpAnyH_take (i := 5) (oi := ?oi_h2_12) (v := ?v_h2_12) ?ho_h2_12 ?hs_h2_12 ?hf_h2_12 ?hr_h2_12 ?hQ_h2_12 ?hy_h2_12 ?hS_h2_12 ?rest_h2_12; (case hr_h2_12 => kernel_rfl); (case hf_h2_12 => kernel_rfl); (case hs_h2_12 => kernel_rfl); (case ho_h2_12 => (simp only [List.getElem?_toArray, List.getElem?_cons_succ, List.getElem?_cons_zero]; rfl)); (case hS_h2_12 => assumption); (case hQ_h2_12 => exact fun _ _ _ h => h); (case hy_h2_12 => (refine Or.inl ⟨by rfl, ?_⟩; (intro w hSw; obtain ⟨x0, x1, x2⟩ := hSw; go_simp) <;> with_reducible rfl)); (try simp only [Act.put, List.setIfInBounds_toArray, List.set_cons_zero, List.set_cons_succ]))
          refine wpAnyH_ready (rs := [9]) (by kernel_rfl) (by simp) ?_
          refine (AllReadyH.cons (o := ?ooh2_13_0) ?hoh2_13_0 ?hsh2_13_0 AllReadyH.nil)
          case hoh2_13_0 => (simp only [List.getElem?_toArray, List.getElem?_cons_succ, List.getElem?_cons_zero]; rfl)
          case hsh2_13_0 =>
            intro K hK
            go_simp
            refine (refField re 4 _ (by omega) (by omega) (by decide)).mono ?_
            rintro en w22 ⟨rfl, hu2⟩
            have B2 := HdBox.trans (B1) hu2 (fun j hj => by cases hj)
            try go_wp2_with fail
            refine hK.out _ _ (by exact ⟨B2.cells.1, B2.cells.2.1, B2.cells.2.2.1⟩) (fun hHeld => ?_)
            clear hK K
            try simp only [Act.put, List.setIfInBounds_toArray, List.set_cons_zero, List.set_cons_succ]
            (refine wpAnyH_take (i := 10) (oi := ?oi_h2_14) (v := ?v_h2_14) ?ho_h2_14 ?hs_h2_14 ?hf_h2_14 ?hr_h2_14 ?hQ_h2_14 ?hy_h2_14 ?hS_h2_14 ?rest_h2_14; (case hr_h2_14 => kernel_rfl); (case hf_h2_14 => kernel_rfl); (case hs_h2_14 => kernel_rfl); (case ho_h2_14 => (simp only [List.getElem?_toArray, List.getElem?_cons_succ, List.getElem?_cons_zero]; rfl)); (case hS_h2_14 => assumption); (case hQ_h2_14 => exact fun _ _ _ h => h); (case hy_h2_14 => (refine Or.inl ⟨by rfl, ?_⟩; (intro w hSw; obtain ⟨x0, x1, x2⟩ := hSw; go_simp) <;> with_reducible rfl)); (try simp only [Act.put, List.setIfInBounds_toArray, List.set_cons_zero, List.set_cons_succ]))
            refine wpAnyH_ready (rs := [14]) (by kernel_rfl) (by simp) ?_
            refine (AllReadyH.cons (o := ?ooh2_15_0) ?hoh2_15_0 ?hsh2_15_0 AllReadyH.nil)
            case hoh2_15_0 => (simp only [List.getElem?_toArray, List.getElem?_cons_succ, List.getElem?_cons_zero]; rfl)
            case hsh2_15_0 =>
              intro K hK
              go_simp
              refine (refField im 4 _ (by omega) (by omega) (by decide)).mono ?_
              rintro en w23 ⟨rfl, hu3⟩
              have B3 := HdBox.trans (B2) hu3 (fun j hj => by cases hj)
              try go_wp2_with fail
              refine hK.out _ _ (by exact ⟨B3.cells.1, B3.cells.2.1, B3.cells.2.2.1⟩) (fun hHeld => ?_)
              clear hK K
              try simp only [Act.put, List.setIfInBounds_toArray, List.set_cons_zero, List.set_cons_succ]
              (refine wpAnyH_take (i := 15) (oi := ?oi_h2_16) (v := ?v_h2_16) ?ho_h2_16 ?hs_h2_16 ?hf_h2_16 ?hr_h2_16 ?hQ_h2_16 ?hy_h2_16 ?hS_h2_16 ?rest_h2_16; (case hr_h2_16 => kernel_rfl); (case hf_h2_16 => kernel_rfl); (case hs_h2_16 => kernel_rfl); (case ho_h2_16 => (simp only [List.getElem?_toArray, List.getElem?_cons_succ, List.getElem?_cons_zero]; rfl)); (case hS_h2_16 => assumption); (case hQ_h2_16 => exact fun _ _ _ h => h); (case hy_h2_16 => (refine Or.inl ⟨by rfl, ?_⟩; (intro w hSw; obtain ⟨x0, x1, x2⟩ := hSw; go_simp) <;> with_reducible rfl)); (try simp only [Act.put, List.setIfInBounds_toArray, List.set_cons_zero, List.set_cons_succ]))
              (refine wpAnyH_take (i := 16) (oi := ?oi_h2_17) (v := ?v_h2_17) ?ho_h2_17 ?hs_h2_17 ?hf_h2_17 ?hr_h2_17 ?hQ_h2_17 ?hy_h2_17 ?hS_h2_17 ?rest_h2_17; (case hr_h2_17 => kernel_rfl); (case hf_h2_17 => kernel_rfl); (case hs_h2_17 => kernel_rfl); (case ho_h2_17 => (simp only [List.getElem?_toArray, List.getElem?_cons_succ, List.getElem?_cons_zero]; rfl)); (case hS_h2_17 => assumption); (case hQ_h2_17 => exact fun _ _ _ h => h); (case hy_h2_17 => (refine Or.inl ⟨by rfl, ?_⟩; (intro w hSw; obtain ⟨x0, x1, x2⟩ := hSw; go_simp) <;> with_reducible rfl)); (try simp only [Act.put, List.setIfInBounds_toArray, List.set_cons_zero, List.set_cons_succ]))
              refine wpAnyH_done (by kernel_rfl) ?_ _
              go_wp2_with fail
              go_ret
              exact ⟨rfl, B3.upd⟩
  | false =>
    cases null with
    | true =>
      go_enter Tryd.func54, Tryd.ntmps54
      have hB : HdBox w s re im false true (w.alloc (.cells #[.int .i64 s, .int .i64 re, .int .i64 im, .bool false, .bool true] 48)) := Upd.refl _ _
      obtain ⟨c0, c1, c2, c3, c4⟩ := hB.cells
      go_wp2_with fail
      refine wp_region_held_drew (S := (fun w' => w'.cell? ⟨w.heap.size, 0, none⟩ = some (.int .i64 s) ∧ w'.cell? ⟨w.heap.size, 1, none⟩ = some (.int .i64 re) ∧ w'.cell? ⟨w.heap.size, 2, none⟩ = some (.int .i64 im))) (by kernel_rfl) (by exact ⟨c0, c1, c2⟩) (fun hHeld => ?_)
      (refine wpAnyH_take (i := 0) (oi := ?oi_h3_1) (v := ?v_h3_1) ?ho_h3_1 ?hs_h3_1 ?hf_h3_1 ?hr_h3_1 ?hQ_h3_1 ?hy_h3_1 ?hS_h3_1 ?rest_h3_1; (case hr_h3_1 => kernel_rfl); (case hf_h3_1 => kernel_rfl); (case hs_h3_1 => kernel_rfl); (case ho_h3_1 => (simp only [List.getElem?_toArray, List.getElem?_cons_succ, List.getElem?_cons_zero]; rfl)); (case hS_h3_1 => assumption); (case hQ_h3_1 => exact fun _ _ _ h => h); (case hy_h3_1 => (refine Or.inl ⟨by rfl, ?_⟩; (intro w hSw; obtain ⟨x0, x1, x2⟩ := hSw; go_simp) <;> with_reducible rfl)); (try simp only [Act.put, List.setIfInBounds_toArray, List.set_cons_zero, List.set_cons_succ]))
      (refine wpAnyH_take (i := 2) (oi := ?oi_h3_2) (v := ?v_h3_2) ?ho_h3_2 ?hs_h3_2 ?hf_h3_2 ?hr_h3_2 ?hQ_h3_2 ?hy_h3_2 ?hS_h3_2 ?rest_h3_2; (case hr_h3_2 => kernel_rfl); (case hf_h3_2 => kernel_rfl); (case hs_h3_2 => kernel_rfl); (case ho_h3_2 => (simp only [List.getElem?_toArray, List.getElem?_cons_succ, List.getElem?_cons_zero]; rfl)); (case hS_h3_2 => assumption); (case hQ_h3_2 => exact fun _ _ _ h => h); (case hy_h3_2 => (refine Or.inl ⟨by rfl, ?_⟩; (intro w hSw; obtain ⟨x0, x1, x2⟩ := hSw; go_simp) <;> with_reducible rfl)); (try simp only [Act.put, List.setIfInBounds_toArray, List.set_cons_zero, List.set_cons_succ]))
      (refine wpAnyH_take (i := 3) (oi := ?oi_h3_3) (v := ?v_h3_3) ?ho_h3_3 ?hs_h3_3 ?hf_h3_3 ?hr_h3_3 ?hQ_h3_3 ?hy_h3_3 ?hS_h3_3 ?rest_h3_3; (case hr_h3_3 => kernel_rfl); (case hf_h3_3 => kernel_rfl); (case hs_h3_3 => kernel_rfl); (case ho_h3_3 => (simp only [List.getElem?_toArray, List.getElem?_cons_succ, List.getElem?_cons_zero]; rfl)); (case hS_h3_3 => assumption); (case hQ_h3_3 => exact fun _ _ _ h => h); (case hy_h3_3 => (refine Or.inl ⟨by rfl, ?_⟩; (intro w hSw; obtain ⟨x0, x1, x2⟩ := hSw; go_simp) <;> with_reducible rfl)); (try simp only [Act.put, List.setIfInBounds_toArray, List.set_cons_zero, List.set_cons_succ]))
      (refine wpAnyH_take (i := 6) (oi := ?oi_h3_4) (v := ?v_h3_4) ?ho_h3_4 ?hs_h3_4 ?hf_h3_4 ?hr_h3_4 ?hQ_h3_4 ?hy_h3_4 ?hS_h3_4 ?rest_h3_4; (case hr_h3_4 => kernel_rfl); (case hf_h3_4 => kernel_rfl); (case hs_h3_4 => kernel_rfl); (case ho_h3_4 => (simp only [List.getElem?_toArray, List.getElem?_cons_succ, List.getElem?_cons_zero]; rfl)); (case hS_h3_4 => assumption); (case hQ_h3_4 => exact fun _ _ _ h => h); (case hy_h3_4 => (refine Or.inl ⟨by rfl, ?_⟩; (intro w hSw; obtain ⟨x0, x1, x2⟩ := hSw; go_simp) <;> with_reducible rfl)); (try simp only [Act.put, List.setIfInBounds_toArray, List.set_cons_zero, List.set_cons_succ]))
      (refine wpAnyH_take (i := 7) (oi := ?oi_h3_5) (v := ?v_h3_5) ?ho_h3_5 ?hs_h3_5 ?hf_h3_5 ?hr_h3_5 ?hQ_h3_5 ?hy_h3_5 ?hS_h3_5 ?rest_h3_5; (case hr_h3_5 => kernel_rfl); (case hf_h3_5 => kernel_rfl); (case hs_h3_5 => kernel_rfl); (case ho_h3_5 => (simp only [List.getElem?_toArray, List.getElem?_cons_succ, List.getElem?_cons_zero]; rfl)); (case hS_h3_5 => assumption); (case hQ_h3_5 => exact fun _ _ _ h => h); (case hy_h3_5 => (refine Or.inl ⟨by rfl, ?_⟩; (intro w hSw; obtain ⟨x0, x1, x2⟩ := hSw; go_simp) <;> with_reducible rfl)); (try simp only [Act.put, List.setIfInBounds_toArray, List.set_cons_zero, List.set_cons_succ]))
      (refine wpAnyH_take (i := 8) (oi := ?oi_h3_6) (v := ?v_h3_6) ?ho_h3_6 ?hs_h3_6 ?hf_h3_6 ?hr_h3_6 ?hQ_h3_6 ?hy_h3_6 ?hS_h3_6 ?rest_h3_6; (case hr_h3_6 => kernel_rfl); (case hf_h3_6 => kernel_rfl); (case hs_h3_6 => kernel_rfl); (case ho_h3_6 => (simp only [List.getElem?_toArray, List.getElem?_cons_succ, List.getElem?_cons_zero]; rfl)); (case hS_h3_6 => assumption); (case hQ_h3_6 => exact fun _ _ _ h => h); (case hy_h3_6 => (refine Or.inl ⟨by rfl, ?_⟩; (intro w hSw; obtain ⟨x0, x1, x2⟩ := hSw; go_simp) <;> with_reducible rfl)); (try simp only [Act.put, List.setIfInBounds_toArray, List.set_cons_zero, List.set_cons_succ]))
      (refine wpAnyH_take (i := 11) (oi := ?oi_h3_7) (v := ?v_h3_7) ?ho_h3_7 ?hs_h3_7 ?hf_h3_7 ?hr_h3_7 ?hQ_h3_7 ?hy_h3_7 ?hS_h3_7 ?rest_h3_7; (case hr_h3_7 => kernel_rfl); (case hf_h3_7 => kernel_rfl); (case hs_h3_7 => kernel_rfl); (case ho_h3_7 => (simp only [List.getElem?_toArray, List.getElem?_cons_succ, List.getElem?_cons_zero]; rfl)); (case hS_h3_7 => assumption); (case hQ_h3_7 => exact fun _ _ _ h => h); (case hy_h3_7 => (refine Or.inl ⟨by rfl, ?_⟩; (intro w hSw; obtain ⟨x0, x1, x2⟩ := hSw; go_simp) <;> with_reducible rfl)); (try simp only [Act.put, List.setIfInBounds_toArray, List.set_cons_zero, List.set_cons_succ]))
      (refine wpAnyH_take (i := 12) (oi := ?oi_h3_8) (v := ?v_h3_8) ?ho_h3_8 ?hs_h3_8 ?hf_h3_8 ?hr_h3_8 ?hQ_h3_8 ?hy_h3_8 ?hS_h3_8 ?rest_h3_8; (case hr_h3_8 => kernel_rfl); (case hf_h3_8 => kernel_rfl); (case hs_h3_8 => kernel_rfl); (case ho_h3_8 => (simp only [List.getElem?_toArray, List.getElem?_cons_succ, List.getElem?_cons_zero]; rfl)); (case hS_h3_8 => assumption); (case hQ_h3_8 => exact fun _ _ _ h => h); (case hy_h3_8 => (refine Or.inl ⟨by rfl, ?_⟩; (intro w hSw; obtain ⟨x0, x1, x2⟩ := hSw; go_simp) <;> with_reducible rfl)); (try simp only [Act.put, List.setIfInBounds_toArray, List.set_cons_zero, List.set_cons_succ]))
      (refine wpAnyH_take (i := 13) (oi := ?oi_h3_9) (v := ?v_h3_9) ?ho_h3_9 ?hs_h3_9 ?hf_h3_9 ?hr_h3_9 ?hQ_h3_9 ?hy_h3_9 ?hS_h3_9 ?rest_h3_9; (case hr_h3_9 => kernel_rfl); (case hf_h3_9 => kernel_rfl); (case hs_h3_9 => kernel_rfl); (case ho_h3_9 => (simp only [List.getElem?_toArray, List.getElem?_cons_succ, List.getElem?_cons_zero]; rfl)); (case hS_h3_9 => assumption); (case hQ_h3_9 => exact fun _ _ _ h => h); (case hy_h3_9 => (refine Or.inl ⟨by rfl, ?_⟩; (intro w hSw; obtain ⟨x0, x1, x2⟩ := hSw; go_simp) <;> with_reducible rfl)); (try simp only [Act.put, List.setIfInBounds_toArray, List.set_cons_zero, List.set_cons_succ]))
      refine wpAnyH_ready (rs := [1]) (by kernel_rfl) (by simp) ?_
      refine (AllReadyH.cons (o := ?ooh3_10_0) ?hoh3_10_0 ?hsh3_10_0 AllReadyH.nil)
      case hoh3_10_0 => (simp only [List.getElem?_toArray, List.getElem?_cons_succ, List.getElem?_cons_zero]; rfl)
      case hsh3_10_0 =>
        intro K hK
        go_simp
        refine (refField 2 1 _ (by omega) (by omega) (by decide)).mono ?_
        rintro en w20 ⟨rfl, hu0⟩
        have B0 := HdBox.trans (hB.drew) hu0 (fun j hj => by cases hj)
        try go_wp2_with fail
        refine hK.out _ _ (by exact ⟨B0.cells.1, B0.cells.2.1, B0.cells.2.2.1⟩) (fun hHeld => ?_)
        clear hK K
        try simp only [Act.put, List.setIfInBounds_toArray, List.set_cons_zero, List.set_cons_succ]
        refine wpAnyH_ready (rs := [4]) (by kernel_rfl) (by simp) ?_
        refine (AllReadyH.cons (o := ?ooh3_11_0) ?hoh3_11_0 ?hsh3_11_0 AllReadyH.nil)
        case hoh3_11_0 => (simp only [List.getElem?_toArray, List.getElem?_cons_succ, List.getElem?_cons_zero]; rfl)
        case hsh3_11_0 =>
          intro K hK
          go_simp
          refine (refField s 2 _ (by omega) (by omega) (by decide)).mono ?_
          rintro en w21 ⟨rfl, hu1⟩
          have B1 := HdBox.trans (B0) hu1 (fun j hj => by cases hj)
          try go_wp2_with fail
          refine hK.out _ _ (by exact ⟨B1.cells.1, B1.cells.2.1, B1.cells.2.2.1⟩) (fun hHeld => ?_)
          clear hK K
          try simp only [Act.put, List.setIfInBounds_toArray, List.set_cons_zero, List.set_cons_succ]
          (refine wpAnyH_take (i := 5) (oi := ?oi_h3_12) (v := ?v_h3_12) ?ho_h3_12 ?hs_h3_12 ?hf_h3_12 ?hr_h3_12 ?hQ_h3_12 ?hy_h3_12 ?hS_h3_12 ?rest_h3_12; (case hr_h3_12 => kernel_rfl); (case hf_h3_12 => kernel_rfl); (case hs_h3_12 => kernel_rfl); (case ho_h3_12 => (simp only [List.getElem?_toArray, List.getElem?_cons_succ, List.getElem?_cons_zero]; rfl)); (case hS_h3_12 => assumption); (case hQ_h3_12 => exact fun _ _ _ h => h); (case hy_h3_12 => (refine Or.inl ⟨by rfl, ?_⟩; (intro w hSw; obtain ⟨x0, x1, x2⟩ := hSw; go_simp) <;> with_reducible rfl)); (try simp only [Act.put, List.setIfInBounds_toArray, List.set_cons_zero, List.set_cons_succ]))
          refine wpAnyH_ready (rs := [9]) (by kernel_rfl) (by simp) ?_
          refine (AllReadyH.cons (o := ?ooh3_13_0) ?hoh3_13_0 ?hsh3_13_0 AllReadyH.nil)
          case hoh3_13_0 => (simp only [List.getElem?_toArray, List.getElem?_cons_succ, List.getElem?_cons_zero]; rfl)
          case hsh3_13_0 =>
            intro K hK
            go_simp
            refine (refField re 4 _ (by omega) (by omega) (by decide)).mono ?_
            rintro en w22 ⟨rfl, hu2⟩
            have B2 := HdBox.trans (B1) hu2 (fun j hj => by cases hj)
            try go_wp2_with fail
            refine hK.out _ _ (by exact ⟨B2.cells.1, B2.cells.2.1, B2.cells.2.2.1⟩) (fun hHeld => ?_)
            clear hK K
            try simp only [Act.put, List.setIfInBounds_toArray, List.set_cons_zero, List.set_cons_succ]
            (refine wpAnyH_take (i := 10) (oi := ?oi_h3_14) (v := ?v_h3_14) ?ho_h3_14 ?hs_h3_14 ?hf_h3_14 ?hr_h3_14 ?hQ_h3_14 ?hy_h3_14 ?hS_h3_14 ?rest_h3_14; (case hr_h3_14 => kernel_rfl); (case hf_h3_14 => kernel_rfl); (case hs_h3_14 => kernel_rfl); (case ho_h3_14 => (simp only [List.getElem?_toArray, List.getElem?_cons_succ, List.getElem?_cons_zero]; rfl)); (case hS_h3_14 => assumption); (case hQ_h3_14 => exact fun _ _ _ h => h); (case hy_h3_14 => (refine Or.inl ⟨by rfl, ?_⟩; (intro w hSw; obtain ⟨x0, x1, x2⟩ := hSw; go_simp) <;> with_reducible rfl)); (try simp only [Act.put, List.setIfInBounds_toArray, List.set_cons_zero, List.set_cons_succ]))
            refine wpAnyH_ready (rs := [14]) (by kernel_rfl) (by simp) ?_
            refine (AllReadyH.cons (o := ?ooh3_15_0) ?hoh3_15_0 ?hsh3_15_0 AllReadyH.nil)
            case hoh3_15_0 => (simp only [List.getElem?_toArray, List.getElem?_cons_succ, List.getElem?_cons_zero]; rfl)
            case hsh3_15_0 =>
              intro K hK
              go_simp
              refine (refField im 4 _ (by omega) (by omega) (by decide)).mono ?_
              rintro en w23 ⟨rfl, hu3⟩
              have B3 := HdBox.trans (B2) hu3 (fun j hj => by cases hj)
              try go_wp2_with fail
              refine hK.out _ _ (by exact ⟨B3.cells.1, B3.cells.2.1, B3.cells.2.2.1⟩) (fun hHeld => ?_)
              clear hK K
              try simp only [Act.put, List.setIfInBounds_toArray, List.set_cons_zero, List.set_cons_succ]
              (refine wpAnyH_take (i := 15) (oi := ?oi_h3_16) (v := ?v_h3_16) ?ho_h3_16 ?hs_h3_16 ?hf_h3_16 ?hr_h3_16 ?hQ_h3_16 ?hy_h3_16 ?hS_h3_16 ?rest_h3_16; (case hr_h3_16 => kernel_rfl); (case hf_h3_16 => kernel_rfl); (case hs_h3_16 => kernel_rfl); (case ho_h3_16 => (simp only [List.getElem?_toArray, List.getElem?_cons_succ, List.getElem?_cons_zero]; rfl)); (case hS_h3_16 => assumption); (case hQ_h3_16 => exact fun _ _ _ h => h); (case hy_h3_16 => (refine Or.inl ⟨by rfl, ?_⟩; (intro w hSw; obtain ⟨x0, x1, x2⟩ := hSw; go_simp) <;> with_reducible rfl)); (try simp only [Act.put, List.setIfInBounds_toArray, List.set_cons_zero, List.set_cons_succ]))
              (refine wpAnyH_take (i := 16) (oi := ?oi_h3_17) (v := ?v_h3_17) ?ho_h3_17 ?hs_h3_17 ?hf_h3_17 ?hr_h3_17 ?hQ_h3_17 ?hy_h3_17 ?hS_h3_17 ?rest_h3_17; (case hr_h3_17 => kernel_rfl); (case hf_h3_17 => kernel_rfl); (case hs_h3_17 => kernel_rfl); (case ho_h3_17 => (simp only [List.getElem?_toArray, List.getElem?_cons_succ, List.getElem?_cons_zero]; rfl)); (case hS_h3_17 => assumption); (case hQ_h3_17 => exact fun _ _ _ h => h); (case hy_h3_17 => (refine Or.inl ⟨by rfl, ?_⟩; (intro w hSw; obtain ⟨x0, x1, x2⟩ := hSw; go_simp) <;> with_reducible rfl)); (try simp only [Act.put, List.setIfInBounds_toArray, List.set_cons_zero, List.set_cons_succ]))
              refine wpAnyH_done (by kernel_rfl) ?_ _
              go_wp2_with fail
              go_ret
              exact ⟨rfl, B3.upd⟩
    | false =>
      go_enter Tryd.func54, Tryd.ntmps54
      have hB : HdBox w s re im false false (w.alloc (.cells #[.int .i64 s, .int .i64 re, .int .i64 im, .bool false, .bool false] 48)) := Upd.refl _ _
      obtain ⟨c0, c1, c2, c3, c4⟩ := hB.cells
      go_wp2_with fail
      refine wp_region_held_drew (S := (fun w' => w'.cell? ⟨w.heap.size, 0, none⟩ = some (.int .i64 s) ∧ w'.cell? ⟨w.heap.size, 1, none⟩ = some (.int .i64 re) ∧ w'.cell? ⟨w.heap.size, 2, none⟩ = some (.int .i64 im))) (by kernel_rfl) (by exact ⟨c0, c1, c2⟩) (fun hHeld => ?_)
      (refine wpAnyH_take (i := 0) (oi := ?oi_h4_1) (v := ?v_h4_1) ?ho_h4_1 ?hs_h4_1 ?hf_h4_1 ?hr_h4_1 ?hQ_h4_1 ?hy_h4_1 ?hS_h4_1 ?rest_h4_1; (case hr_h4_1 => kernel_rfl); (case hf_h4_1 => kernel_rfl); (case hs_h4_1 => kernel_rfl); (case ho_h4_1 => (simp only [List.getElem?_toArray, List.getElem?_cons_succ, List.getElem?_cons_zero]; rfl)); (case hS_h4_1 => assumption); (case hQ_h4_1 => exact fun _ _ _ h => h); (case hy_h4_1 => (refine Or.inl ⟨by rfl, ?_⟩; (intro w hSw; obtain ⟨x0, x1, x2⟩ := hSw; go_simp) <;> with_reducible rfl)); (try simp only [Act.put, List.setIfInBounds_toArray, List.set_cons_zero, List.set_cons_succ]))
      (refine wpAnyH_take (i := 2) (oi := ?oi_h4_2) (v := ?v_h4_2) ?ho_h4_2 ?hs_h4_2 ?hf_h4_2 ?hr_h4_2 ?hQ_h4_2 ?hy_h4_2 ?hS_h4_2 ?rest_h4_2; (case hr_h4_2 => kernel_rfl); (case hf_h4_2 => kernel_rfl); (case hs_h4_2 => kernel_rfl); (case ho_h4_2 => (simp only [List.getElem?_toArray, List.getElem?_cons_succ, List.getElem?_cons_zero]; rfl)); (case hS_h4_2 => assumption); (case hQ_h4_2 => exact fun _ _ _ h => h); (case hy_h4_2 => (refine Or.inl ⟨by rfl, ?_⟩; (intro w hSw; obtain ⟨x0, x1, x2⟩ := hSw; go_simp) <;> with_reducible rfl)); (try simp only [Act.put, List.setIfInBounds_toArray, List.set_cons_zero, List.set_cons_succ]))
      (refine wpAnyH_take (i := 3) (oi := ?oi_h4_3) (v := ?v_h4_3) ?ho_h4_3 ?hs_h4_3 ?hf_h4_3 ?hr_h4_3 ?hQ_h4_3 ?hy_h4_3 ?hS_h4_3 ?rest_h4_3; (case hr_h4_3 => kernel_rfl); (case hf_h4_3 => kernel_rfl); (case hs_h4_3 => kernel_rfl); (case ho_h4_3 => (simp only [List.getElem?_toArray, List.getElem?_cons_succ, List.getElem?_cons_zero]; rfl)); (case hS_h4_3 => assumption); (case hQ_h4_3 => exact fun _ _ _ h => h); (case hy_h4_3 => (refine Or.inl ⟨by rfl, ?_⟩; (intro w hSw; obtain ⟨x0, x1, x2⟩ := hSw; go_simp) <;> with_reducible rfl)); (try simp only [Act.put, List.setIfInBounds_toArray, List.set_cons_zero, List.set_cons_succ]))
      (refine wpAnyH_take (i := 6) (oi := ?oi_h4_4) (v := ?v_h4_4) ?ho_h4_4 ?hs_h4_4 ?hf_h4_4 ?hr_h4_4 ?hQ_h4_4 ?hy_h4_4 ?hS_h4_4 ?rest_h4_4; (case hr_h4_4 => kernel_rfl); (case hf_h4_4 => kernel_rfl); (case hs_h4_4 => kernel_rfl); (case ho_h4_4 => (simp only [List.getElem?_toArray, List.getElem?_cons_succ, List.getElem?_cons_zero]; rfl)); (case hS_h4_4 => assumption); (case hQ_h4_4 => exact fun _ _ _ h => h); (case hy_h4_4 => (refine Or.inl ⟨by rfl, ?_⟩; (intro w hSw; obtain ⟨x0, x1, x2⟩ := hSw; go_simp) <;> with_reducible rfl)); (try simp only [Act.put, List.setIfInBounds_toArray, List.set_cons_zero, List.set_cons_succ]))
      (refine wpAnyH_take (i := 7) (oi := ?oi_h4_5) (v := ?v_h4_5) ?ho_h4_5 ?hs_h4_5 ?hf_h4_5 ?hr_h4_5 ?hQ_h4_5 ?hy_h4_5 ?hS_h4_5 ?rest_h4_5; (case hr_h4_5 => kernel_rfl); (case hf_h4_5 => kernel_rfl); (case hs_h4_5 => kernel_rfl); (case ho_h4_5 => (simp only [List.getElem?_toArray, List.getElem?_cons_succ, List.getElem?_cons_zero]; rfl)); (case hS_h4_5 => assumption); (case hQ_h4_5 => exact fun _ _ _ h => h); (case hy_h4_5 => (refine Or.inl ⟨by rfl, ?_⟩; (intro w hSw; obtain ⟨x0, x1, x2⟩ := hSw; go_simp) <;> with_reducible rfl)); (try simp only [Act.put, List.setIfInBounds_toArray, List.set_cons_zero, List.set_cons_succ]))
      (refine wpAnyH_take (i := 8) (oi := ?oi_h4_6) (v := ?v_h4_6) ?ho_h4_6 ?hs_h4_6 ?hf_h4_6 ?hr_h4_6 ?hQ_h4_6 ?hy_h4_6 ?hS_h4_6 ?rest_h4_6; (case hr_h4_6 => kernel_rfl); (case hf_h4_6 => kernel_rfl); (case hs_h4_6 => kernel_rfl); (case ho_h4_6 => (simp only [List.getElem?_toArray, List.getElem?_cons_succ, List.getElem?_cons_zero]; rfl)); (case hS_h4_6 => assumption); (case hQ_h4_6 => exact fun _ _ _ h => h); (case hy_h4_6 => (refine Or.inl ⟨by rfl, ?_⟩; (intro w hSw; obtain ⟨x0, x1, x2⟩ := hSw; go_simp) <;> with_reducible rfl)); (try simp only [Act.put, List.setIfInBounds_toArray, List.set_cons_zero, List.set_cons_succ]))
      (refine wpAnyH_take (i := 11) (oi := ?oi_h4_7) (v := ?v_h4_7) ?ho_h4_7 ?hs_h4_7 ?hf_h4_7 ?hr_h4_7 ?hQ_h4_7 ?hy_h4_7 ?hS_h4_7 ?rest_h4_7; (case hr_h4_7 => kernel_rfl); (case hf_h4_7 => kernel_rfl); (case hs_h4_7 => kernel_rfl); (case ho_h4_7 => (simp only [List.getElem?_toArray, List.getElem?_cons_succ, List.getElem?_cons_zero]; rfl)); (case hS_h4_7 => assumption); (case hQ_h4_7 => exact fun _ _ _ h => h); (case hy_h4_7 => (refine Or.inl ⟨by rfl, ?_⟩; (intro w hSw; obtain ⟨x0, x1, x2⟩ := hSw; go_simp) <;> with_reducible rfl)); (try simp only [Act.put, List.setIfInBounds_toArray, List.set_cons_zero, List.set_cons_succ]))
      (refine wpAnyH_take (i := 12) (oi := ?oi_h4_8) (v := ?v_h4_8) ?ho_h4_8 ?hs_h4_8 ?hf_h4_8 ?hr_h4_8 ?hQ_h4_8 ?hy_h4_8 ?hS_h4_8 ?rest_h4_8; (case hr_h4_8 => kernel_rfl); (case hf_h4_8 => kernel_rfl); (case hs_h4_8 => kernel_rfl); (case ho_h4_8 => (simp only [List.getElem?_toArray, List.getElem?_cons_succ, List.getElem?_cons_zero]; rfl)); (case hS_h4_8 => assumption); (case hQ_h4_8 => exact fun _ _ _ h => h); (case hy_h4_8 => (refine Or.inl ⟨by rfl, ?_⟩; (intro w hSw; obtain ⟨x0, x1, x2⟩ := hSw; go_simp) <;> with_reducible rfl)); (try simp only [Act.put, List.setIfInBounds_toArray, List.set_cons_zero, List.set_cons_succ]))
      (refine wpAnyH_take (i := 13) (oi := ?oi_h4_9) (v := ?v_h4_9) ?ho_h4_9 ?hs_h4_9 ?hf_h4_9 ?hr_h4_9 ?hQ_h4_9 ?hy_h4_9 ?hS_h4_9 ?rest_h4_9; (case hr_h4_9 => kernel_rfl); (case hf_h4_9 => kernel_rfl); (case hs_h4_9 => kernel_rfl); (case ho_h4_9 => (simp only [List.getElem?_toArray, List.getElem?_cons_succ, List.getElem?_cons_zero]; rfl)); (case hS_h4_9 => assumption); (case hQ_h4_9 => exact fun _ _ _ h => h); (case hy_h4_9 => (refine Or.inl ⟨by rfl, ?_⟩; (intro w hSw; obtain ⟨x0, x1, x2⟩ := hSw; go_simp) <;> with_reducible rfl)); (try simp only [Act.put, List.setIfInBounds_toArray, List.set_cons_zero, List.set_cons_succ]))
      refine wpAnyH_ready (rs := [1]) (by kernel_rfl) (by simp) ?_
      refine (AllReadyH.cons (o := ?ooh4_10_0) ?hoh4_10_0 ?hsh4_10_0 AllReadyH.nil)
      case hoh4_10_0 => (simp only [List.getElem?_toArray, List.getElem?_cons_succ, List.getElem?_cons_zero]; rfl)
      case hsh4_10_0 =>
        intro K hK
        go_simp
        refine (refField 0 1 _ (by omega) (by omega) (by decide)).mono ?_
        rintro en w20 ⟨rfl, hu0⟩
        have B0 := HdBox.trans (hB.drew) hu0 (fun j hj => by cases hj)
        try go_wp2_with fail
        refine hK.out _ _ (by exact ⟨B0.cells.1, B0.cells.2.1, B0.cells.2.2.1⟩) (fun hHeld => ?_)
        clear hK K
        try simp only [Act.put, List.setIfInBounds_toArray, List.set_cons_zero, List.set_cons_succ]
        refine wpAnyH_ready (rs := [4]) (by kernel_rfl) (by simp) ?_
        refine (AllReadyH.cons (o := ?ooh4_11_0) ?hoh4_11_0 ?hsh4_11_0 AllReadyH.nil)
        case hoh4_11_0 => (simp only [List.getElem?_toArray, List.getElem?_cons_succ, List.getElem?_cons_zero]; rfl)
        case hsh4_11_0 =>
          intro K hK
          go_simp
          refine (refField s 2 _ (by omega) (by omega) (by decide)).mono ?_
          rintro en w21 ⟨rfl, hu1⟩
          have B1 := HdBox.trans (B0) hu1 (fun j hj => by cases hj)
          try go_wp2_with fail
          refine hK.out _ _ (by exact ⟨B1.cells.1, B1.cells.2.1, B1.cells.2.2.1⟩) (fun hHeld => ?_)
          clear hK K
          try simp only [Act.put, List.setIfInBounds_toArray, List.set_cons_zero, List.set_cons_succ]
          (refine wpAnyH_take (i := 5) (oi := ?oi_h4_12) (v := ?v_h4_12) ?ho_h4_12 ?hs_h4_12 ?hf_h4_12 ?hr_h4_12 ?hQ_h4_12 ?hy_h4_12 ?hS_h4_12 ?rest_h4_12; (case hr_h4_12 => kernel_rfl); (case hf_h4_12 => kernel_rfl); (case hs_h4_12 => kernel_rfl); (case ho_h4_12 => (simp only [List.getElem?_toArray, List.getElem?_cons_succ, List.getElem?_cons_zero]; rfl)); (case hS_h4_12 => assumption); (case hQ_h4_12 => exact fun _ _ _ h => h); (case hy_h4_12 => (refine Or.inl ⟨by rfl, ?_⟩; (intro w hSw; obtain ⟨x0, x1, x2⟩ := hSw; go_simp) <;> with_reducible rfl)); (try simp only [Act.put, List.setIfInBounds_toArray, List.set_cons_zero, List.set_cons_succ]))
          refine wpAnyH_ready (rs := [9]) (by kernel_rfl) (by simp) ?_
          refine (AllReadyH.cons (o := ?ooh4_13_0) ?hoh4_13_0 ?hsh4_13_0 AllReadyH.nil)
          case hoh4_13_0 => (simp only [List.getElem?_toArray, List.getElem?_cons_succ, List.getElem?_cons_zero]; rfl)
          case hsh4_13_0 =>
            intro K hK
            go_simp
            refine (refField re 4 _ (by omega) (by omega) (by decide)).mono ?_
            rintro en w22 ⟨rfl, hu2⟩
            have B2 := HdBox.trans (B1) hu2 (fun j hj => by cases hj)
            try go_wp2_with fail
            refine hK.out _ _ (by exact ⟨B2.cells.1, B2.cells.2.1, B2.cells.2.2.1⟩) (fun hHeld => ?_)
            clear hK K
            try simp only [Act.put, List.setIfInBounds_toArray, List.set_cons_zero, List.set_cons_succ]
            (refine wpAnyH_take (i := 10) (oi := ?oi_h4_14) (v := ?v_h4_14) ?ho_h4_14 ?hs_h4_14 ?hf_h4_14 ?hr_h4_14 ?hQ_h4_14 ?hy_h4_14 ?hS_h4_14 ?rest_h4_14; (case hr_h4_14 => kernel_rfl); (case hf_h4_14 => kernel_rfl); (case hs_h4_14 => kernel_rfl); (case ho_h4_14 => (simp only [List.getElem?_toArray, List.getElem?_cons_succ, List.getElem?_cons_zero]; rfl)); (case hS_h4_14 => assumption); (case hQ_h4_14 => exact fun _ _ _ h => h); (case hy_h4_14 => (refine Or.inl ⟨by rfl, ?_⟩; (intro w hSw; obtain ⟨x0, x1, x2⟩ := hSw; go_simp) <;> with_reducible rfl)); (try simp only [Act.put, List.setIfInBounds_toArray, List.set_cons_zero, List.set_cons_succ]))
            refine wpAnyH_ready (rs := [14]) (by kernel_rfl) (by simp) ?_
            refine (AllReadyH.cons (o := ?ooh4_15_0) ?hoh4_15_0 ?hsh4_15_0 AllReadyH.nil)
            case hoh4_15_0 => (simp only [List.getElem?_toArray, List.getElem?_cons_succ, List.getElem?_cons_zero]; rfl)
            case hsh4_15_0 =>
              intro K hK
              go_simp
              refine (refField im 4 _ (by omega) (by omega) (by decide)).mono ?_
              rintro en w23 ⟨rfl, hu3⟩
              have B3 := HdBox.trans (B2) hu3 (fun j hj => by cases hj)
              try go_wp2_with fail
              refine hK.out _ _ (by exact ⟨B3.cells.1, B3.cells.2.1, B3.cells.2.2.1⟩) (fun hHeld => ?_)
              clear hK K
              try simp only [Act.put, List.setIfInBounds_toArray, List.set_cons_zero, List.set_cons_succ]
              (refine wpAnyH_take (i := 15) (oi := ?oi_h4_16) (v := ?v_h4_16) ?ho_h4_16 ?hs_h4_16 ?hf_h4_16 ?hr_h4_16 ?hQ_h4_16 ?hy_h4_16 ?hS_h4_16 ?rest_h4_16; (case hr_h4_16 => kernel_rfl); (case hf_h4_16 => kernel_rfl); (case hs_h4_16 => kernel_rfl); (case ho_h4_16 => (simp only [List.getElem?_toArray, List.getElem?_cons_succ, List.getElem?_cons_zero]; rfl)); (case hS_h4_16 => assumption); (case hQ_h4_16 => exact fun _ _ _ h => h); (case hy_h4_16 => (refine Or.inl ⟨by rfl, ?_⟩; (intro w hSw; obtain ⟨x0, x1, x2⟩ := hSw; go_simp) <;> with_reducible rfl)); (try simp only [Act.put, List.setIfInBounds_toArray, List.set_cons_zero, List.set_cons_succ]))
              (refine wpAnyH_take (i := 16) (oi := ?oi_h4_17) (v := ?v_h4_17) ?ho_h4_17 ?hs_h4_17 ?hf_h4_17 ?hr_h4_17 ?hQ_h4_17 ?hy_h4_17 ?hS_h4_17 ?rest_h4_17; (case hr_h4_17 => kernel_rfl); (case hf_h4_17 => kernel_rfl); (case hs_h4_17 => kernel_rfl); (case ho_h4_17 => (simp only [List.getElem?_toArray, List.getElem?_cons_succ, List.getElem?_cons_zero]; rfl)); (case hS_h4_17 => assumption); (case hQ_h4_17 => exact fun _ _ _ h => h); (case hy_h4_17 => (refine Or.inl ⟨by rfl, ?_⟩; (intro w hSw; obtain ⟨x0, x1, x2⟩ := hSw; go_simp) <;> with_reducible rfl)); (try simp only [Act.put, List.setIfInBounds_toArray, List.set_cons_zero, List.set_cons_succ]))
              refine wpAnyH_done (by kernel_rfl) ?_ _
              go_wp2_with fail
              go_ret
              exact ⟨rfl, B3.upd⟩
set_option maxHeartbeats 1000000 in
theorem qHead (h : Hd) (w : World) (hi : hdI64 h) : Calls Tryd.prog 22 #[hdV h] w (Ret (.tuple #[txtV (headR h).1, .int .i64 (headR h).2]) w) := by
  have hr := Lib.hid (fun w => qRightHead h w)
  have hd := Lib.hid (fun w => qHead0 h w hi)
  have hyes := @headR_yes h
  have hno := @headR_no h
  obtain ⟨s, re, im, gone, null⟩ := h
  unfold hdV txtV at *
  simp only at *
  by_cases hok : HdOk ⟨s, re, im, gone, null⟩
  · rw [hyes hok]
    rw [decide_eq_true hok] at hr
    clear hyes hno
    generalize hdB ⟨s, re, im, gone, null⟩ = t at *
    replace hok := Lib.hid hok
    go_enter Tryd.func22, Tryd.ntmps22
    go_wp2_with fail
    refine (hr.out _).mono ?_
    rintro e w1 ⟨rfl, hB⟩
    replace hB : HdBox w s re im gone null w1 := hB
    obtain ⟨c0, c1, c2, c3, c4⟩ := hB.cells
    go_wp2_with fail
    refine (hd.out _).mono ?_
    rintro e w2 ⟨rfl, hu⟩
    go_wp2_with fail
    go_ret2
    exact ⟨rfl, hB.upd.trans hu fun _ _ h => h⟩
  · rw [hno hok]
    rw [decide_eq_false hok] at hr
    clear hyes hno hd
    replace hok := Lib.hid hok
    go_enter Tryd.func22, Tryd.ntmps22
    go_wp2_with fail
    refine (hr.out _).mono ?_
    rintro e w1 ⟨rfl, hB⟩
    replace hB : HdBox w s re im gone null w1 := hB
    obtain ⟨c0, c1, c2, c3, c4⟩ := hB.cells
    go_wp2_with fail
    go_ret2
    exact ⟨rfl, hB.upd⟩
end Go.Proofs.YtaflpabpkpfifaaDoor
