/- The walks over ambryref11: put, Bytes. -/
import Derived.Test.YtgdkgnolkepgdaaMSuC
namespace Go.Proofs.Ytgdkgnolkepgdaa
set_option maxRecDepth 100000
open Go.RowKit Go.Amb Go.Shelf
set_option linter.unusedVariables false
set_option linter.unusedSimpArgs false
attribute [local go_sem ↓] Go.wp_at_zero Go.wp_at_succ

theorem txt_add (a b : List UInt8) : (⟨a.toArray⟩ : ByteArray) ++ ⟨b.toArray⟩ = ⟨(a ++ b).toArray⟩ := ByteArray.mk_append_mk a b
set_option maxHeartbeats 1000000 in
theorem qPut (s : Sp) (w : World) (h : SpOk s) : Calls Try.prog 36 #[spV s] w (Ret (.string ⟨(putS s).toArray⟩) w) := by
  have hput : Hid (putS s = preS s ++ fld (sumC (preS s)) 4) := Lib.hid rfl
  have hpre : Hid (preS s = [65, 77, 66, 82] ++ fld s.gen 8 ++ fld (s.root + 1) 4 ++ fld s.start 8 ++ fld s.epoch 4 ++ fld s.last 8 ++ fld s.mark 8) := Lib.hid rfl
  have hlp := preS_length s
  generalize putS s = put at *
  generalize preS s = pre at *
  obtain ⟨⟨g0, g1⟩, ⟨s0, s1⟩, ⟨r0, r1⟩, ⟨e0, e1⟩, ⟨l0, l1⟩, m0, m1⟩ := h
  obtain ⟨g, r, st, ep, la, ma⟩ := s
  simp only at g0 g1 s0 s1 r0 r1 e0 e1 l0 l1 m0 m1 hpre
  have hwr : IntKind.i64.wrap (r + 1) = r + 1 := IntWalk.i64_in _ ⟨by omega, by omega⟩
  have hwr2 : wrap64 (r + 1) = r + 1 := IntWalk.wrap64_in _ ⟨by omega, by omega⟩
  have ha := txt_add
  have hfl := fld_length
  unfold spV
  go_enter Try.func36, Try.ntmps36
  go_wp2_with fail
  have hB0 : Upd Non (w.alloc (.cells #[.int .i64 g, .int .i64 r, .int .i64 st, .int .i64 ep, .int .i64 la, .int .i64 ma] 23)) (w.alloc (.cells #[.int .i64 g, .int .i64 r, .int .i64 st, .int .i64 ep, .int .i64 la, .int .i64 ma] 23)).drew := (Upd.refl Non _).then_drew
  refine wp_region_held_drew (S := (fun w' => w'.cell? ⟨w.heap.size, 0, none⟩ = some (.int .i64 g) ∧ w'.cell? ⟨w.heap.size, 1, none⟩ = some (.int .i64 r) ∧ w'.cell? ⟨w.heap.size, 2, none⟩ = some (.int .i64 st) ∧ w'.cell? ⟨w.heap.size, 3, none⟩ = some (.int .i64 ep) ∧ w'.cell? ⟨w.heap.size, 4, none⟩ = some (.int .i64 la) ∧ w'.cell? ⟨w.heap.size, 5, none⟩ = some (.int .i64 ma))) (by kernel_rfl) (by exact (box6 hB0).1) (fun hHeld => ?_)
  (refine wpAnyH_take (i := 0) (oi := ?oi_p1) (v := ?v_p1) ?ho_p1 ?hs_p1 ?hf_p1 ?hr_p1 ?hQ_p1 ?hy_p1 ?hS_p1 ?rest_p1; (case hr_p1 => kernel_rfl); (case hf_p1 => kernel_rfl); (case hs_p1 => kernel_rfl); (case ho_p1 => (simp only [List.getElem?_toArray, List.getElem?_cons_succ, List.getElem?_cons_zero]; rfl)); (case hS_p1 => assumption); (case hQ_p1 => exact fun _ _ _ h => h); (case hy_p1 => (refine Or.inl ⟨by rfl, ?_⟩; (intro w hSw; obtain ⟨x0, x1, x2, x3, x4, x5⟩ := hSw; go_simp) <;> with_reducible rfl)); (try simp only [Act.put, List.setIfInBounds_toArray, List.set_cons_zero, List.set_cons_succ]))
  (refine wpAnyH_take (i := 1) (oi := ?oi_p2) (v := ?v_p2) ?ho_p2 ?hs_p2 ?hf_p2 ?hr_p2 ?hQ_p2 ?hy_p2 ?hS_p2 ?rest_p2; (case hr_p2 => kernel_rfl); (case hf_p2 => kernel_rfl); (case hs_p2 => kernel_rfl); (case ho_p2 => (simp only [List.getElem?_toArray, List.getElem?_cons_succ, List.getElem?_cons_zero]; rfl)); (case hS_p2 => assumption); (case hQ_p2 => exact fun _ _ _ h => h); (case hy_p2 => (refine Or.inl ⟨by rfl, ?_⟩; (intro w hSw; obtain ⟨x0, x1, x2, x3, x4, x5⟩ := hSw; go_simp) <;> with_reducible rfl)); (try simp only [Act.put, List.setIfInBounds_toArray, List.set_cons_zero, List.set_cons_succ]))
  (refine wpAnyH_take (i := 4) (oi := ?oi_p3) (v := ?v_p3) ?ho_p3 ?hs_p3 ?hf_p3 ?hr_p3 ?hQ_p3 ?hy_p3 ?hS_p3 ?rest_p3; (case hr_p3 => kernel_rfl); (case hf_p3 => kernel_rfl); (case hs_p3 => kernel_rfl); (case ho_p3 => (simp only [List.getElem?_toArray, List.getElem?_cons_succ, List.getElem?_cons_zero]; rfl)); (case hS_p3 => assumption); (case hQ_p3 => exact fun _ _ _ h => h); (case hy_p3 => (refine Or.inl ⟨by rfl, ?_⟩; (intro w hSw; obtain ⟨x0, x1, x2, x3, x4, x5⟩ := hSw; go_simp) <;> with_reducible rfl)); (try simp only [Act.put, List.setIfInBounds_toArray, List.set_cons_zero, List.set_cons_succ]))
  (refine wpAnyH_take (i := 5) (oi := ?oi_p4) (v := ?v_p4) ?ho_p4 ?hs_p4 ?hf_p4 ?hr_p4 ?hQ_p4 ?hy_p4 ?hS_p4 ?rest_p4; (case hr_p4 => kernel_rfl); (case hf_p4 => kernel_rfl); (case hs_p4 => kernel_rfl); (case ho_p4 => (simp only [List.getElem?_toArray, List.getElem?_cons_succ, List.getElem?_cons_zero]; rfl)); (case hS_p4 => assumption); (case hQ_p4 => exact fun _ _ _ h => h); (case hy_p4 => (refine Or.inl ⟨by rfl, ?_⟩; (intro w hSw; obtain ⟨x0, x1, x2, x3, x4, x5⟩ := hSw; go_simp) <;> with_reducible rfl)); (try simp only [Act.put, List.setIfInBounds_toArray, List.set_cons_zero, List.set_cons_succ]))
  (refine wpAnyH_take (i := 6) (oi := ?oi_p5) (v := ?v_p5) ?ho_p5 ?hs_p5 ?hf_p5 ?hr_p5 ?hQ_p5 ?hy_p5 ?hS_p5 ?rest_p5; (case hr_p5 => kernel_rfl); (case hf_p5 => kernel_rfl); (case hs_p5 => kernel_rfl); (case ho_p5 => (simp only [List.getElem?_toArray, List.getElem?_cons_succ, List.getElem?_cons_zero]; rfl)); (case hS_p5 => assumption); (case hQ_p5 => exact fun _ _ _ h => h); (case hy_p5 => (refine Or.inl ⟨by rfl, ?_⟩; (intro w hSw; obtain ⟨x0, x1, x2, x3, x4, x5⟩ := hSw; go_simp) <;> with_reducible rfl)); (try simp only [Act.put, List.setIfInBounds_toArray, List.set_cons_zero, List.set_cons_succ]))
  (refine wpAnyH_take (i := 9) (oi := ?oi_p6) (v := ?v_p6) ?ho_p6 ?hs_p6 ?hf_p6 ?hr_p6 ?hQ_p6 ?hy_p6 ?hS_p6 ?rest_p6; (case hr_p6 => kernel_rfl); (case hf_p6 => kernel_rfl); (case hs_p6 => kernel_rfl); (case ho_p6 => (simp only [List.getElem?_toArray, List.getElem?_cons_succ, List.getElem?_cons_zero]; rfl)); (case hS_p6 => assumption); (case hQ_p6 => exact fun _ _ _ h => h); (case hy_p6 => (refine Or.inl ⟨by rfl, ?_⟩; (intro w hSw; obtain ⟨x0, x1, x2, x3, x4, x5⟩ := hSw; go_simp) <;> with_reducible rfl)); (try simp only [Act.put, List.setIfInBounds_toArray, List.set_cons_zero, List.set_cons_succ]))
  (refine wpAnyH_take (i := 10) (oi := ?oi_p7) (v := ?v_p7) ?ho_p7 ?hs_p7 ?hf_p7 ?hr_p7 ?hQ_p7 ?hy_p7 ?hS_p7 ?rest_p7; (case hr_p7 => kernel_rfl); (case hf_p7 => kernel_rfl); (case hs_p7 => kernel_rfl); (case ho_p7 => (simp only [List.getElem?_toArray, List.getElem?_cons_succ, List.getElem?_cons_zero]; rfl)); (case hS_p7 => assumption); (case hQ_p7 => exact fun _ _ _ h => h); (case hy_p7 => (refine Or.inl ⟨by rfl, ?_⟩; (intro w hSw; obtain ⟨x0, x1, x2, x3, x4, x5⟩ := hSw; go_simp) <;> with_reducible rfl)); (try simp only [Act.put, List.setIfInBounds_toArray, List.set_cons_zero, List.set_cons_succ]))
  (refine wpAnyH_take (i := 13) (oi := ?oi_p8) (v := ?v_p8) ?ho_p8 ?hs_p8 ?hf_p8 ?hr_p8 ?hQ_p8 ?hy_p8 ?hS_p8 ?rest_p8; (case hr_p8 => kernel_rfl); (case hf_p8 => kernel_rfl); (case hs_p8 => kernel_rfl); (case ho_p8 => (simp only [List.getElem?_toArray, List.getElem?_cons_succ, List.getElem?_cons_zero]; rfl)); (case hS_p8 => assumption); (case hQ_p8 => exact fun _ _ _ h => h); (case hy_p8 => (refine Or.inl ⟨by rfl, ?_⟩; (intro w hSw; obtain ⟨x0, x1, x2, x3, x4, x5⟩ := hSw; go_simp) <;> with_reducible rfl)); (try simp only [Act.put, List.setIfInBounds_toArray, List.set_cons_zero, List.set_cons_succ]))
  (refine wpAnyH_take (i := 14) (oi := ?oi_p9) (v := ?v_p9) ?ho_p9 ?hs_p9 ?hf_p9 ?hr_p9 ?hQ_p9 ?hy_p9 ?hS_p9 ?rest_p9; (case hr_p9 => kernel_rfl); (case hf_p9 => kernel_rfl); (case hs_p9 => kernel_rfl); (case ho_p9 => (simp only [List.getElem?_toArray, List.getElem?_cons_succ, List.getElem?_cons_zero]; rfl)); (case hS_p9 => assumption); (case hQ_p9 => exact fun _ _ _ h => h); (case hy_p9 => (refine Or.inl ⟨by rfl, ?_⟩; (intro w hSw; obtain ⟨x0, x1, x2, x3, x4, x5⟩ := hSw; go_simp) <;> with_reducible rfl)); (try simp only [Act.put, List.setIfInBounds_toArray, List.set_cons_zero, List.set_cons_succ]))
  (refine wpAnyH_take (i := 17) (oi := ?oi_p10) (v := ?v_p10) ?ho_p10 ?hs_p10 ?hf_p10 ?hr_p10 ?hQ_p10 ?hy_p10 ?hS_p10 ?rest_p10; (case hr_p10 => kernel_rfl); (case hf_p10 => kernel_rfl); (case hs_p10 => kernel_rfl); (case ho_p10 => (simp only [List.getElem?_toArray, List.getElem?_cons_succ, List.getElem?_cons_zero]; rfl)); (case hS_p10 => assumption); (case hQ_p10 => exact fun _ _ _ h => h); (case hy_p10 => (refine Or.inl ⟨by rfl, ?_⟩; (intro w hSw; obtain ⟨x0, x1, x2, x3, x4, x5⟩ := hSw; go_simp) <;> with_reducible rfl)); (try simp only [Act.put, List.setIfInBounds_toArray, List.set_cons_zero, List.set_cons_succ]))
  (refine wpAnyH_take (i := 18) (oi := ?oi_p11) (v := ?v_p11) ?ho_p11 ?hs_p11 ?hf_p11 ?hr_p11 ?hQ_p11 ?hy_p11 ?hS_p11 ?rest_p11; (case hr_p11 => kernel_rfl); (case hf_p11 => kernel_rfl); (case hs_p11 => kernel_rfl); (case ho_p11 => (simp only [List.getElem?_toArray, List.getElem?_cons_succ, List.getElem?_cons_zero]; rfl)); (case hS_p11 => assumption); (case hQ_p11 => exact fun _ _ _ h => h); (case hy_p11 => (refine Or.inl ⟨by rfl, ?_⟩; (intro w hSw; obtain ⟨x0, x1, x2, x3, x4, x5⟩ := hSw; go_simp) <;> with_reducible rfl)); (try simp only [Act.put, List.setIfInBounds_toArray, List.set_cons_zero, List.set_cons_succ]))
  (refine wpAnyH_take (i := 21) (oi := ?oi_p12) (v := ?v_p12) ?ho_p12 ?hs_p12 ?hf_p12 ?hr_p12 ?hQ_p12 ?hy_p12 ?hS_p12 ?rest_p12; (case hr_p12 => kernel_rfl); (case hf_p12 => kernel_rfl); (case hs_p12 => kernel_rfl); (case ho_p12 => (simp only [List.getElem?_toArray, List.getElem?_cons_succ, List.getElem?_cons_zero]; rfl)); (case hS_p12 => assumption); (case hQ_p12 => exact fun _ _ _ h => h); (case hy_p12 => (refine Or.inl ⟨by rfl, ?_⟩; (intro w hSw; obtain ⟨x0, x1, x2, x3, x4, x5⟩ := hSw; go_simp) <;> with_reducible rfl)); (try simp only [Act.put, List.setIfInBounds_toArray, List.set_cons_zero, List.set_cons_succ]))
  (refine wpAnyH_take (i := 22) (oi := ?oi_p13) (v := ?v_p13) ?ho_p13 ?hs_p13 ?hf_p13 ?hr_p13 ?hQ_p13 ?hy_p13 ?hS_p13 ?rest_p13; (case hr_p13 => kernel_rfl); (case hf_p13 => kernel_rfl); (case hs_p13 => kernel_rfl); (case ho_p13 => (simp only [List.getElem?_toArray, List.getElem?_cons_succ, List.getElem?_cons_zero]; rfl)); (case hS_p13 => assumption); (case hQ_p13 => exact fun _ _ _ h => h); (case hy_p13 => (refine Or.inl ⟨by rfl, ?_⟩; (intro w hSw; obtain ⟨x0, x1, x2, x3, x4, x5⟩ := hSw; go_simp) <;> with_reducible rfl)); (try simp only [Act.put, List.setIfInBounds_toArray, List.set_cons_zero, List.set_cons_succ]))
  refine wpAnyH_ready (rs := [2]) (by kernel_rfl) (by simp) ?_
  refine (AllReadyH.cons (o := ?oop14_0) ?hop14_0 ?hsp14_0 AllReadyH.nil)
  case hop14_0 => (simp only [List.getElem?_toArray, List.getElem?_cons_succ, List.getElem?_cons_zero]; rfl)
  case hsp14_0 =>
    intro K hK
    go_simp
    refine (refField g 8 _ (by omega) (by omega) (by decide)).mono ?_
    rintro en w21 ⟨rfl, hu1⟩
    have hB1 := hB0.trans hu1 (fun _ _ h => h)
    try go_wp2_with fail
    refine hK.out _ _ (by exact (box6 hB1).1) (fun hHeld => ?_)
    clear hK K
    try simp only [Act.put, List.setIfInBounds_toArray, List.set_cons_zero, List.set_cons_succ]
    (refine wpAnyH_take (i := 3) (oi := ?oi_p15) (v := ?v_p15) ?ho_p15 ?hs_p15 ?hf_p15 ?hr_p15 ?hQ_p15 ?hy_p15 ?hS_p15 ?rest_p15; (case hr_p15 => kernel_rfl); (case hf_p15 => kernel_rfl); (case hs_p15 => kernel_rfl); (case ho_p15 => (simp only [List.getElem?_toArray, List.getElem?_cons_succ, List.getElem?_cons_zero]; rfl)); (case hS_p15 => assumption); (case hQ_p15 => exact fun _ _ _ h => h); (case hy_p15 => (refine Or.inl ⟨by rfl, ?_⟩; (intro w hSw; skip; go_simp) <;> with_reducible rfl)); (try simp only [Act.put, List.setIfInBounds_toArray, List.set_cons_zero, List.set_cons_succ]))
    refine wpAnyH_ready (rs := [7]) (by kernel_rfl) (by simp) ?_
    refine (AllReadyH.cons (o := ?oop16_0) ?hop16_0 ?hsp16_0 AllReadyH.nil)
    case hop16_0 => (simp only [List.getElem?_toArray, List.getElem?_cons_succ, List.getElem?_cons_zero]; rfl)
    case hsp16_0 =>
      intro K hK
      go_simp
      refine (refField (r + 1) 4 _ (by omega) (by omega) (by decide)).mono ?_
      rintro en w22 ⟨rfl, hu2⟩
      have hB2 := hB1.trans hu2 (fun _ _ h => h)
      try go_wp2_with fail
      refine hK.out _ _ (by exact (box6 hB2).1) (fun hHeld => ?_)
      clear hK K
      try simp only [Act.put, List.setIfInBounds_toArray, List.set_cons_zero, List.set_cons_succ]
      (refine wpAnyH_take (i := 8) (oi := ?oi_p17) (v := ?v_p17) ?ho_p17 ?hs_p17 ?hf_p17 ?hr_p17 ?hQ_p17 ?hy_p17 ?hS_p17 ?rest_p17; (case hr_p17 => kernel_rfl); (case hf_p17 => kernel_rfl); (case hs_p17 => kernel_rfl); (case ho_p17 => (simp only [List.getElem?_toArray, List.getElem?_cons_succ, List.getElem?_cons_zero]; rfl)); (case hS_p17 => assumption); (case hQ_p17 => exact fun _ _ _ h => h); (case hy_p17 => (refine Or.inl ⟨by rfl, ?_⟩; (intro w hSw; skip; go_simp) <;> with_reducible rfl)); (try simp only [Act.put, List.setIfInBounds_toArray, List.set_cons_zero, List.set_cons_succ]))
      refine wpAnyH_ready (rs := [11]) (by kernel_rfl) (by simp) ?_
      refine (AllReadyH.cons (o := ?oop18_0) ?hop18_0 ?hsp18_0 AllReadyH.nil)
      case hop18_0 => (simp only [List.getElem?_toArray, List.getElem?_cons_succ, List.getElem?_cons_zero]; rfl)
      case hsp18_0 =>
        intro K hK
        go_simp
        refine (refField st 8 _ (by omega) (by omega) (by decide)).mono ?_
        rintro en w23 ⟨rfl, hu3⟩
        have hB3 := hB2.trans hu3 (fun _ _ h => h)
        try go_wp2_with fail
        refine hK.out _ _ (by exact (box6 hB3).1) (fun hHeld => ?_)
        clear hK K
        try simp only [Act.put, List.setIfInBounds_toArray, List.set_cons_zero, List.set_cons_succ]
        (refine wpAnyH_take (i := 12) (oi := ?oi_p19) (v := ?v_p19) ?ho_p19 ?hs_p19 ?hf_p19 ?hr_p19 ?hQ_p19 ?hy_p19 ?hS_p19 ?rest_p19; (case hr_p19 => kernel_rfl); (case hf_p19 => kernel_rfl); (case hs_p19 => kernel_rfl); (case ho_p19 => (simp only [List.getElem?_toArray, List.getElem?_cons_succ, List.getElem?_cons_zero]; rfl)); (case hS_p19 => assumption); (case hQ_p19 => exact fun _ _ _ h => h); (case hy_p19 => (refine Or.inl ⟨by rfl, ?_⟩; (intro w hSw; skip; go_simp) <;> with_reducible rfl)); (try simp only [Act.put, List.setIfInBounds_toArray, List.set_cons_zero, List.set_cons_succ]))
        refine wpAnyH_ready (rs := [15]) (by kernel_rfl) (by simp) ?_
        refine (AllReadyH.cons (o := ?oop20_0) ?hop20_0 ?hsp20_0 AllReadyH.nil)
        case hop20_0 => (simp only [List.getElem?_toArray, List.getElem?_cons_succ, List.getElem?_cons_zero]; rfl)
        case hsp20_0 =>
          intro K hK
          go_simp
          refine (refField ep 4 _ (by omega) (by omega) (by decide)).mono ?_
          rintro en w24 ⟨rfl, hu4⟩
          have hB4 := hB3.trans hu4 (fun _ _ h => h)
          try go_wp2_with fail
          refine hK.out _ _ (by exact (box6 hB4).1) (fun hHeld => ?_)
          clear hK K
          try simp only [Act.put, List.setIfInBounds_toArray, List.set_cons_zero, List.set_cons_succ]
          (refine wpAnyH_take (i := 16) (oi := ?oi_p21) (v := ?v_p21) ?ho_p21 ?hs_p21 ?hf_p21 ?hr_p21 ?hQ_p21 ?hy_p21 ?hS_p21 ?rest_p21; (case hr_p21 => kernel_rfl); (case hf_p21 => kernel_rfl); (case hs_p21 => kernel_rfl); (case ho_p21 => (simp only [List.getElem?_toArray, List.getElem?_cons_succ, List.getElem?_cons_zero]; rfl)); (case hS_p21 => assumption); (case hQ_p21 => exact fun _ _ _ h => h); (case hy_p21 => (refine Or.inl ⟨by rfl, ?_⟩; (intro w hSw; skip; go_simp) <;> with_reducible rfl)); (try simp only [Act.put, List.setIfInBounds_toArray, List.set_cons_zero, List.set_cons_succ]))
          refine wpAnyH_ready (rs := [19]) (by kernel_rfl) (by simp) ?_
          refine (AllReadyH.cons (o := ?oop22_0) ?hop22_0 ?hsp22_0 AllReadyH.nil)
          case hop22_0 => (simp only [List.getElem?_toArray, List.getElem?_cons_succ, List.getElem?_cons_zero]; rfl)
          case hsp22_0 =>
            intro K hK
            go_simp
            refine (refField la 8 _ (by omega) (by omega) (by decide)).mono ?_
            rintro en w25 ⟨rfl, hu5⟩
            have hB5 := hB4.trans hu5 (fun _ _ h => h)
            try go_wp2_with fail
            refine hK.out _ _ (by exact (box6 hB5).1) (fun hHeld => ?_)
            clear hK K
            try simp only [Act.put, List.setIfInBounds_toArray, List.set_cons_zero, List.set_cons_succ]
            (refine wpAnyH_take (i := 20) (oi := ?oi_p23) (v := ?v_p23) ?ho_p23 ?hs_p23 ?hf_p23 ?hr_p23 ?hQ_p23 ?hy_p23 ?hS_p23 ?rest_p23; (case hr_p23 => kernel_rfl); (case hf_p23 => kernel_rfl); (case hs_p23 => kernel_rfl); (case ho_p23 => (simp only [List.getElem?_toArray, List.getElem?_cons_succ, List.getElem?_cons_zero]; rfl)); (case hS_p23 => assumption); (case hQ_p23 => exact fun _ _ _ h => h); (case hy_p23 => (refine Or.inl ⟨by rfl, ?_⟩; (intro w hSw; skip; go_simp) <;> with_reducible rfl)); (try simp only [Act.put, List.setIfInBounds_toArray, List.set_cons_zero, List.set_cons_succ]))
            refine wpAnyH_ready (rs := [23]) (by kernel_rfl) (by simp) ?_
            refine (AllReadyH.cons (o := ?oop24_0) ?hop24_0 ?hsp24_0 AllReadyH.nil)
            case hop24_0 => (simp only [List.getElem?_toArray, List.getElem?_cons_succ, List.getElem?_cons_zero]; rfl)
            case hsp24_0 =>
              intro K hK
              go_simp
              refine (refField ma 8 _ (by omega) (by omega) (by decide)).mono ?_
              rintro en w26 ⟨rfl, hu6⟩
              have hB6 := hB5.trans hu6 (fun _ _ h => h)
              try go_wp2_with fail
              refine hK.out _ _ (by exact (box6 hB6).1) (fun hHeld => ?_)
              clear hK K
              try simp only [Act.put, List.setIfInBounds_toArray, List.set_cons_zero, List.set_cons_succ]
              (refine wpAnyH_take (i := 24) (oi := ?oi_p25) (v := ?v_p25) ?ho_p25 ?hs_p25 ?hf_p25 ?hr_p25 ?hQ_p25 ?hy_p25 ?hS_p25 ?rest_p25; (case hr_p25 => kernel_rfl); (case hf_p25 => kernel_rfl); (case hs_p25 => kernel_rfl); (case ho_p25 => (simp only [List.getElem?_toArray, List.getElem?_cons_succ, List.getElem?_cons_zero]; rfl)); (case hS_p25 => assumption); (case hQ_p25 => exact fun _ _ _ h => h); (case hy_p25 => (refine Or.inl ⟨by rfl, ?_⟩; (intro w hSw; skip; go_simp) <;> with_reducible rfl)); (try simp only [Act.put, List.setIfInBounds_toArray, List.set_cons_zero, List.set_cons_succ]))
              (refine wpAnyH_take (i := 25) (oi := ?oi_p26) (v := ?v_p26) ?ho_p26 ?hs_p26 ?hf_p26 ?hr_p26 ?hQ_p26 ?hy_p26 ?hS_p26 ?rest_p26; (case hr_p26 => kernel_rfl); (case hf_p26 => kernel_rfl); (case hs_p26 => kernel_rfl); (case ho_p26 => (simp only [List.getElem?_toArray, List.getElem?_cons_succ, List.getElem?_cons_zero]; rfl)); (case hS_p26 => assumption); (case hQ_p26 => exact fun _ _ _ h => h); (case hy_p26 => (refine Or.inl ⟨by rfl, ?_⟩; (intro w hSw; skip; go_simp) <;> with_reducible rfl)); (try simp only [Act.put, List.setIfInBounds_toArray, List.set_cons_zero, List.set_cons_succ]))
              refine wpAnyH_done (by kernel_rfl) ?_ _
              have hp2 : (65 :: 77 :: 66 :: 82 :: (fld g 8 ++ (fld (r + 1) 4 ++ (fld st 8 ++ (fld ep 4 ++ (fld la 8 ++ fld ma 8))))) : List UInt8) = pre := by rw [hpre.out]; simp
              rw [hp2]
              clear hp2 hpre
              have hsl := sum_lt pre
              have hsum := Lib.hid (fun w => refSum pre w (by omega))
              obtain ⟨sm, hsm⟩ : ∃ sm, sumC pre = sm := ⟨_, rfl⟩
              rw [hsm] at hsum hsl hput
              replace hsm := Lib.hid hsm
              have hsl2 : ((sm : Nat) : Int) < 4294967296 := by omega
              have hU6 := (box6 hB6).2
              clear hB0 hB1 hB2 hB3 hB4 hB5 hB6 hu1 hu2 hu3 hu4 hu5 hu6 hHeld
              go_wp2_with fail
              refine (hsum.out _).mono ?_
              rintro en w31 ⟨rfl, hu⟩
              replace hU6 := hU6.trans hu fun _ _ h => h
              clear hu
              go_wp2_with fail
              refine (refField (sm : Int) 4 _ (by omega) (by omega) (by decide)).mono ?_
              rintro en w32 ⟨rfl, hu⟩
              replace hU6 := hU6.trans hu fun _ _ h => h
              clear hu
              obtain rfl := hput.out
              go_wp2_with fail
              go_ret
              exact ⟨rfl, hU6⟩
set_option maxHeartbeats 1000000 in
theorem qBytes (s : Sp) (w : World) : Calls Try.prog 11 #[spV s] w (Ret (.tuple #[.string ⟨(bytesR s).1.toArray⟩, .int .i64 (bytesR s).2]) w) := by
  have hr := Lib.hid (fun w => qRight s w)
  by_cases hok : SpOk s
  · rw [decide_eq_true hok] at hr
    rw [bytesR_yes hok]
    have hp := Lib.hid (fun w => qPut s w hok)
    have hf := Lib.hid (fun w => refFull (putS s) (by rw [putS_length]; decide) w)
    generalize full (putS s) = t at *
    generalize putS s = p at *
    clear hok
    obtain ⟨g, r, st, ep, la, ma⟩ := s
    unfold spV at *
    go_enter Try.func11, Try.ntmps11
    go_wp2_with fail
    refine (hr.out _).mono ?_
    rintro e w1 ⟨rfl, hX⟩
    obtain ⟨⟨x0, x1, x2, x3, x4, x5⟩, hU⟩ := box6 hX
    clear hX
    go_wp2_with fail
    refine (hp.out _).mono ?_
    rintro e w2 ⟨rfl, hu⟩
    replace hU := hU.trans hu fun _ _ h => h
    clear hu x0 x1 x2 x3 x4 x5
    go_wp2_with fail
    refine (hf.out _).mono ?_
    rintro e w3 ⟨rfl, hu⟩
    replace hU := hU.trans hu fun _ _ h => h
    go_wp2_with fail
    go_ret2
    exact ⟨rfl, hU⟩
  · rw [decide_eq_false hok] at hr
    rw [bytesR_no hok]
    clear hok
    obtain ⟨g, r, st, ep, la, ma⟩ := s
    unfold spV at *
    go_enter Try.func11, Try.ntmps11
    go_wp2_with fail
    refine (hr.out _).mono ?_
    rintro e w1 ⟨rfl, hX⟩
    have hU := (box6 hX).2
    go_wp2_with fail
    go_ret2
    exact ⟨rfl, hU⟩
end Go.Proofs.Ytgdkgnolkepgdaa
