/- The reference's Bytes; the walk over SlotWrites. -/
import Derived.Test.YtiadbijholnbjaaSlN
namespace Go.Proofs.Ytiadbijholnbjaa
open Go.RowKit Go.Amb Go.Shelf
set_option linter.unusedVariables false
set_option linter.unusedSimpArgs false
/-- What the reference's Bytes tells. -/
def RefTo (x : S5) (w : World) : Ending → World → Prop := fun en w' =>
  (rightS x = true ∧ en = .returned (.tuple #[.string ⟨(slotB x).toArray⟩, .int .i64 0]) ∧ Upd Non w w') ∨ (rightS x = false ∧ en = .returned (.tuple #[.string ⟨#[]⟩, .int .i64 2]) ∧ Upd Non w w')
theorem refBytes (x : S5) (w : World) : Calls Try.prog 15 #[x.v] w (RefTo x w) := by
  have hr := Lib.hid (fun w => refRight x w)
  cases hR : rightS x with
  | false =>
    rw [hR] at hr
    obtain ⟨e, q, f, l, d⟩ := x
    replace hR := Lib.hid hR
    go_enter Try.func15, Try.ntmps15
    go_wp2_with fail
    refine (hr.out _).mono ?_
    rintro en w1 ⟨rfl, hu1⟩
    have hU1 := ((Upd.refl Non w).then_alloc (.cells #[.int .i64 e, .int .i64 q, .bool f, .bool l, .string ⟨d.toArray⟩] 41)).trans hu1 fun _ _ h => h
    go_wp2_with fail
    refine bodyPost_ret (v := .tuple #[.string ⟨#[]⟩, .int .i64 2]) (by simp [results, Try.results15, go_sem]; try rfl) rfl (.inr ⟨hR.out, rfl, hU1⟩)
  | true =>
    rw [hR] at hr
    have hp := Lib.hid (fun w => refPut x w hR)
    obtain ⟨B, hB⟩ : ∃ B, slotB x = B := ⟨_, rfl⟩
    rw [hB] at hp
    have hgoal : ∀ en w', (rightS x = true ∧ en = .returned (.tuple #[.string ⟨B.toArray⟩, .int .i64 0]) ∧ Upd Non w w') → RefTo x w en w' := fun en w' h => .inl (by rw [hB]; exact h)
    obtain ⟨e, q, f, l, d⟩ := x
    replace hR := Lib.hid hR
    replace hgoal := Lib.hid hgoal
    clear hB
    go_enter Try.func15, Try.ntmps15
    go_wp2_with fail
    refine (hr.out _).mono ?_
    rintro en w1 ⟨rfl, hu1⟩
    obtain ⟨y, -, hz1, hU1⟩ := hu1.own1 (fun _ h => h.elim)
    have y0 := y 0
    have y1 := y 1
    have y2 := y 2
    have y3 := y 3
    have y4 := y 4
    clear y hu1
    go_wp2_with fail
    refine (hp.out _).mono ?_
    rintro en w2 ⟨rfl, hu2⟩
    have hU2 := hU1.trans hu2 fun _ _ h => h
    go_wp2_with fail
    refine bodyPost_ret (v := .tuple #[.string ⟨B.toArray⟩, .int .i64 0]) (by simp [results, Try.results15, go_sem]; try rfl) rfl (hgoal.out _ _ ⟨hR.out, rfl, hU2⟩)
theorem both (x : S5) : ∃ (B : List UInt8) (z : Int), (∀ w, Calls Try.prog 14 #[x.v] w (fun en w' => ∃ v, en = .returned (.tuple #[v, .int .i64 z]) ∧ Bytes w' v B ∧ Upd Non w w')) ∧
    (∀ w, Calls Try.prog 15 #[x.v] w (fun en w' => en = .returned (.tuple #[.string ⟨B.toArray⟩, .int .i64 z]) ∧ Upd Non w w')) ∧
    (∀ w, Calls Try.prog 16 #[x.v] w (Ret (.int .i64 z) w)) ∧ (∀ w, Calls Try.prog 17 #[x.v] w (Ret (.int .i64 z) w)) := by
  cases hR : rightS x with
  | true =>
    refine ⟨slotB x, 0, fun w => (lBytes x w).mono fun en w' h => ?_, fun w => (refBytes x w).mono fun en w' h => ?_, fun w => ?_, fun w => ?_⟩
    · rcases h with ⟨_, v, rfl, ho, hu⟩ | ⟨hn, _⟩
      · exact ⟨v, rfl, ho.bytes, hu⟩
      · rw [hR] at hn; cases hn
    · rcases h with ⟨_, rfl, hu⟩ | ⟨hn, _⟩
      · exact ⟨rfl, hu⟩
      · rw [hR] at hn; cases hn
    · have := lCheck x w; rw [hR] at this; exact this
    · have := refCheck x w; rw [hR] at this; exact this
  | false =>
    refine ⟨[], 2, fun w => (lBytes x w).mono fun en w' h => ?_, fun w => (refBytes x w).mono fun en w' h => ?_, fun w => ?_, fun w => ?_⟩
    · rcases h with ⟨hn, _⟩ | ⟨_, rfl, hu⟩
      · rw [hR] at hn; cases hn
      · exact ⟨_, rfl, Has.nil _ _, hu⟩
    · rcases h with ⟨hn, _⟩ | ⟨_, rfl, hu⟩
      · rw [hR] at hn; cases hn
      · exact ⟨rfl, hu⟩
    · have := lCheck x w; rw [hR] at this; exact this
    · have := refCheck x w; rw [hR] at this; exact this
set_option maxRecDepth 100000
set_option maxHeartbeats 2000000 in
theorem lSlotWrites (x : S5) (w : World) : Calls Try.prog 6 #[x.v] w (Ret (.bool true) w) := by
  obtain ⟨B, z, hb, hr, hc, hd⟩ := both x
  replace hb := Lib.hid hb
  replace hr := Lib.hid hr
  replace hc := Lib.hid hc
  replace hd := Lib.hid hd
  obtain ⟨e, q, f, l, d⟩ := x
  go_enter Try.func6, Try.ntmps6
  go_wp2_with fail
  refine (hb.out _).mono ?_
  rintro en w1 ⟨v, rfl, hB, hu1⟩
  obtain ⟨y, -, hz1, hU1⟩ := hu1.own1 (fun _ h => h.elim)
  have y0 := y 0
  have y1 := y 1
  have y2 := y 2
  have y3 := y 3
  have y4 := y 4
  clear y hu1
  go_wp2_with fail
  refine (hr.out _).mono ?_
  rintro en w2 ⟨rfl, hu2⟩
  have hU2 := hU1.trans hu2 fun _ _ h => h
  have y0 := hu2.cell y0 fun h => h
  have y1 := hu2.cell y1 fun h => h
  have y2 := hu2.cell y2 fun h => h
  have y3 := hu2.cell y3 fun h => h
  have y4 := hu2.cell y4 fun h => h
  have hB2 := (hB.non hu2).non (Upd.drew Non w2)
  clear hu2 hU1 hB
  go_wp2_with fail
  refine wp_region_held_drew (S := (fun w' => w'.cell? ⟨w.heap.size, 0, none⟩ = some (.int .i64 e) ∧ w'.cell? ⟨w.heap.size, 1, none⟩ = some (.int .i64 q) ∧ w'.cell? ⟨w.heap.size, 2, none⟩ = some (.bool f) ∧ w'.cell? ⟨w.heap.size, 3, none⟩ = some (.bool l) ∧ w'.cell? ⟨w.heap.size, 4, none⟩ = some (.string ⟨d.toArray⟩))) (by kernel_rfl) (by (try dsimp only); first | exact ⟨c0, c1, c2, c3, c4⟩ | exact ⟨b0, b1, b2, b3, b4⟩ | exact ⟨a0, a1, a2, a3, a4⟩ | exact ⟨y0, y1, y2, y3, y4⟩) (fun hHeld => ?_)
  (refine wpAnyH_take (i := 0) (oi := ?oi_1_0) (v := ?v_1_0) ?ho_1_0 ?hs_1_0 ?hf_1_0 ?hr_1_0 ?hQ_1_0 ?hy_1_0 ?hS_1_0 ?rest_1_0; (case hr_1_0 => kernel_rfl); (case hf_1_0 => kernel_rfl); (case hs_1_0 => kernel_rfl); (case ho_1_0 => (simp only [List.getElem?_toArray, List.getElem?_cons_succ, List.getElem?_cons_zero]; rfl)); (case hS_1_0 => assumption); (case hQ_1_0 => exact fun _ _ _ h => h); (case hy_1_0 => (refine Or.inl ⟨by rfl, ?_⟩; (intro w hSw; (try dsimp only at hSw); go_simp) <;> with_reducible rfl)); (try simp only [Act.put, List.setIfInBounds_toArray, List.set_cons_zero, List.set_cons_succ]))
  (refine wpAnyH_take (i := 2) (oi := ?oi_1_2) (v := ?v_1_2) ?ho_1_2 ?hs_1_2 ?hf_1_2 ?hr_1_2 ?hQ_1_2 ?hy_1_2 ?hS_1_2 ?rest_1_2; (case hr_1_2 => kernel_rfl); (case hf_1_2 => kernel_rfl); (case hs_1_2 => kernel_rfl); (case ho_1_2 => (simp only [List.getElem?_toArray, List.getElem?_cons_succ, List.getElem?_cons_zero]; rfl)); (case hS_1_2 => assumption); (case hQ_1_2 => exact fun _ _ _ h => h); (case hy_1_2 => (refine Or.inl ⟨by rfl, ?_⟩; (intro w hSw; (try dsimp only at hSw); go_simp) <;> with_reducible rfl)); (try simp only [Act.put, List.setIfInBounds_toArray, List.set_cons_zero, List.set_cons_succ]))
  (refine wpAnyH_ready (rs := [1]) (by kernel_rfl) (by simp) ?_; refine AllReadyH.cons (o := ?oo_1_1) ?hoo_1_1 ?hst_1_1 AllReadyH.nil; (case hoo_1_1 => (simp only [List.getElem?_toArray, List.getElem?_cons_succ, List.getElem?_cons_zero]; rfl)); intro K hK; (first | (go_at_call 16; refine (hc.out _).mono ?_; rintro en w3 ⟨rfl, hu3⟩; have hU3 := (hU2.then_drew).trans hu3 (fun _ _ h => h); have a0 := hu3.cell y0 (fun h => h); have a1 := hu3.cell y1 (fun h => h); have a2 := hu3.cell y2 (fun h => h); have a3 := hu3.cell y3 (fun h => h); have a4 := hu3.cell y4 (fun h => h)) | (go_at_call 17; refine (hd.out _).mono ?_; rintro en w4 ⟨rfl, hu4⟩; have hU4 := hU3.trans hu4 (fun _ _ h => h); have b0 := hu4.cell a0 (fun h => h); have b1 := hu4.cell a1 (fun h => h); have b2 := hu4.cell a2 (fun h => h); have b3 := hu4.cell a3 (fun h => h); have b4 := hu4.cell a4 (fun h => h)) | (go_at_call 12; refine (lives05 _).mono ?_; rintro en w5 ⟨rfl, hu5⟩; have hU5 := hU4.trans hu5 (fun _ _ h => h); have c0 := hu5.cell b0 (fun h => h); have c1 := hu5.cell b1 (fun h => h); have c2 := hu5.cell b2 (fun h => h); have c3 := hu5.cell b3 (fun h => h); have c4 := hu5.cell b4 (fun h => h)) | (have hst := run_str (P := Try.prog) _ 42 9 5 Try.underlying42 Try.underlying5 Try.underlying9 _ _ hB2; go_simp)); (try go_wp2_with fail); refine hK.out _ _ (by (try dsimp only); first | exact ⟨c0, c1, c2, c3, c4⟩ | exact ⟨b0, b1, b2, b3, b4⟩ | exact ⟨a0, a1, a2, a3, a4⟩ | exact ⟨y0, y1, y2, y3, y4⟩) (fun hHeld => ?_); clear hK K; (try simp only [Act.put, List.setIfInBounds_toArray, List.set_cons_zero, List.set_cons_succ]))
  (refine wpAnyH_take (i := 3) (oi := ?oi_1_3) (v := ?v_1_3) ?ho_1_3 ?hs_1_3 ?hf_1_3 ?hr_1_3 ?hQ_1_3 ?hy_1_3 ?hS_1_3 ?rest_1_3; (case hr_1_3 => kernel_rfl); (case hf_1_3 => kernel_rfl); (case hs_1_3 => kernel_rfl); (case ho_1_3 => (simp only [List.getElem?_toArray, List.getElem?_cons_succ, List.getElem?_cons_zero]; rfl)); (case hS_1_3 => assumption); (case hQ_1_3 => exact fun _ _ _ h => h); (case hy_1_3 => (refine Or.inl ⟨by rfl, ?_⟩; (intro w hSw; (try dsimp only at hSw); go_simp) <;> with_reducible rfl)); (try simp only [Act.put, List.setIfInBounds_toArray, List.set_cons_zero, List.set_cons_succ]))
  (refine wpAnyH_take (i := 4) (oi := ?oi_1_4) (v := ?v_1_4) ?ho_1_4 ?hs_1_4 ?hf_1_4 ?hr_1_4 ?hQ_1_4 ?hy_1_4 ?hS_1_4 ?rest_1_4; (case hr_1_4 => kernel_rfl); (case hf_1_4 => kernel_rfl); (case hs_1_4 => kernel_rfl); (case ho_1_4 => (simp only [List.getElem?_toArray, List.getElem?_cons_succ, List.getElem?_cons_zero]; rfl)); (case hS_1_4 => assumption); (case hQ_1_4 => exact fun _ _ _ h => h); (case hy_1_4 => (refine Or.inl ⟨by rfl, ?_⟩; (intro w hSw; (try dsimp only at hSw); go_simp) <;> with_reducible rfl)); (try simp only [Act.put, List.setIfInBounds_toArray, List.set_cons_zero, List.set_cons_succ]))
  (refine wpAnyH_take (i := 5) (oi := ?oi_1_5) (v := ?v_1_5) ?ho_1_5 ?hs_1_5 ?hf_1_5 ?hr_1_5 ?hQ_1_5 ?hy_1_5 ?hS_1_5 ?rest_1_5; (case hr_1_5 => kernel_rfl); (case hf_1_5 => kernel_rfl); (case hs_1_5 => kernel_rfl); (case ho_1_5 => (simp only [List.getElem?_toArray, List.getElem?_cons_succ, List.getElem?_cons_zero]; rfl)); (case hS_1_5 => assumption); (case hQ_1_5 => exact fun _ _ _ h => h); (case hy_1_5 => (refine Or.inl ⟨by rfl, ?_⟩; (intro w hSw; (try dsimp only at hSw); go_simp) <;> with_reducible rfl)); (try simp only [Act.put, List.setIfInBounds_toArray, List.set_cons_zero, List.set_cons_succ]))
  (refine wpAnyH_take (i := 6) (oi := ?oi_1_6) (v := ?v_1_6) ?ho_1_6 ?hs_1_6 ?hf_1_6 ?hr_1_6 ?hQ_1_6 ?hy_1_6 ?hS_1_6 ?rest_1_6; (case hr_1_6 => kernel_rfl); (case hf_1_6 => kernel_rfl); (case hs_1_6 => kernel_rfl); (case ho_1_6 => (simp only [List.getElem?_toArray, List.getElem?_cons_succ, List.getElem?_cons_zero]; rfl)); (case hS_1_6 => assumption); (case hQ_1_6 => exact fun _ _ _ h => h); (case hy_1_6 => (refine Or.inl ⟨by rfl, ?_⟩; (intro w hSw; (try dsimp only at hSw); go_simp) <;> with_reducible rfl)); (try simp only [Act.put, List.setIfInBounds_toArray, List.set_cons_zero, List.set_cons_succ]))
  (refine wpAnyH_take (i := 7) (oi := ?oi_1_7) (v := ?v_1_7) ?ho_1_7 ?hs_1_7 ?hf_1_7 ?hr_1_7 ?hQ_1_7 ?hy_1_7 ?hS_1_7 ?rest_1_7; (case hr_1_7 => kernel_rfl); (case hf_1_7 => kernel_rfl); (case hs_1_7 => kernel_rfl); (case ho_1_7 => (simp only [List.getElem?_toArray, List.getElem?_cons_succ, List.getElem?_cons_zero]; rfl)); (case hS_1_7 => assumption); (case hQ_1_7 => exact fun _ _ _ h => h); (case hy_1_7 => (refine Or.inl ⟨by rfl, ?_⟩; (intro w hSw; (try dsimp only at hSw); go_simp) <;> with_reducible rfl)); (try simp only [Act.put, List.setIfInBounds_toArray, List.set_cons_zero, List.set_cons_succ]))
  (refine wpAnyH_take (i := 8) (oi := ?oi_1_8) (v := ?v_1_8) ?ho_1_8 ?hs_1_8 ?hf_1_8 ?hr_1_8 ?hQ_1_8 ?hy_1_8 ?hS_1_8 ?rest_1_8; (case hr_1_8 => kernel_rfl); (case hf_1_8 => kernel_rfl); (case hs_1_8 => kernel_rfl); (case ho_1_8 => (simp only [List.getElem?_toArray, List.getElem?_cons_succ, List.getElem?_cons_zero]; rfl)); (case hS_1_8 => assumption); (case hQ_1_8 => exact fun _ _ _ h => h); (case hy_1_8 => (refine Or.inl ⟨by rfl, ?_⟩; (intro w hSw; (try dsimp only at hSw); go_simp) <;> with_reducible rfl)); (try simp only [Act.put, List.setIfInBounds_toArray, List.set_cons_zero, List.set_cons_succ]))
  (refine wpAnyH_take (i := 9) (oi := ?oi_1_9) (v := ?v_1_9) ?ho_1_9 ?hs_1_9 ?hf_1_9 ?hr_1_9 ?hQ_1_9 ?hy_1_9 ?hS_1_9 ?rest_1_9; (case hr_1_9 => kernel_rfl); (case hf_1_9 => kernel_rfl); (case hs_1_9 => kernel_rfl); (case ho_1_9 => (simp only [List.getElem?_toArray, List.getElem?_cons_succ, List.getElem?_cons_zero]; rfl)); (case hS_1_9 => assumption); (case hQ_1_9 => exact fun _ _ _ h => h); (case hy_1_9 => (refine Or.inl ⟨by rfl, ?_⟩; (intro w hSw; (try dsimp only at hSw); go_simp) <;> with_reducible rfl)); (try simp only [Act.put, List.setIfInBounds_toArray, List.set_cons_zero, List.set_cons_succ]))
  (refine wpAnyH_take (i := 10) (oi := ?oi_1_10) (v := ?v_1_10) ?ho_1_10 ?hs_1_10 ?hf_1_10 ?hr_1_10 ?hQ_1_10 ?hy_1_10 ?hS_1_10 ?rest_1_10; (case hr_1_10 => kernel_rfl); (case hf_1_10 => kernel_rfl); (case hs_1_10 => kernel_rfl); (case ho_1_10 => (simp only [List.getElem?_toArray, List.getElem?_cons_succ, List.getElem?_cons_zero]; rfl)); (case hS_1_10 => assumption); (case hQ_1_10 => exact fun _ _ _ h => h); (case hy_1_10 => (refine Or.inl ⟨by rfl, ?_⟩; (intro w hSw; (try dsimp only at hSw); go_simp) <;> with_reducible rfl)); (try simp only [Act.put, List.setIfInBounds_toArray, List.set_cons_zero, List.set_cons_succ]))
  (refine wpAnyH_take (i := 12) (oi := ?oi_1_12) (v := ?v_1_12) ?ho_1_12 ?hs_1_12 ?hf_1_12 ?hr_1_12 ?hQ_1_12 ?hy_1_12 ?hS_1_12 ?rest_1_12; (case hr_1_12 => kernel_rfl); (case hf_1_12 => kernel_rfl); (case hs_1_12 => kernel_rfl); (case ho_1_12 => (simp only [List.getElem?_toArray, List.getElem?_cons_succ, List.getElem?_cons_zero]; rfl)); (case hS_1_12 => assumption); (case hQ_1_12 => exact fun _ _ _ h => h); (case hy_1_12 => (refine Or.inl ⟨by rfl, ?_⟩; (intro w hSw; (try dsimp only at hSw); go_simp) <;> with_reducible rfl)); (try simp only [Act.put, List.setIfInBounds_toArray, List.set_cons_zero, List.set_cons_succ]))
  (refine wpAnyH_ready (rs := [11]) (by kernel_rfl) (by simp) ?_; refine AllReadyH.cons (o := ?oo_1_11) ?hoo_1_11 ?hst_1_11 AllReadyH.nil; (case hoo_1_11 => (simp only [List.getElem?_toArray, List.getElem?_cons_succ, List.getElem?_cons_zero]; rfl)); intro K hK; go_simp; (first | (go_at_call 16; refine (hc.out _).mono ?_; rintro en w3 ⟨rfl, hu3⟩; have hU3 := (hU2.then_drew).trans hu3 (fun _ _ h => h); have a0 := hu3.cell y0 (fun h => h); have a1 := hu3.cell y1 (fun h => h); have a2 := hu3.cell y2 (fun h => h); have a3 := hu3.cell y3 (fun h => h); have a4 := hu3.cell y4 (fun h => h)) | (go_at_call 17; refine (hd.out _).mono ?_; rintro en w4 ⟨rfl, hu4⟩; have hU4 := hU3.trans hu4 (fun _ _ h => h); have b0 := hu4.cell a0 (fun h => h); have b1 := hu4.cell a1 (fun h => h); have b2 := hu4.cell a2 (fun h => h); have b3 := hu4.cell a3 (fun h => h); have b4 := hu4.cell a4 (fun h => h)) | (go_at_call 12; refine (lives05 _).mono ?_; rintro en w5 ⟨rfl, hu5⟩; have hU5 := hU4.trans hu5 (fun _ _ h => h); have c0 := hu5.cell b0 (fun h => h); have c1 := hu5.cell b1 (fun h => h); have c2 := hu5.cell b2 (fun h => h); have c3 := hu5.cell b3 (fun h => h); have c4 := hu5.cell b4 (fun h => h)) | (have hst := run_str (P := Try.prog) _ 42 9 5 Try.underlying42 Try.underlying5 Try.underlying9 _ _ hB2; go_simp)); (try go_wp2_with fail); refine hK.out _ _ (by (try dsimp only); first | exact ⟨c0, c1, c2, c3, c4⟩ | exact ⟨b0, b1, b2, b3, b4⟩ | exact ⟨a0, a1, a2, a3, a4⟩ | exact ⟨y0, y1, y2, y3, y4⟩) (fun hHeld => ?_); clear hK K; (try simp only [Act.put, List.setIfInBounds_toArray, List.set_cons_zero, List.set_cons_succ]))
  (refine wpAnyH_ready (rs := [13]) (by kernel_rfl) (by simp) ?_; refine AllReadyH.cons (o := ?oo_1_13) ?hoo_1_13 ?hst_1_13 AllReadyH.nil; (case hoo_1_13 => (simp only [List.getElem?_toArray, List.getElem?_cons_succ, List.getElem?_cons_zero]; rfl)); intro K hK; go_simp; (first | (go_at_call 16; refine (hc.out _).mono ?_; rintro en w3 ⟨rfl, hu3⟩; have hU3 := (hU2.then_drew).trans hu3 (fun _ _ h => h); have a0 := hu3.cell y0 (fun h => h); have a1 := hu3.cell y1 (fun h => h); have a2 := hu3.cell y2 (fun h => h); have a3 := hu3.cell y3 (fun h => h); have a4 := hu3.cell y4 (fun h => h)) | (go_at_call 17; refine (hd.out _).mono ?_; rintro en w4 ⟨rfl, hu4⟩; have hU4 := hU3.trans hu4 (fun _ _ h => h); have b0 := hu4.cell a0 (fun h => h); have b1 := hu4.cell a1 (fun h => h); have b2 := hu4.cell a2 (fun h => h); have b3 := hu4.cell a3 (fun h => h); have b4 := hu4.cell a4 (fun h => h)) | (go_at_call 12; refine (lives05 _).mono ?_; rintro en w5 ⟨rfl, hu5⟩; have hU5 := hU4.trans hu5 (fun _ _ h => h); have c0 := hu5.cell b0 (fun h => h); have c1 := hu5.cell b1 (fun h => h); have c2 := hu5.cell b2 (fun h => h); have c3 := hu5.cell b3 (fun h => h); have c4 := hu5.cell b4 (fun h => h)) | (have hst := run_str (P := Try.prog) _ 42 9 5 Try.underlying42 Try.underlying5 Try.underlying9 _ _ hB2; go_simp)); (try go_wp2_with fail); refine hK.out _ _ (by (try dsimp only); first | exact ⟨c0, c1, c2, c3, c4⟩ | exact ⟨b0, b1, b2, b3, b4⟩ | exact ⟨a0, a1, a2, a3, a4⟩ | exact ⟨y0, y1, y2, y3, y4⟩) (fun hHeld => ?_); clear hK K; (try simp only [Act.put, List.setIfInBounds_toArray, List.set_cons_zero, List.set_cons_succ]))
  (refine wpAnyH_take (i := 14) (oi := ?oi_1_14) (v := ?v_1_14) ?ho_1_14 ?hs_1_14 ?hf_1_14 ?hr_1_14 ?hQ_1_14 ?hy_1_14 ?hS_1_14 ?rest_1_14; (case hr_1_14 => kernel_rfl); (case hf_1_14 => kernel_rfl); (case hs_1_14 => kernel_rfl); (case ho_1_14 => (simp only [List.getElem?_toArray, List.getElem?_cons_succ, List.getElem?_cons_zero]; rfl)); (case hS_1_14 => assumption); (case hQ_1_14 => exact fun _ _ _ h => h); (case hy_1_14 => (refine Or.inl ⟨by rfl, ?_⟩; (intro w hSw; (try dsimp only at hSw); go_simp) <;> with_reducible rfl)); (try simp only [Act.put, List.setIfInBounds_toArray, List.set_cons_zero, List.set_cons_succ]))
  (refine wpAnyH_take (i := 15) (oi := ?oi_1_15) (v := ?v_1_15) ?ho_1_15 ?hs_1_15 ?hf_1_15 ?hr_1_15 ?hQ_1_15 ?hy_1_15 ?hS_1_15 ?rest_1_15; (case hr_1_15 => kernel_rfl); (case hf_1_15 => kernel_rfl); (case hs_1_15 => kernel_rfl); (case ho_1_15 => (simp only [List.getElem?_toArray, List.getElem?_cons_succ, List.getElem?_cons_zero]; rfl)); (case hS_1_15 => assumption); (case hQ_1_15 => exact fun _ _ _ h => h); (case hy_1_15 => (refine Or.inl ⟨by rfl, ?_⟩; (intro w hSw; (try dsimp only at hSw); go_simp) <;> with_reducible rfl)); (try simp only [Act.put, List.setIfInBounds_toArray, List.set_cons_zero, List.set_cons_succ]))
  (refine wpAnyH_take (i := 16) (oi := ?oi_1_16) (v := ?v_1_16) ?ho_1_16 ?hs_1_16 ?hf_1_16 ?hr_1_16 ?hQ_1_16 ?hy_1_16 ?hS_1_16 ?rest_1_16; (case hr_1_16 => kernel_rfl); (case hf_1_16 => kernel_rfl); (case hs_1_16 => kernel_rfl); (case ho_1_16 => (simp only [List.getElem?_toArray, List.getElem?_cons_succ, List.getElem?_cons_zero]; rfl)); (case hS_1_16 => assumption); (case hQ_1_16 => exact fun _ _ _ h => h); (case hy_1_16 => (refine Or.inl ⟨by rfl, ?_⟩; (intro w hSw; (try dsimp only at hSw); go_simp) <;> with_reducible rfl)); (try simp only [Act.put, List.setIfInBounds_toArray, List.set_cons_zero, List.set_cons_succ]))
  (refine wpAnyH_ready (rs := [17]) (by kernel_rfl) (by simp) ?_; refine AllReadyH.cons (o := ?oo_1_17) ?hoo_1_17 ?hst_1_17 AllReadyH.nil; (case hoo_1_17 => (simp only [List.getElem?_toArray, List.getElem?_cons_succ, List.getElem?_cons_zero]; rfl)); intro K hK; go_simp; (first | (go_at_call 16; refine (hc.out _).mono ?_; rintro en w3 ⟨rfl, hu3⟩; have hU3 := (hU2.then_drew).trans hu3 (fun _ _ h => h); have a0 := hu3.cell y0 (fun h => h); have a1 := hu3.cell y1 (fun h => h); have a2 := hu3.cell y2 (fun h => h); have a3 := hu3.cell y3 (fun h => h); have a4 := hu3.cell y4 (fun h => h)) | (go_at_call 17; refine (hd.out _).mono ?_; rintro en w4 ⟨rfl, hu4⟩; have hU4 := hU3.trans hu4 (fun _ _ h => h); have b0 := hu4.cell a0 (fun h => h); have b1 := hu4.cell a1 (fun h => h); have b2 := hu4.cell a2 (fun h => h); have b3 := hu4.cell a3 (fun h => h); have b4 := hu4.cell a4 (fun h => h)) | (go_at_call 12; refine (lives05 _).mono ?_; rintro en w5 ⟨rfl, hu5⟩; have hU5 := hU4.trans hu5 (fun _ _ h => h); have c0 := hu5.cell b0 (fun h => h); have c1 := hu5.cell b1 (fun h => h); have c2 := hu5.cell b2 (fun h => h); have c3 := hu5.cell b3 (fun h => h); have c4 := hu5.cell b4 (fun h => h)) | (have hst := run_str (P := Try.prog) _ 42 9 5 Try.underlying42 Try.underlying5 Try.underlying9 _ _ hB2; go_simp)); (try go_wp2_with fail); refine hK.out _ _ (by (try dsimp only); first | exact ⟨c0, c1, c2, c3, c4⟩ | exact ⟨b0, b1, b2, b3, b4⟩ | exact ⟨a0, a1, a2, a3, a4⟩ | exact ⟨y0, y1, y2, y3, y4⟩) (fun hHeld => ?_); clear hK K; (try simp only [Act.put, List.setIfInBounds_toArray, List.set_cons_zero, List.set_cons_succ]))
  (refine wpAnyH_take (i := 18) (oi := ?oi_1_18) (v := ?v_1_18) ?ho_1_18 ?hs_1_18 ?hf_1_18 ?hr_1_18 ?hQ_1_18 ?hy_1_18 ?hS_1_18 ?rest_1_18; (case hr_1_18 => kernel_rfl); (case hf_1_18 => kernel_rfl); (case hs_1_18 => kernel_rfl); (case ho_1_18 => (simp only [List.getElem?_toArray, List.getElem?_cons_succ, List.getElem?_cons_zero]; rfl)); (case hS_1_18 => assumption); (case hQ_1_18 => exact fun _ _ _ h => h); (case hy_1_18 => (refine Or.inl ⟨by rfl, ?_⟩; (intro w hSw; (try dsimp only at hSw); go_simp) <;> with_reducible rfl)); (try simp only [Act.put, List.setIfInBounds_toArray, List.set_cons_zero, List.set_cons_succ]))
  (refine wpAnyH_take (i := 19) (oi := ?oi_1_19) (v := ?v_1_19) ?ho_1_19 ?hs_1_19 ?hf_1_19 ?hr_1_19 ?hQ_1_19 ?hy_1_19 ?hS_1_19 ?rest_1_19; (case hr_1_19 => kernel_rfl); (case hf_1_19 => kernel_rfl); (case hs_1_19 => kernel_rfl); (case ho_1_19 => (simp only [List.getElem?_toArray, List.getElem?_cons_succ, List.getElem?_cons_zero]; rfl)); (case hS_1_19 => assumption); (case hQ_1_19 => exact fun _ _ _ h => h); (case hy_1_19 => (refine Or.inl ⟨by rfl, ?_⟩; (intro w hSw; (try dsimp only at hSw); go_simp) <;> with_reducible rfl)); (try simp only [Act.put, List.setIfInBounds_toArray, List.set_cons_zero, List.set_cons_succ]))
  refine wpAnyH_done (by kernel_rfl) ?_ _
  go_wp2_with fail
  go_ret
  exact ⟨rfl, hU5⟩
end Go.Proofs.Ytiadbijholnbjaa
