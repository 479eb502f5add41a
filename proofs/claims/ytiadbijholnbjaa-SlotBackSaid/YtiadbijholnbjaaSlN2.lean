/- The reference's put. -/
import Derived.Test.YtiadbijholnbjaaSlN0
import Derived.Test.YtiadbijholnbjaaTagB
import Derived.Test.YtiadbijholnbjaaRefA
import Derived.Test.YtiadbijholnbjaaSlI
namespace Go.Proofs.Ytiadbijholnbjaa
open Go.RowKit Go.Amb Go.Shelf
set_option linter.unusedVariables false
set_option linter.unusedSimpArgs false
attribute [local go_sem] Go.Amb.fld_length
set_option maxRecDepth 100000
set_option maxHeartbeats 8000000 in
theorem refPut2 (e q : Int) (d : List UInt8) (w : World) (hR : rightS ⟨e, q, false, true, d⟩ = true) : Calls Try.prog 29 #[(⟨e, q, false, true, d⟩ : S5).v] w (Ret (.string ⟨(slotB ⟨e, q, false, true, d⟩).toArray⟩) w) := by
  have hRR := of_decide_eq_true hR
  simp only at hRR
  have hd : d.length ≤ 108 := hRR.2.2
  have he1 := hRR.1.1
  have he2 := hRR.1.2
  have hq1 := hRR.2.1.1
  have hq2 := hRR.2.1.2
  clear hRR
  have hmk0 := fun w => run_make1 Try.underlying42 (show (Try.prog.info? 5).map (fun i => (i.zero, i.size, i.bytes)) = some (some (.int .u8 0), 1, 1) from rfl) rfl (108 - d.length) (by omega) (by omega) w
  have hm : (108 : Int) - (d.length : Int) = ((108 - d.length : Nat) : Int) := by omega
  have hmw : IntKind.i64.wrap ((108 - d.length : Nat) : Int) = ((108 - d.length : Nat) : Int) := IntWalk.i64_in _ ⟨by omega, by omega⟩
  have h16 : ¬ 9223372036854775807 < 16 + d.length := by omega
  have h124 : ¬ 9223372036854775807 < 16 + d.length + (108 - d.length) := by omega
  have hbx := cells_of (heap_alloc_new w (.cells #[.int .i64 e, .int .i64 q, .bool false, .bool true, .string ⟨d.toArray⟩] 41))
  have x0 := hbx.1 0
  have x1 := hbx.1 1
  have x4 := hbx.1 4
  have hU := Upd.alloc Non w (.cells #[.int .i64 e, .int .i64 q, .bool false, .bool true, .string ⟨d.toArray⟩] 41)
  clear hbx
  replace hR := Lib.hid hR
  have hslot0 : slotB ⟨e, q, false, true, d⟩ = slotBody ⟨e, q, false, true, d⟩ ++ fld (sumC (slotBody ⟨e, q, false, true, d⟩) : Nat) 4 := rfl
  have hstr0 := body_str (flagS false true : Nat) e q (d.length : Int) d (108 - d.length)
  rw [show [83] ++ fld (flagS false true : Nat) 1 ++ fld e 4 ++ fld q 8 ++ fld (d.length : Int) 2 ++ d ++ List.replicate (108 - d.length) 0 = slotBody ⟨e, q, false, true, d⟩ from rfl] at hstr0
  have hlen0 : (slotBody ⟨e, q, false, true, d⟩).length = 124 := by
    unfold slotBody
    simp only [List.length_append, fld_length, List.length_replicate, List.length_cons, List.length_nil]
    omega
  obtain ⟨BB, hBB⟩ : ∃ BB, slotBody ⟨e, q, false, true, d⟩ = BB := ⟨_, rfl⟩
  rw [hBB] at hslot0 hstr0 hlen0
  have hsl := sumC_lt BB
  obtain ⟨sm, hsm⟩ : ∃ sm, sumC BB = sm := ⟨_, rfl⟩
  rw [hsm] at hslot0 hsl
  have h128 : ¬ 9223372036854775807 < BB.length + 4 := by omega
  have hsl2 : (sm : Int) < 4294967296 := by omega
  clear hsl
  replace hsm := Lib.hid hsm
  have hBBl := Lib.hid hlen0
  clear hlen0 hBB
  have hslot := Lib.hid hslot0
  have hstr : _ = _ := hstr0
  rw [show ((flagS false true : Nat) : Int) = 2 from rfl] at hstr
  clear hslot0 hstr0
  go_enter Try.func29, Try.ntmps29
  go_wp2_with fail
  refine wp_region_held_drew (S := (fun w' => w'.cell? ⟨w.heap.size, 0, none⟩ = some (.int .i64 e) ∧ w'.cell? ⟨w.heap.size, 1, none⟩ = some (.int .i64 q) ∧ w'.cell? ⟨w.heap.size, 4, none⟩ = some (.string ⟨d.toArray⟩))) (by kernel_rfl) (by (try dsimp only); exact ⟨x0, x1, x4⟩) (fun hHeld => ?_)
  replace hU := hU.then_drew
  (refine wpAnyH_take (i := 0) (oi := ?oi_267) (v := ?v_267) ?ho_267 ?hs_267 ?hf_267 ?hr_267 ?hQ_267 ?hy_267 ?hS_267 ?rest_267; (case hr_267 => kernel_rfl); (case hf_267 => kernel_rfl); (case hs_267 => kernel_rfl); (case ho_267 => (simp only [List.getElem?_toArray, List.getElem?_cons_succ, List.getElem?_cons_zero]; rfl)); (case hS_267 => assumption); (case hQ_267 => exact fun _ _ _ h => h); (case hy_267 => (refine Or.inl ⟨by rfl, ?_⟩; (intro w hSw; (try dsimp only at hSw); go_simp) <;> with_reducible rfl)); (try simp only [Act.put, List.setIfInBounds_toArray, List.set_cons_zero, List.set_cons_succ]))
  (refine wpAnyH_take (i := 3) (oi := ?oi_268) (v := ?v_268) ?ho_268 ?hs_268 ?hf_268 ?hr_268 ?hQ_268 ?hy_268 ?hS_268 ?rest_268; (case hr_268 => kernel_rfl); (case hf_268 => kernel_rfl); (case hs_268 => kernel_rfl); (case ho_268 => (simp only [List.getElem?_toArray, List.getElem?_cons_succ, List.getElem?_cons_zero]; rfl)); (case hS_268 => assumption); (case hQ_268 => exact fun _ _ _ h => h); (case hy_268 => (refine Or.inl ⟨by rfl, ?_⟩; (intro w hSw; (try dsimp only at hSw); go_simp) <;> with_reducible rfl)); (try simp only [Act.put, List.setIfInBounds_toArray, List.set_cons_zero, List.set_cons_succ]))
  (refine wpAnyH_take (i := 4) (oi := ?oi_269) (v := ?v_269) ?ho_269 ?hs_269 ?hf_269 ?hr_269 ?hQ_269 ?hy_269 ?hS_269 ?rest_269; (case hr_269 => kernel_rfl); (case hf_269 => kernel_rfl); (case hs_269 => kernel_rfl); (case ho_269 => (simp only [List.getElem?_toArray, List.getElem?_cons_succ, List.getElem?_cons_zero]; rfl)); (case hS_269 => assumption); (case hQ_269 => exact fun _ _ _ h => h); (case hy_269 => (refine Or.inl ⟨by rfl, ?_⟩; (intro w hSw; (try dsimp only at hSw); go_simp) <;> with_reducible rfl)); (try simp only [Act.put, List.setIfInBounds_toArray, List.set_cons_zero, List.set_cons_succ]))
  (refine wpAnyH_take (i := 7) (oi := ?oi_270) (v := ?v_270) ?ho_270 ?hs_270 ?hf_270 ?hr_270 ?hQ_270 ?hy_270 ?hS_270 ?rest_270; (case hr_270 => kernel_rfl); (case hf_270 => kernel_rfl); (case hs_270 => kernel_rfl); (case ho_270 => (simp only [List.getElem?_toArray, List.getElem?_cons_succ, List.getElem?_cons_zero]; rfl)); (case hS_270 => assumption); (case hQ_270 => exact fun _ _ _ h => h); (case hy_270 => (refine Or.inl ⟨by rfl, ?_⟩; (intro w hSw; (try dsimp only at hSw); go_simp) <;> with_reducible rfl)); (try simp only [Act.put, List.setIfInBounds_toArray, List.set_cons_zero, List.set_cons_succ]))
  (refine wpAnyH_take (i := 8) (oi := ?oi_271) (v := ?v_271) ?ho_271 ?hs_271 ?hf_271 ?hr_271 ?hQ_271 ?hy_271 ?hS_271 ?rest_271; (case hr_271 => kernel_rfl); (case hf_271 => kernel_rfl); (case hs_271 => kernel_rfl); (case ho_271 => (simp only [List.getElem?_toArray, List.getElem?_cons_succ, List.getElem?_cons_zero]; rfl)); (case hS_271 => assumption); (case hQ_271 => exact fun _ _ _ h => h); (case hy_271 => (refine Or.inl ⟨by rfl, ?_⟩; (intro w hSw; (try dsimp only at hSw); go_simp) <;> with_reducible rfl)); (try simp only [Act.put, List.setIfInBounds_toArray, List.set_cons_zero, List.set_cons_succ]))
  (refine wpAnyH_take (i := 11) (oi := ?oi_272) (v := ?v_272) ?ho_272 ?hs_272 ?hf_272 ?hr_272 ?hQ_272 ?hy_272 ?hS_272 ?rest_272; (case hr_272 => kernel_rfl); (case hf_272 => kernel_rfl); (case hs_272 => kernel_rfl); (case ho_272 => (simp only [List.getElem?_toArray, List.getElem?_cons_succ, List.getElem?_cons_zero]; rfl)); (case hS_272 => assumption); (case hQ_272 => exact fun _ _ _ h => h); (case hy_272 => (refine Or.inl ⟨by rfl, ?_⟩; (intro w hSw; (try dsimp only at hSw); go_simp) <;> with_reducible rfl)); (try simp only [Act.put, List.setIfInBounds_toArray, List.set_cons_zero, List.set_cons_succ]))
  (refine wpAnyH_take (i := 12) (oi := ?oi_273) (v := ?v_273) ?ho_273 ?hs_273 ?hf_273 ?hr_273 ?hQ_273 ?hy_273 ?hS_273 ?rest_273; (case hr_273 => kernel_rfl); (case hf_273 => kernel_rfl); (case hs_273 => kernel_rfl); (case ho_273 => (simp only [List.getElem?_toArray, List.getElem?_cons_succ, List.getElem?_cons_zero]; rfl)); (case hS_273 => assumption); (case hQ_273 => exact fun _ _ _ h => h); (case hy_273 => (refine Or.inl ⟨by rfl, ?_⟩; (intro w hSw; (try dsimp only at hSw); go_simp) <;> with_reducible rfl)); (try simp only [Act.put, List.setIfInBounds_toArray, List.set_cons_zero, List.set_cons_succ]))
  (refine wpAnyH_take (i := 13) (oi := ?oi_274) (v := ?v_274) ?ho_274 ?hs_274 ?hf_274 ?hr_274 ?hQ_274 ?hy_274 ?hS_274 ?rest_274; (case hr_274 => kernel_rfl); (case hf_274 => kernel_rfl); (case hs_274 => kernel_rfl); (case ho_274 => (simp only [List.getElem?_toArray, List.getElem?_cons_succ, List.getElem?_cons_zero]; rfl)); (case hS_274 => assumption); (case hQ_274 => exact fun _ _ _ h => h); (case hy_274 => (refine Or.inl ⟨by rfl, ?_⟩; (intro w hSw; (try dsimp only at hSw); go_simp) <;> with_reducible rfl)); (try simp only [Act.put, List.setIfInBounds_toArray, List.set_cons_zero, List.set_cons_succ]))
  (refine wpAnyH_take (i := 16) (oi := ?oi_275) (v := ?v_275) ?ho_275 ?hs_275 ?hf_275 ?hr_275 ?hQ_275 ?hy_275 ?hS_275 ?rest_275; (case hr_275 => kernel_rfl); (case hf_275 => kernel_rfl); (case hs_275 => kernel_rfl); (case ho_275 => (simp only [List.getElem?_toArray, List.getElem?_cons_succ, List.getElem?_cons_zero]; rfl)); (case hS_275 => assumption); (case hQ_275 => exact fun _ _ _ h => h); (case hy_275 => (refine Or.inl ⟨by rfl, ?_⟩; (intro w hSw; (try dsimp only at hSw); go_simp) <;> with_reducible rfl)); (try simp only [Act.put, List.setIfInBounds_toArray, List.set_cons_zero, List.set_cons_succ]))
  (refine wpAnyH_take (i := 17) (oi := ?oi_276) (v := ?v_276) ?ho_276 ?hs_276 ?hf_276 ?hr_276 ?hQ_276 ?hy_276 ?hS_276 ?rest_276; (case hr_276 => kernel_rfl); (case hf_276 => kernel_rfl); (case hs_276 => kernel_rfl); (case ho_276 => (simp only [List.getElem?_toArray, List.getElem?_cons_succ, List.getElem?_cons_zero]; rfl)); (case hS_276 => assumption); (case hQ_276 => exact fun _ _ _ h => h); (case hy_276 => (refine Or.inl ⟨by rfl, ?_⟩; (intro w hSw; (try dsimp only at hSw); go_simp) <;> with_reducible rfl)); (try simp only [Act.put, List.setIfInBounds_toArray, List.set_cons_zero, List.set_cons_succ]))
  (refine wpAnyH_take (i := 19) (oi := ?oi_277) (v := ?v_277) ?ho_277 ?hs_277 ?hf_277 ?hr_277 ?hQ_277 ?hy_277 ?hS_277 ?rest_277; (case hr_277 => kernel_rfl); (case hf_277 => kernel_rfl); (case hs_277 => kernel_rfl); (case ho_277 => (simp only [List.getElem?_toArray, List.getElem?_cons_succ, List.getElem?_cons_zero]; rfl)); (case hS_277 => assumption); (case hQ_277 => exact fun _ _ _ h => h); (case hy_277 => (refine Or.inl ⟨by rfl, ?_⟩; (intro w hSw; (try dsimp only at hSw); go_simp) <;> with_reducible rfl)); (try simp only [Act.put, List.setIfInBounds_toArray, List.set_cons_zero, List.set_cons_succ]))
  (refine wpAnyH_take (i := 20) (oi := ?oi_278) (v := ?v_278) ?ho_278 ?hs_278 ?hf_278 ?hr_278 ?hQ_278 ?hy_278 ?hS_278 ?rest_278; (case hr_278 => kernel_rfl); (case hf_278 => kernel_rfl); (case hs_278 => kernel_rfl); (case ho_278 => (simp only [List.getElem?_toArray, List.getElem?_cons_succ, List.getElem?_cons_zero]; rfl)); (case hS_278 => assumption); (case hQ_278 => exact fun _ _ _ h => h); (case hy_278 => (refine Or.inl ⟨by rfl, ?_⟩; (intro w hSw; (try dsimp only at hSw); go_simp) <;> with_reducible rfl)); (try simp only [Act.put, List.setIfInBounds_toArray, List.set_cons_zero, List.set_cons_succ]))
  (refine wpAnyH_take (i := 21) (oi := ?oi_279) (v := ?v_279) ?ho_279 ?hs_279 ?hf_279 ?hr_279 ?hQ_279 ?hy_279 ?hS_279 ?rest_279; (case hr_279 => kernel_rfl); (case hf_279 => kernel_rfl); (case hs_279 => kernel_rfl); (case ho_279 => (simp only [List.getElem?_toArray, List.getElem?_cons_succ, List.getElem?_cons_zero]; rfl)); (case hS_279 => assumption); (case hQ_279 => exact fun _ _ _ h => h); (case hy_279 => (refine Or.inl ⟨by rfl, ?_⟩; (intro w hSw; (try dsimp only at hSw); go_simp) <;> with_reducible rfl)); (try simp only [Act.put, List.setIfInBounds_toArray, List.set_cons_zero, List.set_cons_succ]))
  (refine wpAnyH_take (i := 22) (oi := ?oi_280) (v := ?v_280) ?ho_280 ?hs_280 ?hf_280 ?hr_280 ?hQ_280 ?hy_280 ?hS_280 ?rest_280; (case hr_280 => kernel_rfl); (case hf_280 => kernel_rfl); (case hs_280 => kernel_rfl); (case ho_280 => (simp only [List.getElem?_toArray, List.getElem?_cons_succ, List.getElem?_cons_zero]; rfl)); (case hS_280 => assumption); (case hQ_280 => exact fun _ _ _ h => h); (case hy_280 => (refine Or.inl ⟨by rfl, ?_⟩; (intro w hSw; (try dsimp only at hSw); go_simp) <;> with_reducible rfl)); (try simp only [Act.put, List.setIfInBounds_toArray, List.set_cons_zero, List.set_cons_succ]))
  refine wpAnyH_ready (rs := [1, 23]) (by kernel_rfl) (by simp) ?_
  refine AllReadyH.cons (o := ?oo281_0) ?ho281_0 ?hs281_0 (AllReadyH.cons (o := ?oo281_1) ?ho281_1 ?hs281_1 AllReadyH.nil)
  case ho281_0 => (simp only [List.getElem?_toArray, List.getElem?_cons_succ, List.getElem?_cons_zero]; rfl)
  case ho281_1 => (simp only [List.getElem?_toArray, List.getElem?_cons_succ, List.getElem?_cons_zero]; rfl)
  case hs281_0 =>
    intro K hK; go_simp; go_at_call 42; refine (refField 2 1 _ (by omega) (by omega) (by decide)).mono ?_; rintro en wn ⟨rfl, hu⟩
    have x0 := hu.cell x0 fun h => h; have x1 := hu.cell x1 fun h => h; have x4 := hu.cell x4 fun h => h
    have hU := (by first | exact hU.trans hu fun _ _ h => h | exact (hU.then_drew).trans hu fun _ _ h => h : Upd Non w wn)
    try have hB := hB.non hu
    clear hu
    try go_wp2_with fail
    refine hK.out _ _ ?_ (fun hHeld => ?_)
    · (try dsimp only); first | exact ⟨x0, x1, x4⟩ | exact ⟨(Upd.alloc Non _ _).cell x0 fun h => h, (Upd.alloc Non _ _).cell x1 fun h => h, (Upd.alloc Non _ _).cell x4 fun h => h⟩
    clear hK K
    try simp only [Act.put, List.setIfInBounds_toArray, List.set_cons_zero, List.set_cons_succ]
    (refine wpAnyH_take (i := 2) (oi := ?oi_282) (v := ?v_282) ?ho_282 ?hs_282 ?hf_282 ?hr_282 ?hQ_282 ?hy_282 ?hS_282 ?rest_282; (case hr_282 => kernel_rfl); (case hf_282 => kernel_rfl); (case hs_282 => kernel_rfl); (case ho_282 => (simp only [List.getElem?_toArray, List.getElem?_cons_succ, List.getElem?_cons_zero]; rfl)); (case hS_282 => assumption); (case hQ_282 => exact fun _ _ _ h => h); (case hy_282 => (refine Or.inl ⟨by rfl, ?_⟩; (intro w hSw; (try dsimp only at hSw); go_simp) <;> with_reducible rfl)); (try simp only [Act.put, List.setIfInBounds_toArray, List.set_cons_zero, List.set_cons_succ]))
    refine wpAnyH_ready (rs := [5, 23]) (by kernel_rfl) (by simp) ?_
    refine AllReadyH.cons (o := ?oo283_0) ?ho283_0 ?hs283_0 (AllReadyH.cons (o := ?oo283_1) ?ho283_1 ?hs283_1 AllReadyH.nil)
    case ho283_0 => (simp only [List.getElem?_toArray, List.getElem?_cons_succ, List.getElem?_cons_zero]; rfl)
    case ho283_1 => (simp only [List.getElem?_toArray, List.getElem?_cons_succ, List.getElem?_cons_zero]; rfl)
    case hs283_0 =>
      intro K hK; go_simp; go_at_call 42; refine (refField e 4 _ (by omega) (by omega) (by decide)).mono ?_; rintro en wn ⟨rfl, hu⟩
      have x0 := hu.cell x0 fun h => h; have x1 := hu.cell x1 fun h => h; have x4 := hu.cell x4 fun h => h
      have hU := (by first | exact hU.trans hu fun _ _ h => h | exact (hU.then_drew).trans hu fun _ _ h => h : Upd Non w wn)
      try have hB := hB.non hu
      clear hu
      try go_wp2_with fail
      refine hK.out _ _ ?_ (fun hHeld => ?_)
      · (try dsimp only); first | exact ⟨x0, x1, x4⟩ | exact ⟨(Upd.alloc Non _ _).cell x0 fun h => h, (Upd.alloc Non _ _).cell x1 fun h => h, (Upd.alloc Non _ _).cell x4 fun h => h⟩
      clear hK K
      try simp only [Act.put, List.setIfInBounds_toArray, List.set_cons_zero, List.set_cons_succ]
      (refine wpAnyH_take (i := 6) (oi := ?oi_284) (v := ?v_284) ?ho_284 ?hs_284 ?hf_284 ?hr_284 ?hQ_284 ?hy_284 ?hS_284 ?rest_284; (case hr_284 => kernel_rfl); (case hf_284 => kernel_rfl); (case hs_284 => kernel_rfl); (case ho_284 => (simp only [List.getElem?_toArray, List.getElem?_cons_succ, List.getElem?_cons_zero]; rfl)); (case hS_284 => assumption); (case hQ_284 => exact fun _ _ _ h => h); (case hy_284 => (refine Or.inl ⟨by rfl, ?_⟩; (intro w hSw; (try dsimp only at hSw); go_simp) <;> with_reducible rfl)); (try simp only [Act.put, List.setIfInBounds_toArray, List.set_cons_zero, List.set_cons_succ]))
      refine wpAnyH_ready (rs := [9, 23]) (by kernel_rfl) (by simp) ?_
      refine AllReadyH.cons (o := ?oo285_0) ?ho285_0 ?hs285_0 (AllReadyH.cons (o := ?oo285_1) ?ho285_1 ?hs285_1 AllReadyH.nil)
      case ho285_0 => (simp only [List.getElem?_toArray, List.getElem?_cons_succ, List.getElem?_cons_zero]; rfl)
      case ho285_1 => (simp only [List.getElem?_toArray, List.getElem?_cons_succ, List.getElem?_cons_zero]; rfl)
      case hs285_0 =>
        intro K hK; go_simp; go_at_call 42; refine (refField q 8 _ (by omega) (by omega) (by decide)).mono ?_; rintro en wn ⟨rfl, hu⟩
        have x0 := hu.cell x0 fun h => h; have x1 := hu.cell x1 fun h => h; have x4 := hu.cell x4 fun h => h
        have hU := (by first | exact hU.trans hu fun _ _ h => h | exact (hU.then_drew).trans hu fun _ _ h => h : Upd Non w wn)
        try have hB := hB.non hu
        clear hu
        try go_wp2_with fail
        refine hK.out _ _ ?_ (fun hHeld => ?_)
        · (try dsimp only); first | exact ⟨x0, x1, x4⟩ | exact ⟨(Upd.alloc Non _ _).cell x0 fun h => h, (Upd.alloc Non _ _).cell x1 fun h => h, (Upd.alloc Non _ _).cell x4 fun h => h⟩
        clear hK K
        try simp only [Act.put, List.setIfInBounds_toArray, List.set_cons_zero, List.set_cons_succ]
        (refine wpAnyH_take (i := 10) (oi := ?oi_286) (v := ?v_286) ?ho_286 ?hs_286 ?hf_286 ?hr_286 ?hQ_286 ?hy_286 ?hS_286 ?rest_286; (case hr_286 => kernel_rfl); (case hf_286 => kernel_rfl); (case hs_286 => kernel_rfl); (case ho_286 => (simp only [List.getElem?_toArray, List.getElem?_cons_succ, List.getElem?_cons_zero]; rfl)); (case hS_286 => assumption); (case hQ_286 => exact fun _ _ _ h => h); (case hy_286 => (refine Or.inl ⟨by rfl, ?_⟩; (intro w hSw; (try dsimp only at hSw); go_simp) <;> with_reducible rfl)); (try simp only [Act.put, List.setIfInBounds_toArray, List.set_cons_zero, List.set_cons_succ]))
        refine wpAnyH_ready (rs := [14, 23]) (by kernel_rfl) (by simp) ?_
        refine AllReadyH.cons (o := ?oo287_0) ?ho287_0 ?hs287_0 (AllReadyH.cons (o := ?oo287_1) ?ho287_1 ?hs287_1 AllReadyH.nil)
        case ho287_0 => (simp only [List.getElem?_toArray, List.getElem?_cons_succ, List.getElem?_cons_zero]; rfl)
        case ho287_1 => (simp only [List.getElem?_toArray, List.getElem?_cons_succ, List.getElem?_cons_zero]; rfl)
        case hs287_0 =>
          intro K hK; go_simp; go_at_call 42; refine (refField (d.length : Int) 2 _ (by omega) (by omega) (by decide)).mono ?_; rintro en wn ⟨rfl, hu⟩
          have x0 := hu.cell x0 fun h => h; have x1 := hu.cell x1 fun h => h; have x4 := hu.cell x4 fun h => h
          have hU := (by first | exact hU.trans hu fun _ _ h => h | exact (hU.then_drew).trans hu fun _ _ h => h : Upd Non w wn)
          try have hB := hB.non hu
          clear hu
          try go_wp2_with fail
          refine hK.out _ _ ?_ (fun hHeld => ?_)
          · (try dsimp only); first | exact ⟨x0, x1, x4⟩ | exact ⟨(Upd.alloc Non _ _).cell x0 fun h => h, (Upd.alloc Non _ _).cell x1 fun h => h, (Upd.alloc Non _ _).cell x4 fun h => h⟩
          clear hK K
          try simp only [Act.put, List.setIfInBounds_toArray, List.set_cons_zero, List.set_cons_succ]
          (refine wpAnyH_take (i := 15) (oi := ?oi_288) (v := ?v_288) ?ho_288 ?hs_288 ?hf_288 ?hr_288 ?hQ_288 ?hy_288 ?hS_288 ?rest_288; (case hr_288 => kernel_rfl); (case hf_288 => kernel_rfl); (case hs_288 => kernel_rfl); (case ho_288 => (simp only [List.getElem?_toArray, List.getElem?_cons_succ, List.getElem?_cons_zero]; rfl)); (case hS_288 => assumption); (case hQ_288 => exact fun _ _ _ h => h); (case hy_288 => (refine Or.inl ⟨by rfl, ?_⟩; (intro w hSw; (try dsimp only at hSw); go_simp) <;> with_reducible rfl)); (try simp only [Act.put, List.setIfInBounds_toArray, List.set_cons_zero, List.set_cons_succ]))
          (refine wpAnyH_take (i := 18) (oi := ?oi_289) (v := ?v_289) ?ho_289 ?hs_289 ?hf_289 ?hr_289 ?hQ_289 ?hy_289 ?hS_289 ?rest_289; (case hr_289 => kernel_rfl); (case hf_289 => kernel_rfl); (case hs_289 => kernel_rfl); (case ho_289 => (simp only [List.getElem?_toArray, List.getElem?_cons_succ, List.getElem?_cons_zero]; rfl)); (case hS_289 => assumption); (case hQ_289 => exact fun _ _ _ h => h); (case hy_289 => (refine Or.inl ⟨by rfl, ?_⟩; (intro w hSw; (try dsimp only at hSw); go_simp) <;> with_reducible rfl)); (try simp only [Act.put, List.setIfInBounds_toArray, List.set_cons_zero, List.set_cons_succ]))
          refine wpAnyH_ready (rs := [23]) (by kernel_rfl) (by simp) ?_
          refine AllReadyH.cons (o := ?oo290_0) ?ho290_0 ?hs290_0 AllReadyH.nil
          case ho290_0 => (simp only [List.getElem?_toArray, List.getElem?_cons_succ, List.getElem?_cons_zero]; rfl)
          case hs290_0 =>
            intro K hK; have hmk := hmk0; go_simp; clear hmk
            try go_wp2_with fail
            refine hK.out _ _ ?_ (fun hHeld => ?_)
            · (try dsimp only); exact ⟨(Upd.alloc Non _ _).cell x0 fun h => h, (Upd.alloc Non _ _).cell x1 fun h => h, (Upd.alloc Non _ _).cell x4 fun h => h⟩
            clear hK K
            try simp only [Act.put, List.setIfInBounds_toArray, List.set_cons_zero, List.set_cons_succ]
            obtain ⟨hB, hU, x0, x1, x4⟩ := made_noughts hU x0 x1 x4 5 (108 - d.length) (by omega)
            refine wpAnyH_ready (rs := [24]) (by kernel_rfl) (by simp) ?_
            refine AllReadyH.cons (o := ?oo291_0) ?ho291_0 ?hs291_0 AllReadyH.nil
            case ho291_0 => (simp only [List.getElem?_toArray, List.getElem?_cons_succ, List.getElem?_cons_zero]; rfl)
            case hs291_0 =>
              intro K hK; have hst := run_str (P := Try.prog) _ 42 9 5 Try.underlying42 Try.underlying5 Try.underlying9 _ _ hB; go_simp; clear hst
              try go_wp2_with fail
              refine hK.out _ _ ?_ (fun hHeld => ?_)
              · (try dsimp only); first | exact ⟨x0, x1, x4⟩ | exact ⟨(Upd.alloc Non _ _).cell x0 fun h => h, (Upd.alloc Non _ _).cell x1 fun h => h, (Upd.alloc Non _ _).cell x4 fun h => h⟩
              clear hK K
              try simp only [Act.put, List.setIfInBounds_toArray, List.set_cons_zero, List.set_cons_succ]
              (refine wpAnyH_take (i := 25) (oi := ?oi_292) (v := ?v_292) ?ho_292 ?hs_292 ?hf_292 ?hr_292 ?hQ_292 ?hy_292 ?hS_292 ?rest_292; (case hr_292 => kernel_rfl); (case hf_292 => kernel_rfl); (case hs_292 => kernel_rfl); (case ho_292 => (simp only [List.getElem?_toArray, List.getElem?_cons_succ, List.getElem?_cons_zero]; rfl)); (case hS_292 => assumption); (case hQ_292 => exact fun _ _ _ h => h); (case hy_292 => (refine Or.inl ⟨by rfl, ?_⟩; (intro w hSw; (try dsimp only at hSw); go_simp) <;> with_reducible rfl)); (try simp only [Act.put, List.setIfInBounds_toArray, List.set_cons_zero, List.set_cons_succ]))
              (refine wpAnyH_take (i := 26) (oi := ?oi_293) (v := ?v_293) ?ho_293 ?hs_293 ?hf_293 ?hr_293 ?hQ_293 ?hy_293 ?hS_293 ?rest_293; (case hr_293 => kernel_rfl); (case hf_293 => kernel_rfl); (case hs_293 => kernel_rfl); (case ho_293 => (simp only [List.getElem?_toArray, List.getElem?_cons_succ, List.getElem?_cons_zero]; rfl)); (case hS_293 => assumption); (case hQ_293 => exact fun _ _ _ h => h); (case hy_293 => (refine Or.inl ⟨by rfl, ?_⟩; (intro w hSw; (try dsimp only at hSw); go_simp) <;> with_reducible rfl)); (try simp only [Act.put, List.setIfInBounds_toArray, List.set_cons_zero, List.set_cons_succ]))
              refine wpAnyH_done (by kernel_rfl) ?_ _
              try rw [hstr]
              go_wp2_with fail
              refine (refSum BB _ (by have := hBBl.out; omega)).mono ?_
              rintro en wa ⟨rfl, hua⟩
              rw [hsm.out]
              go_wp2_with fail
              refine (refField (sm : Int) 4 _ (by omega) (by omega) (by decide)).mono ?_
              rintro en wb ⟨rfl, hub⟩
              have hUb := (hU.trans hua fun _ _ h => h).trans hub fun _ _ h => h
              go_wp2_with fail
              go_ret
              refine ⟨?_, hUb⟩
              rw [app_str, hslot.out]
              simp
        case hs287_1 =>
          intro K hK; have hmk := hmk0; go_simp; clear hmk
          try go_wp2_with fail
          refine hK.out _ _ ?_ (fun hHeld => ?_)
          · (try dsimp only); exact ⟨(Upd.alloc Non _ _).cell x0 fun h => h, (Upd.alloc Non _ _).cell x1 fun h => h, (Upd.alloc Non _ _).cell x4 fun h => h⟩
          clear hK K
          try simp only [Act.put, List.setIfInBounds_toArray, List.set_cons_zero, List.set_cons_succ]
          obtain ⟨hB, hU, x0, x1, x4⟩ := made_noughts hU x0 x1 x4 5 (108 - d.length) (by omega)
          refine wpAnyH_ready (rs := [14, 24]) (by kernel_rfl) (by simp) ?_
          refine AllReadyH.cons (o := ?oo294_0) ?ho294_0 ?hs294_0 (AllReadyH.cons (o := ?oo294_1) ?ho294_1 ?hs294_1 AllReadyH.nil)
          case ho294_0 => (simp only [List.getElem?_toArray, List.getElem?_cons_succ, List.getElem?_cons_zero]; rfl)
          case ho294_1 => (simp only [List.getElem?_toArray, List.getElem?_cons_succ, List.getElem?_cons_zero]; rfl)
          case hs294_0 =>
            intro K hK; go_simp; go_at_call 42; refine (refField (d.length : Int) 2 _ (by omega) (by omega) (by decide)).mono ?_; rintro en wn ⟨rfl, hu⟩
            have x0 := hu.cell x0 fun h => h; have x1 := hu.cell x1 fun h => h; have x4 := hu.cell x4 fun h => h
            have hU := (by first | exact hU.trans hu fun _ _ h => h | exact (hU.then_drew).trans hu fun _ _ h => h : Upd Non w wn)
            try have hB := hB.non hu
            clear hu
            try go_wp2_with fail
            refine hK.out _ _ ?_ (fun hHeld => ?_)
            · (try dsimp only); first | exact ⟨x0, x1, x4⟩ | exact ⟨(Upd.alloc Non _ _).cell x0 fun h => h, (Upd.alloc Non _ _).cell x1 fun h => h, (Upd.alloc Non _ _).cell x4 fun h => h⟩
            clear hK K
            try simp only [Act.put, List.setIfInBounds_toArray, List.set_cons_zero, List.set_cons_succ]
            (refine wpAnyH_take (i := 15) (oi := ?oi_295) (v := ?v_295) ?ho_295 ?hs_295 ?hf_295 ?hr_295 ?hQ_295 ?hy_295 ?hS_295 ?rest_295; (case hr_295 => kernel_rfl); (case hf_295 => kernel_rfl); (case hs_295 => kernel_rfl); (case ho_295 => (simp only [List.getElem?_toArray, List.getElem?_cons_succ, List.getElem?_cons_zero]; rfl)); (case hS_295 => assumption); (case hQ_295 => exact fun _ _ _ h => h); (case hy_295 => (refine Or.inl ⟨by rfl, ?_⟩; (intro w hSw; (try dsimp only at hSw); go_simp) <;> with_reducible rfl)); (try simp only [Act.put, List.setIfInBounds_toArray, List.set_cons_zero, List.set_cons_succ]))
            (refine wpAnyH_take (i := 18) (oi := ?oi_296) (v := ?v_296) ?ho_296 ?hs_296 ?hf_296 ?hr_296 ?hQ_296 ?hy_296 ?hS_296 ?rest_296; (case hr_296 => kernel_rfl); (case hf_296 => kernel_rfl); (case hs_296 => kernel_rfl); (case ho_296 => (simp only [List.getElem?_toArray, List.getElem?_cons_succ, List.getElem?_cons_zero]; rfl)); (case hS_296 => assumption); (case hQ_296 => exact fun _ _ _ h => h); (case hy_296 => (refine Or.inl ⟨by rfl, ?_⟩; (intro w hSw; (try dsimp only at hSw); go_simp) <;> with_reducible rfl)); (try simp only [Act.put, List.setIfInBounds_toArray, List.set_cons_zero, List.set_cons_succ]))
            refine wpAnyH_ready (rs := [24]) (by kernel_rfl) (by simp) ?_
            refine AllReadyH.cons (o := ?oo297_0) ?ho297_0 ?hs297_0 AllReadyH.nil
            case ho297_0 => (simp only [List.getElem?_toArray, List.getElem?_cons_succ, List.getElem?_cons_zero]; rfl)
            case hs297_0 =>
              intro K hK; have hst := run_str (P := Try.prog) _ 42 9 5 Try.underlying42 Try.underlying5 Try.underlying9 _ _ hB; go_simp; clear hst
              try go_wp2_with fail
              refine hK.out _ _ ?_ (fun hHeld => ?_)
              · (try dsimp only); first | exact ⟨x0, x1, x4⟩ | exact ⟨(Upd.alloc Non _ _).cell x0 fun h => h, (Upd.alloc Non _ _).cell x1 fun h => h, (Upd.alloc Non _ _).cell x4 fun h => h⟩
              clear hK K
              try simp only [Act.put, List.setIfInBounds_toArray, List.set_cons_zero, List.set_cons_succ]
              (refine wpAnyH_take (i := 25) (oi := ?oi_298) (v := ?v_298) ?ho_298 ?hs_298 ?hf_298 ?hr_298 ?hQ_298 ?hy_298 ?hS_298 ?rest_298; (case hr_298 => kernel_rfl); (case hf_298 => kernel_rfl); (case hs_298 => kernel_rfl); (case ho_298 => (simp only [List.getElem?_toArray, List.getElem?_cons_succ, List.getElem?_cons_zero]; rfl)); (case hS_298 => assumption); (case hQ_298 => exact fun _ _ _ h => h); (case hy_298 => (refine Or.inl ⟨by rfl, ?_⟩; (intro w hSw; (try dsimp only at hSw); go_simp) <;> with_reducible rfl)); (try simp only [Act.put, List.setIfInBounds_toArray, List.set_cons_zero, List.set_cons_succ]))
              (refine wpAnyH_take (i := 26) (oi := ?oi_299) (v := ?v_299) ?ho_299 ?hs_299 ?hf_299 ?hr_299 ?hQ_299 ?hy_299 ?hS_299 ?rest_299; (case hr_299 => kernel_rfl); (case hf_299 => kernel_rfl); (case hs_299 => kernel_rfl); (case ho_299 => (simp only [List.getElem?_toArray, List.getElem?_cons_succ, List.getElem?_cons_zero]; rfl)); (case hS_299 => assumption); (case hQ_299 => exact fun _ _ _ h => h); (case hy_299 => (refine Or.inl ⟨by rfl, ?_⟩; (intro w hSw; (try dsimp only at hSw); go_simp) <;> with_reducible rfl)); (try simp only [Act.put, List.setIfInBounds_toArray, List.set_cons_zero, List.set_cons_succ]))
              refine wpAnyH_done (by kernel_rfl) ?_ _
              try rw [hstr]
              go_wp2_with fail
              refine (refSum BB _ (by have := hBBl.out; omega)).mono ?_
              rintro en wa ⟨rfl, hua⟩
              rw [hsm.out]
              go_wp2_with fail
              refine (refField (sm : Int) 4 _ (by omega) (by omega) (by decide)).mono ?_
              rintro en wb ⟨rfl, hub⟩
              have hUb := (hU.trans hua fun _ _ h => h).trans hub fun _ _ h => h
              go_wp2_with fail
              go_ret
              refine ⟨?_, hUb⟩
              rw [app_str, hslot.out]
              simp
          case hs294_1 =>
            intro K hK; have hst := run_str (P := Try.prog) _ 42 9 5 Try.underlying42 Try.underlying5 Try.underlying9 _ _ hB; go_simp; clear hst
            try go_wp2_with fail
            refine hK.out _ _ ?_ (fun hHeld => ?_)
            · (try dsimp only); first | exact ⟨x0, x1, x4⟩ | exact ⟨(Upd.alloc Non _ _).cell x0 fun h => h, (Upd.alloc Non _ _).cell x1 fun h => h, (Upd.alloc Non _ _).cell x4 fun h => h⟩
            clear hK K
            try simp only [Act.put, List.setIfInBounds_toArray, List.set_cons_zero, List.set_cons_succ]
            refine wpAnyH_ready (rs := [14]) (by kernel_rfl) (by simp) ?_
            refine AllReadyH.cons (o := ?oo300_0) ?ho300_0 ?hs300_0 AllReadyH.nil
            case ho300_0 => (simp only [List.getElem?_toArray, List.getElem?_cons_succ, List.getElem?_cons_zero]; rfl)
            case hs300_0 =>
              intro K hK; go_simp; go_at_call 42; refine (refField (d.length : Int) 2 _ (by omega) (by omega) (by decide)).mono ?_; rintro en wn ⟨rfl, hu⟩
              have x0 := hu.cell x0 fun h => h; have x1 := hu.cell x1 fun h => h; have x4 := hu.cell x4 fun h => h
              have hU := (by first | exact hU.trans hu fun _ _ h => h | exact (hU.then_drew).trans hu fun _ _ h => h : Upd Non w wn)
              try have hB := hB.non hu
              clear hu
              try go_wp2_with fail
              refine hK.out _ _ ?_ (fun hHeld => ?_)
              · (try dsimp only); first | exact ⟨x0, x1, x4⟩ | exact ⟨(Upd.alloc Non _ _).cell x0 fun h => h, (Upd.alloc Non _ _).cell x1 fun h => h, (Upd.alloc Non _ _).cell x4 fun h => h⟩
              clear hK K
              try simp only [Act.put, List.setIfInBounds_toArray, List.set_cons_zero, List.set_cons_succ]
              (refine wpAnyH_take (i := 15) (oi := ?oi_301) (v := ?v_301) ?ho_301 ?hs_301 ?hf_301 ?hr_301 ?hQ_301 ?hy_301 ?hS_301 ?rest_301; (case hr_301 => kernel_rfl); (case hf_301 => kernel_rfl); (case hs_301 => kernel_rfl); (case ho_301 => (simp only [List.getElem?_toArray, List.getElem?_cons_succ, List.getElem?_cons_zero]; rfl)); (case hS_301 => assumption); (case hQ_301 => exact fun _ _ _ h => h); (case hy_301 => (refine Or.inl ⟨by rfl, ?_⟩; (intro w hSw; (try dsimp only at hSw); go_simp) <;> with_reducible rfl)); (try simp only [Act.put, List.setIfInBounds_toArray, List.set_cons_zero, List.set_cons_succ]))
              (refine wpAnyH_take (i := 18) (oi := ?oi_302) (v := ?v_302) ?ho_302 ?hs_302 ?hf_302 ?hr_302 ?hQ_302 ?hy_302 ?hS_302 ?rest_302; (case hr_302 => kernel_rfl); (case hf_302 => kernel_rfl); (case hs_302 => kernel_rfl); (case ho_302 => (simp only [List.getElem?_toArray, List.getElem?_cons_succ, List.getElem?_cons_zero]; rfl)); (case hS_302 => assumption); (case hQ_302 => exact fun _ _ _ h => h); (case hy_302 => (refine Or.inl ⟨by rfl, ?_⟩; (intro w hSw; (try dsimp only at hSw); go_simp) <;> with_reducible rfl)); (try simp only [Act.put, List.setIfInBounds_toArray, List.set_cons_zero, List.set_cons_succ]))
              (refine wpAnyH_take (i := 25) (oi := ?oi_303) (v := ?v_303) ?ho_303 ?hs_303 ?hf_303 ?hr_303 ?hQ_303 ?hy_303 ?hS_303 ?rest_303; (case hr_303 => kernel_rfl); (case hf_303 => kernel_rfl); (case hs_303 => kernel_rfl); (case ho_303 => (simp only [List.getElem?_toArray, List.getElem?_cons_succ, List.getElem?_cons_zero]; rfl)); (case hS_303 => assumption); (case hQ_303 => exact fun _ _ _ h => h); (case hy_303 => (refine Or.inl ⟨by rfl, ?_⟩; (intro w hSw; (try dsimp only at hSw); go_simp) <;> with_reducible rfl)); (try simp only [Act.put, List.setIfInBounds_toArray, List.set_cons_zero, List.set_cons_succ]))
              (refine wpAnyH_take (i := 26) (oi := ?oi_304) (v := ?v_304) ?ho_304 ?hs_304 ?hf_304 ?hr_304 ?hQ_304 ?hy_304 ?hS_304 ?rest_304; (case hr_304 => kernel_rfl); (case hf_304 => kernel_rfl); (case hs_304 => kernel_rfl); (case ho_304 => (simp only [List.getElem?_toArray, List.getElem?_cons_succ, List.getElem?_cons_zero]; rfl)); (case hS_304 => assumption); (case hQ_304 => exact fun _ _ _ h => h); (case hy_304 => (refine Or.inl ⟨by rfl, ?_⟩; (intro w hSw; (try dsimp only at hSw); go_simp) <;> with_reducible rfl)); (try simp only [Act.put, List.setIfInBounds_toArray, List.set_cons_zero, List.set_cons_succ]))
              refine wpAnyH_done (by kernel_rfl) ?_ _
              try rw [hstr]
              go_wp2_with fail
              refine (refSum BB _ (by have := hBBl.out; omega)).mono ?_
              rintro en wa ⟨rfl, hua⟩
              rw [hsm.out]
              go_wp2_with fail
              refine (refField (sm : Int) 4 _ (by omega) (by omega) (by decide)).mono ?_
              rintro en wb ⟨rfl, hub⟩
              have hUb := (hU.trans hua fun _ _ h => h).trans hub fun _ _ h => h
              go_wp2_with fail
              go_ret
              refine ⟨?_, hUb⟩
              rw [app_str, hslot.out]
              simp
      case hs285_1 =>
        intro K hK; have hmk := hmk0; go_simp; clear hmk
        try go_wp2_with fail
        refine hK.out _ _ ?_ (fun hHeld => ?_)
        · (try dsimp only); exact ⟨(Upd.alloc Non _ _).cell x0 fun h => h, (Upd.alloc Non _ _).cell x1 fun h => h, (Upd.alloc Non _ _).cell x4 fun h => h⟩
        clear hK K
        try simp only [Act.put, List.setIfInBounds_toArray, List.set_cons_zero, List.set_cons_succ]
        obtain ⟨hB, hU, x0, x1, x4⟩ := made_noughts hU x0 x1 x4 5 (108 - d.length) (by omega)
        refine wpAnyH_ready (rs := [9, 24]) (by kernel_rfl) (by simp) ?_
        refine AllReadyH.cons (o := ?oo305_0) ?ho305_0 ?hs305_0 (AllReadyH.cons (o := ?oo305_1) ?ho305_1 ?hs305_1 AllReadyH.nil)
        case ho305_0 => (simp only [List.getElem?_toArray, List.getElem?_cons_succ, List.getElem?_cons_zero]; rfl)
        case ho305_1 => (simp only [List.getElem?_toArray, List.getElem?_cons_succ, List.getElem?_cons_zero]; rfl)
        case hs305_0 =>
          intro K hK; go_simp; go_at_call 42; refine (refField q 8 _ (by omega) (by omega) (by decide)).mono ?_; rintro en wn ⟨rfl, hu⟩
          have x0 := hu.cell x0 fun h => h; have x1 := hu.cell x1 fun h => h; have x4 := hu.cell x4 fun h => h
          have hU := (by first | exact hU.trans hu fun _ _ h => h | exact (hU.then_drew).trans hu fun _ _ h => h : Upd Non w wn)
          try have hB := hB.non hu
          clear hu
          try go_wp2_with fail
          refine hK.out _ _ ?_ (fun hHeld => ?_)
          · (try dsimp only); first | exact ⟨x0, x1, x4⟩ | exact ⟨(Upd.alloc Non _ _).cell x0 fun h => h, (Upd.alloc Non _ _).cell x1 fun h => h, (Upd.alloc Non _ _).cell x4 fun h => h⟩
          clear hK K
          try simp only [Act.put, List.setIfInBounds_toArray, List.set_cons_zero, List.set_cons_succ]
          (refine wpAnyH_take (i := 10) (oi := ?oi_306) (v := ?v_306) ?ho_306 ?hs_306 ?hf_306 ?hr_306 ?hQ_306 ?hy_306 ?hS_306 ?rest_306; (case hr_306 => kernel_rfl); (case hf_306 => kernel_rfl); (case hs_306 => kernel_rfl); (case ho_306 => (simp only [List.getElem?_toArray, List.getElem?_cons_succ, List.getElem?_cons_zero]; rfl)); (case hS_306 => assumption); (case hQ_306 => exact fun _ _ _ h => h); (case hy_306 => (refine Or.inl ⟨by rfl, ?_⟩; (intro w hSw; (try dsimp only at hSw); go_simp) <;> with_reducible rfl)); (try simp only [Act.put, List.setIfInBounds_toArray, List.set_cons_zero, List.set_cons_succ]))
          refine wpAnyH_ready (rs := [14, 24]) (by kernel_rfl) (by simp) ?_
          refine AllReadyH.cons (o := ?oo307_0) ?ho307_0 ?hs307_0 (AllReadyH.cons (o := ?oo307_1) ?ho307_1 ?hs307_1 AllReadyH.nil)
          case ho307_0 => (simp only [List.getElem?_toArray, List.getElem?_cons_succ, List.getElem?_cons_zero]; rfl)
          case ho307_1 => (simp only [List.getElem?_toArray, List.getElem?_cons_succ, List.getElem?_cons_zero]; rfl)
          case hs307_0 =>
            intro K hK; go_simp; go_at_call 42; refine (refField (d.length : Int) 2 _ (by omega) (by omega) (by decide)).mono ?_; rintro en wn ⟨rfl, hu⟩
            have x0 := hu.cell x0 fun h => h; have x1 := hu.cell x1 fun h => h; have x4 := hu.cell x4 fun h => h
            have hU := (by first | exact hU.trans hu fun _ _ h => h | exact (hU.then_drew).trans hu fun _ _ h => h : Upd Non w wn)
            try have hB := hB.non hu
            clear hu
            try go_wp2_with fail
            refine hK.out _ _ ?_ (fun hHeld => ?_)
            · (try dsimp only); first | exact ⟨x0, x1, x4⟩ | exact ⟨(Upd.alloc Non _ _).cell x0 fun h => h, (Upd.alloc Non _ _).cell x1 fun h => h, (Upd.alloc Non _ _).cell x4 fun h => h⟩
            clear hK K
            try simp only [Act.put, List.setIfInBounds_toArray, List.set_cons_zero, List.set_cons_succ]
            (refine wpAnyH_take (i := 15) (oi := ?oi_308) (v := ?v_308) ?ho_308 ?hs_308 ?hf_308 ?hr_308 ?hQ_308 ?hy_308 ?hS_308 ?rest_308; (case hr_308 => kernel_rfl); (case hf_308 => kernel_rfl); (case hs_308 => kernel_rfl); (case ho_308 => (simp only [List.getElem?_toArray, List.getElem?_cons_succ, List.getElem?_cons_zero]; rfl)); (case hS_308 => assumption); (case hQ_308 => exact fun _ _ _ h => h); (case hy_308 => (refine Or.inl ⟨by rfl, ?_⟩; (intro w hSw; (try dsimp only at hSw); go_simp) <;> with_reducible rfl)); (try simp only [Act.put, List.setIfInBounds_toArray, List.set_cons_zero, List.set_cons_succ]))
            (refine wpAnyH_take (i := 18) (oi := ?oi_309) (v := ?v_309) ?ho_309 ?hs_309 ?hf_309 ?hr_309 ?hQ_309 ?hy_309 ?hS_309 ?rest_309; (case hr_309 => kernel_rfl); (case hf_309 => kernel_rfl); (case hs_309 => kernel_rfl); (case ho_309 => (simp only [List.getElem?_toArray, List.getElem?_cons_succ, List.getElem?_cons_zero]; rfl)); (case hS_309 => assumption); (case hQ_309 => exact fun _ _ _ h => h); (case hy_309 => (refine Or.inl ⟨by rfl, ?_⟩; (intro w hSw; (try dsimp only at hSw); go_simp) <;> with_reducible rfl)); (try simp only [Act.put, List.setIfInBounds_toArray, List.set_cons_zero, List.set_cons_succ]))
            refine wpAnyH_ready (rs := [24]) (by kernel_rfl) (by simp) ?_
            refine AllReadyH.cons (o := ?oo310_0) ?ho310_0 ?hs310_0 AllReadyH.nil
            case ho310_0 => (simp only [List.getElem?_toArray, List.getElem?_cons_succ, List.getElem?_cons_zero]; rfl)
            case hs310_0 =>
              intro K hK; have hst := run_str (P := Try.prog) _ 42 9 5 Try.underlying42 Try.underlying5 Try.underlying9 _ _ hB; go_simp; clear hst
              try go_wp2_with fail
              refine hK.out _ _ ?_ (fun hHeld => ?_)
              · (try dsimp only); first | exact ⟨x0, x1, x4⟩ | exact ⟨(Upd.alloc Non _ _).cell x0 fun h => h, (Upd.alloc Non _ _).cell x1 fun h => h, (Upd.alloc Non _ _).cell x4 fun h => h⟩
              clear hK K
              try simp only [Act.put, List.setIfInBounds_toArray, List.set_cons_zero, List.set_cons_succ]
              (refine wpAnyH_take (i := 25) (oi := ?oi_311) (v := ?v_311) ?ho_311 ?hs_311 ?hf_311 ?hr_311 ?hQ_311 ?hy_311 ?hS_311 ?rest_311; (case hr_311 => kernel_rfl); (case hf_311 => kernel_rfl); (case hs_311 => kernel_rfl); (case ho_311 => (simp only [List.getElem?_toArray, List.getElem?_cons_succ, List.getElem?_cons_zero]; rfl)); (case hS_311 => assumption); (case hQ_311 => exact fun _ _ _ h => h); (case hy_311 => (refine Or.inl ⟨by rfl, ?_⟩; (intro w hSw; (try dsimp only at hSw); go_simp) <;> with_reducible rfl)); (try simp only [Act.put, List.setIfInBounds_toArray, List.set_cons_zero, List.set_cons_succ]))
              (refine wpAnyH_take (i := 26) (oi := ?oi_312) (v := ?v_312) ?ho_312 ?hs_312 ?hf_312 ?hr_312 ?hQ_312 ?hy_312 ?hS_312 ?rest_312; (case hr_312 => kernel_rfl); (case hf_312 => kernel_rfl); (case hs_312 => kernel_rfl); (case ho_312 => (simp only [List.getElem?_toArray, List.getElem?_cons_succ, List.getElem?_cons_zero]; rfl)); (case hS_312 => assumption); (case hQ_312 => exact fun _ _ _ h => h); (case hy_312 => (refine Or.inl ⟨by rfl, ?_⟩; (intro w hSw; (try dsimp only at hSw); go_simp) <;> with_reducible rfl)); (try simp only [Act.put, List.setIfInBounds_toArray, List.set_cons_zero, List.set_cons_succ]))
              refine wpAnyH_done (by kernel_rfl) ?_ _
              try rw [hstr]
              go_wp2_with fail
              refine (refSum BB _ (by have := hBBl.out; omega)).mono ?_
              rintro en wa ⟨rfl, hua⟩
              rw [hsm.out]
              go_wp2_with fail
              refine (refField (sm : Int) 4 _ (by omega) (by omega) (by decide)).mono ?_
              rintro en wb ⟨rfl, hub⟩
              have hUb := (hU.trans hua fun _ _ h => h).trans hub fun _ _ h => h
              go_wp2_with fail
              go_ret
              refine ⟨?_, hUb⟩
              rw [app_str, hslot.out]
              simp
          case hs307_1 =>
            intro K hK; have hst := run_str (P := Try.prog) _ 42 9 5 Try.underlying42 Try.underlying5 Try.underlying9 _ _ hB; go_simp; clear hst
            try go_wp2_with fail
            refine hK.out _ _ ?_ (fun hHeld => ?_)
            · (try dsimp only); first | exact ⟨x0, x1, x4⟩ | exact ⟨(Upd.alloc Non _ _).cell x0 fun h => h, (Upd.alloc Non _ _).cell x1 fun h => h, (Upd.alloc Non _ _).cell x4 fun h => h⟩
            clear hK K
            try simp only [Act.put, List.setIfInBounds_toArray, List.set_cons_zero, List.set_cons_succ]
            refine wpAnyH_ready (rs := [14]) (by kernel_rfl) (by simp) ?_
            refine AllReadyH.cons (o := ?oo313_0) ?ho313_0 ?hs313_0 AllReadyH.nil
            case ho313_0 => (simp only [List.getElem?_toArray, List.getElem?_cons_succ, List.getElem?_cons_zero]; rfl)
            case hs313_0 =>
              intro K hK; go_simp; go_at_call 42; refine (refField (d.length : Int) 2 _ (by omega) (by omega) (by decide)).mono ?_; rintro en wn ⟨rfl, hu⟩
              have x0 := hu.cell x0 fun h => h; have x1 := hu.cell x1 fun h => h; have x4 := hu.cell x4 fun h => h
              have hU := (by first | exact hU.trans hu fun _ _ h => h | exact (hU.then_drew).trans hu fun _ _ h => h : Upd Non w wn)
              try have hB := hB.non hu
              clear hu
              try go_wp2_with fail
              refine hK.out _ _ ?_ (fun hHeld => ?_)
              · (try dsimp only); first | exact ⟨x0, x1, x4⟩ | exact ⟨(Upd.alloc Non _ _).cell x0 fun h => h, (Upd.alloc Non _ _).cell x1 fun h => h, (Upd.alloc Non _ _).cell x4 fun h => h⟩
              clear hK K
              try simp only [Act.put, List.setIfInBounds_toArray, List.set_cons_zero, List.set_cons_succ]
              (refine wpAnyH_take (i := 15) (oi := ?oi_314) (v := ?v_314) ?ho_314 ?hs_314 ?hf_314 ?hr_314 ?hQ_314 ?hy_314 ?hS_314 ?rest_314; (case hr_314 => kernel_rfl); (case hf_314 => kernel_rfl); (case hs_314 => kernel_rfl); (case ho_314 => (simp only [List.getElem?_toArray, List.getElem?_cons_succ, List.getElem?_cons_zero]; rfl)); (case hS_314 => assumption); (case hQ_314 => exact fun _ _ _ h => h); (case hy_314 => (refine Or.inl ⟨by rfl, ?_⟩; (intro w hSw; (try dsimp only at hSw); go_simp) <;> with_reducible rfl)); (try simp only [Act.put, List.setIfInBounds_toArray, List.set_cons_zero, List.set_cons_succ]))
              (refine wpAnyH_take (i := 18) (oi := ?oi_315) (v := ?v_315) ?ho_315 ?hs_315 ?hf_315 ?hr_315 ?hQ_315 ?hy_315 ?hS_315 ?rest_315; (case hr_315 => kernel_rfl); (case hf_315 => kernel_rfl); (case hs_315 => kernel_rfl); (case ho_315 => (simp only [List.getElem?_toArray, List.getElem?_cons_succ, List.getElem?_cons_zero]; rfl)); (case hS_315 => assumption); (case hQ_315 => exact fun _ _ _ h => h); (case hy_315 => (refine Or.inl ⟨by rfl, ?_⟩; (intro w hSw; (try dsimp only at hSw); go_simp) <;> with_reducible rfl)); (try simp only [Act.put, List.setIfInBounds_toArray, List.set_cons_zero, List.set_cons_succ]))
              (refine wpAnyH_take (i := 25) (oi := ?oi_316) (v := ?v_316) ?ho_316 ?hs_316 ?hf_316 ?hr_316 ?hQ_316 ?hy_316 ?hS_316 ?rest_316; (case hr_316 => kernel_rfl); (case hf_316 => kernel_rfl); (case hs_316 => kernel_rfl); (case ho_316 => (simp only [List.getElem?_toArray, List.getElem?_cons_succ, List.getElem?_cons_zero]; rfl)); (case hS_316 => assumption); (case hQ_316 => exact fun _ _ _ h => h); (case hy_316 => (refine Or.inl ⟨by rfl, ?_⟩; (intro w hSw; (try dsimp only at hSw); go_simp) <;> with_reducible rfl)); (try simp only [Act.put, List.setIfInBounds_toArray, List.set_cons_zero, List.set_cons_succ]))
              (refine wpAnyH_take (i := 26) (oi := ?oi_317) (v := ?v_317) ?ho_317 ?hs_317 ?hf_317 ?hr_317 ?hQ_317 ?hy_317 ?hS_317 ?rest_317; (case hr_317 => kernel_rfl); (case hf_317 => kernel_rfl); (case hs_317 => kernel_rfl); (case ho_317 => (simp only [List.getElem?_toArray, List.getElem?_cons_succ, List.getElem?_cons_zero]; rfl)); (case hS_317 => assumption); (case hQ_317 => exact fun _ _ _ h => h); (case hy_317 => (refine Or.inl ⟨by rfl, ?_⟩; (intro w hSw; (try dsimp only at hSw); go_simp) <;> with_reducible rfl)); (try simp only [Act.put, List.setIfInBounds_toArray, List.set_cons_zero, List.set_cons_succ]))
              refine wpAnyH_done (by kernel_rfl) ?_ _
              try rw [hstr]
              go_wp2_with fail
              refine (refSum BB _ (by have := hBBl.out; omega)).mono ?_
              rintro en wa ⟨rfl, hua⟩
              rw [hsm.out]
              go_wp2_with fail
              refine (refField (sm : Int) 4 _ (by omega) (by omega) (by decide)).mono ?_
              rintro en wb ⟨rfl, hub⟩
              have hUb := (hU.trans hua fun _ _ h => h).trans hub fun _ _ h => h
              go_wp2_with fail
              go_ret
              refine ⟨?_, hUb⟩
              rw [app_str, hslot.out]
              simp
        case hs305_1 =>
          intro K hK; have hst := run_str (P := Try.prog) _ 42 9 5 Try.underlying42 Try.underlying5 Try.underlying9 _ _ hB; go_simp; clear hst
          try go_wp2_with fail
          refine hK.out _ _ ?_ (fun hHeld => ?_)
          · (try dsimp only); first | exact ⟨x0, x1, x4⟩ | exact ⟨(Upd.alloc Non _ _).cell x0 fun h => h, (Upd.alloc Non _ _).cell x1 fun h => h, (Upd.alloc Non _ _).cell x4 fun h => h⟩
          clear hK K
          try simp only [Act.put, List.setIfInBounds_toArray, List.set_cons_zero, List.set_cons_succ]
          refine wpAnyH_ready (rs := [9]) (by kernel_rfl) (by simp) ?_
          refine AllReadyH.cons (o := ?oo318_0) ?ho318_0 ?hs318_0 AllReadyH.nil
          case ho318_0 => (simp only [List.getElem?_toArray, List.getElem?_cons_succ, List.getElem?_cons_zero]; rfl)
          case hs318_0 =>
            intro K hK; go_simp; go_at_call 42; refine (refField q 8 _ (by omega) (by omega) (by decide)).mono ?_; rintro en wn ⟨rfl, hu⟩
            have x0 := hu.cell x0 fun h => h; have x1 := hu.cell x1 fun h => h; have x4 := hu.cell x4 fun h => h
            have hU := (by first | exact hU.trans hu fun _ _ h => h | exact (hU.then_drew).trans hu fun _ _ h => h : Upd Non w wn)
            try have hB := hB.non hu
            clear hu
            try go_wp2_with fail
            refine hK.out _ _ ?_ (fun hHeld => ?_)
            · (try dsimp only); first | exact ⟨x0, x1, x4⟩ | exact ⟨(Upd.alloc Non _ _).cell x0 fun h => h, (Upd.alloc Non _ _).cell x1 fun h => h, (Upd.alloc Non _ _).cell x4 fun h => h⟩
            clear hK K
            try simp only [Act.put, List.setIfInBounds_toArray, List.set_cons_zero, List.set_cons_succ]
            (refine wpAnyH_take (i := 10) (oi := ?oi_319) (v := ?v_319) ?ho_319 ?hs_319 ?hf_319 ?hr_319 ?hQ_319 ?hy_319 ?hS_319 ?rest_319; (case hr_319 => kernel_rfl); (case hf_319 => kernel_rfl); (case hs_319 => kernel_rfl); (case ho_319 => (simp only [List.getElem?_toArray, List.getElem?_cons_succ, List.getElem?_cons_zero]; rfl)); (case hS_319 => assumption); (case hQ_319 => exact fun _ _ _ h => h); (case hy_319 => (refine Or.inl ⟨by rfl, ?_⟩; (intro w hSw; (try dsimp only at hSw); go_simp) <;> with_reducible rfl)); (try simp only [Act.put, List.setIfInBounds_toArray, List.set_cons_zero, List.set_cons_succ]))
            refine wpAnyH_ready (rs := [14]) (by kernel_rfl) (by simp) ?_
            refine AllReadyH.cons (o := ?oo320_0) ?ho320_0 ?hs320_0 AllReadyH.nil
            case ho320_0 => (simp only [List.getElem?_toArray, List.getElem?_cons_succ, List.getElem?_cons_zero]; rfl)
            case hs320_0 =>
              intro K hK; go_simp; go_at_call 42; refine (refField (d.length : Int) 2 _ (by omega) (by omega) (by decide)).mono ?_; rintro en wn ⟨rfl, hu⟩
              have x0 := hu.cell x0 fun h => h; have x1 := hu.cell x1 fun h => h; have x4 := hu.cell x4 fun h => h
              have hU := (by first | exact hU.trans hu fun _ _ h => h | exact (hU.then_drew).trans hu fun _ _ h => h : Upd Non w wn)
              try have hB := hB.non hu
              clear hu
              try go_wp2_with fail
              refine hK.out _ _ ?_ (fun hHeld => ?_)
              · (try dsimp only); first | exact ⟨x0, x1, x4⟩ | exact ⟨(Upd.alloc Non _ _).cell x0 fun h => h, (Upd.alloc Non _ _).cell x1 fun h => h, (Upd.alloc Non _ _).cell x4 fun h => h⟩
              clear hK K
              try simp only [Act.put, List.setIfInBounds_toArray, List.set_cons_zero, List.set_cons_succ]
              (refine wpAnyH_take (i := 15) (oi := ?oi_321) (v := ?v_321) ?ho_321 ?hs_321 ?hf_321 ?hr_321 ?hQ_321 ?hy_321 ?hS_321 ?rest_321; (case hr_321 => kernel_rfl); (case hf_321 => kernel_rfl); (case hs_321 => kernel_rfl); (case ho_321 => (simp only [List.getElem?_toArray, List.getElem?_cons_succ, List.getElem?_cons_zero]; rfl)); (case hS_321 => assumption); (case hQ_321 => exact fun _ _ _ h => h); (case hy_321 => (refine Or.inl ⟨by rfl, ?_⟩; (intro w hSw; (try dsimp only at hSw); go_simp) <;> with_reducible rfl)); (try simp only [Act.put, List.setIfInBounds_toArray, List.set_cons_zero, List.set_cons_succ]))
              (refine wpAnyH_take (i := 18) (oi := ?oi_322) (v := ?v_322) ?ho_322 ?hs_322 ?hf_322 ?hr_322 ?hQ_322 ?hy_322 ?hS_322 ?rest_322; (case hr_322 => kernel_rfl); (case hf_322 => kernel_rfl); (case hs_322 => kernel_rfl); (case ho_322 => (simp only [List.getElem?_toArray, List.getElem?_cons_succ, List.getElem?_cons_zero]; rfl)); (case hS_322 => assumption); (case hQ_322 => exact fun _ _ _ h => h); (case hy_322 => (refine Or.inl ⟨by rfl, ?_⟩; (intro w hSw; (try dsimp only at hSw); go_simp) <;> with_reducible rfl)); (try simp only [Act.put, List.setIfInBounds_toArray, List.set_cons_zero, List.set_cons_succ]))
              (refine wpAnyH_take (i := 25) (oi := ?oi_323) (v := ?v_323) ?ho_323 ?hs_323 ?hf_323 ?hr_323 ?hQ_323 ?hy_323 ?hS_323 ?rest_323; (case hr_323 => kernel_rfl); (case hf_323 => kernel_rfl); (case hs_323 => kernel_rfl); (case ho_323 => (simp only [List.getElem?_toArray, List.getElem?_cons_succ, List.getElem?_cons_zero]; rfl)); (case hS_323 => assumption); (case hQ_323 => exact fun _ _ _ h => h); (case hy_323 => (refine Or.inl ⟨by rfl, ?_⟩; (intro w hSw; (try dsimp only at hSw); go_simp) <;> with_reducible rfl)); (try simp only [Act.put, List.setIfInBounds_toArray, List.set_cons_zero, List.set_cons_succ]))
              (refine wpAnyH_take (i := 26) (oi := ?oi_324) (v := ?v_324) ?ho_324 ?hs_324 ?hf_324 ?hr_324 ?hQ_324 ?hy_324 ?hS_324 ?rest_324; (case hr_324 => kernel_rfl); (case hf_324 => kernel_rfl); (case hs_324 => kernel_rfl); (case ho_324 => (simp only [List.getElem?_toArray, List.getElem?_cons_succ, List.getElem?_cons_zero]; rfl)); (case hS_324 => assumption); (case hQ_324 => exact fun _ _ _ h => h); (case hy_324 => (refine Or.inl ⟨by rfl, ?_⟩; (intro w hSw; (try dsimp only at hSw); go_simp) <;> with_reducible rfl)); (try simp only [Act.put, List.setIfInBounds_toArray, List.set_cons_zero, List.set_cons_succ]))
              refine wpAnyH_done (by kernel_rfl) ?_ _
              try rw [hstr]
              go_wp2_with fail
              refine (refSum BB _ (by have := hBBl.out; omega)).mono ?_
              rintro en wa ⟨rfl, hua⟩
              rw [hsm.out]
              go_wp2_with fail
              refine (refField (sm : Int) 4 _ (by omega) (by omega) (by decide)).mono ?_
              rintro en wb ⟨rfl, hub⟩
              have hUb := (hU.trans hua fun _ _ h => h).trans hub fun _ _ h => h
              go_wp2_with fail
              go_ret
              refine ⟨?_, hUb⟩
              rw [app_str, hslot.out]
              simp
    case hs283_1 =>
      intro K hK; have hmk := hmk0; go_simp; clear hmk
      try go_wp2_with fail
      refine hK.out _ _ ?_ (fun hHeld => ?_)
      · (try dsimp only); exact ⟨(Upd.alloc Non _ _).cell x0 fun h => h, (Upd.alloc Non _ _).cell x1 fun h => h, (Upd.alloc Non _ _).cell x4 fun h => h⟩
      clear hK K
      try simp only [Act.put, List.setIfInBounds_toArray, List.set_cons_zero, List.set_cons_succ]
      obtain ⟨hB, hU, x0, x1, x4⟩ := made_noughts hU x0 x1 x4 5 (108 - d.length) (by omega)
      refine wpAnyH_ready (rs := [5, 24]) (by kernel_rfl) (by simp) ?_
      refine AllReadyH.cons (o := ?oo325_0) ?ho325_0 ?hs325_0 (AllReadyH.cons (o := ?oo325_1) ?ho325_1 ?hs325_1 AllReadyH.nil)
      case ho325_0 => (simp only [List.getElem?_toArray, List.getElem?_cons_succ, List.getElem?_cons_zero]; rfl)
      case ho325_1 => (simp only [List.getElem?_toArray, List.getElem?_cons_succ, List.getElem?_cons_zero]; rfl)
      case hs325_0 =>
        intro K hK; go_simp; go_at_call 42; refine (refField e 4 _ (by omega) (by omega) (by decide)).mono ?_; rintro en wn ⟨rfl, hu⟩
        have x0 := hu.cell x0 fun h => h; have x1 := hu.cell x1 fun h => h; have x4 := hu.cell x4 fun h => h
        have hU := (by first | exact hU.trans hu fun _ _ h => h | exact (hU.then_drew).trans hu fun _ _ h => h : Upd Non w wn)
        try have hB := hB.non hu
        clear hu
        try go_wp2_with fail
        refine hK.out _ _ ?_ (fun hHeld => ?_)
        · (try dsimp only); first | exact ⟨x0, x1, x4⟩ | exact ⟨(Upd.alloc Non _ _).cell x0 fun h => h, (Upd.alloc Non _ _).cell x1 fun h => h, (Upd.alloc Non _ _).cell x4 fun h => h⟩
        clear hK K
        try simp only [Act.put, List.setIfInBounds_toArray, List.set_cons_zero, List.set_cons_succ]
        (refine wpAnyH_take (i := 6) (oi := ?oi_326) (v := ?v_326) ?ho_326 ?hs_326 ?hf_326 ?hr_326 ?hQ_326 ?hy_326 ?hS_326 ?rest_326; (case hr_326 => kernel_rfl); (case hf_326 => kernel_rfl); (case hs_326 => kernel_rfl); (case ho_326 => (simp only [List.getElem?_toArray, List.getElem?_cons_succ, List.getElem?_cons_zero]; rfl)); (case hS_326 => assumption); (case hQ_326 => exact fun _ _ _ h => h); (case hy_326 => (refine Or.inl ⟨by rfl, ?_⟩; (intro w hSw; (try dsimp only at hSw); go_simp) <;> with_reducible rfl)); (try simp only [Act.put, List.setIfInBounds_toArray, List.set_cons_zero, List.set_cons_succ]))
        refine wpAnyH_ready (rs := [9, 24]) (by kernel_rfl) (by simp) ?_
        refine AllReadyH.cons (o := ?oo327_0) ?ho327_0 ?hs327_0 (AllReadyH.cons (o := ?oo327_1) ?ho327_1 ?hs327_1 AllReadyH.nil)
        case ho327_0 => (simp only [List.getElem?_toArray, List.getElem?_cons_succ, List.getElem?_cons_zero]; rfl)
        case ho327_1 => (simp only [List.getElem?_toArray, List.getElem?_cons_succ, List.getElem?_cons_zero]; rfl)
        case hs327_0 =>
          intro K hK; go_simp; go_at_call 42; refine (refField q 8 _ (by omega) (by omega) (by decide)).mono ?_; rintro en wn ⟨rfl, hu⟩
          have x0 := hu.cell x0 fun h => h; have x1 := hu.cell x1 fun h => h; have x4 := hu.cell x4 fun h => h
          have hU := (by first | exact hU.trans hu fun _ _ h => h | exact (hU.then_drew).trans hu fun _ _ h => h : Upd Non w wn)
          try have hB := hB.non hu
          clear hu
          try go_wp2_with fail
          refine hK.out _ _ ?_ (fun hHeld => ?_)
          · (try dsimp only); first | exact ⟨x0, x1, x4⟩ | exact ⟨(Upd.alloc Non _ _).cell x0 fun h => h, (Upd.alloc Non _ _).cell x1 fun h => h, (Upd.alloc Non _ _).cell x4 fun h => h⟩
          clear hK K
          try simp only [Act.put, List.setIfInBounds_toArray, List.set_cons_zero, List.set_cons_succ]
          (refine wpAnyH_take (i := 10) (oi := ?oi_328) (v := ?v_328) ?ho_328 ?hs_328 ?hf_328 ?hr_328 ?hQ_328 ?hy_328 ?hS_328 ?rest_328; (case hr_328 => kernel_rfl); (case hf_328 => kernel_rfl); (case hs_328 => kernel_rfl); (case ho_328 => (simp only [List.getElem?_toArray, List.getElem?_cons_succ, List.getElem?_cons_zero]; rfl)); (case hS_328 => assumption); (case hQ_328 => exact fun _ _ _ h => h); (case hy_328 => (refine Or.inl ⟨by rfl, ?_⟩; (intro w hSw; (try dsimp only at hSw); go_simp) <;> with_reducible rfl)); (try simp only [Act.put, List.setIfInBounds_toArray, List.set_cons_zero, List.set_cons_succ]))
          refine wpAnyH_ready (rs := [14, 24]) (by kernel_rfl) (by simp) ?_
          refine AllReadyH.cons (o := ?oo329_0) ?ho329_0 ?hs329_0 (AllReadyH.cons (o := ?oo329_1) ?ho329_1 ?hs329_1 AllReadyH.nil)
          case ho329_0 => (simp only [List.getElem?_toArray, List.getElem?_cons_succ, List.getElem?_cons_zero]; rfl)
          case ho329_1 => (simp only [List.getElem?_toArray, List.getElem?_cons_succ, List.getElem?_cons_zero]; rfl)
          case hs329_0 =>
            intro K hK; go_simp; go_at_call 42; refine (refField (d.length : Int) 2 _ (by omega) (by omega) (by decide)).mono ?_; rintro en wn ⟨rfl, hu⟩
            have x0 := hu.cell x0 fun h => h; have x1 := hu.cell x1 fun h => h; have x4 := hu.cell x4 fun h => h
            have hU := (by first | exact hU.trans hu fun _ _ h => h | exact (hU.then_drew).trans hu fun _ _ h => h : Upd Non w wn)
            try have hB := hB.non hu
            clear hu
            try go_wp2_with fail
            refine hK.out _ _ ?_ (fun hHeld => ?_)
            · (try dsimp only); first | exact ⟨x0, x1, x4⟩ | exact ⟨(Upd.alloc Non _ _).cell x0 fun h => h, (Upd.alloc Non _ _).cell x1 fun h => h, (Upd.alloc Non _ _).cell x4 fun h => h⟩
            clear hK K
            try simp only [Act.put, List.setIfInBounds_toArray, List.set_cons_zero, List.set_cons_succ]
            (refine wpAnyH_take (i := 15) (oi := ?oi_330) (v := ?v_330) ?ho_330 ?hs_330 ?hf_330 ?hr_330 ?hQ_330 ?hy_330 ?hS_330 ?rest_330; (case hr_330 => kernel_rfl); (case hf_330 => kernel_rfl); (case hs_330 => kernel_rfl); (case ho_330 => (simp only [List.getElem?_toArray, List.getElem?_cons_succ, List.getElem?_cons_zero]; rfl)); (case hS_330 => assumption); (case hQ_330 => exact fun _ _ _ h => h); (case hy_330 => (refine Or.inl ⟨by rfl, ?_⟩; (intro w hSw; (try dsimp only at hSw); go_simp) <;> with_reducible rfl)); (try simp only [Act.put, List.setIfInBounds_toArray, List.set_cons_zero, List.set_cons_succ]))
            (refine wpAnyH_take (i := 18) (oi := ?oi_331) (v := ?v_331) ?ho_331 ?hs_331 ?hf_331 ?hr_331 ?hQ_331 ?hy_331 ?hS_331 ?rest_331; (case hr_331 => kernel_rfl); (case hf_331 => kernel_rfl); (case hs_331 => kernel_rfl); (case ho_331 => (simp only [List.getElem?_toArray, List.getElem?_cons_succ, List.getElem?_cons_zero]; rfl)); (case hS_331 => assumption); (case hQ_331 => exact fun _ _ _ h => h); (case hy_331 => (refine Or.inl ⟨by rfl, ?_⟩; (intro w hSw; (try dsimp only at hSw); go_simp) <;> with_reducible rfl)); (try simp only [Act.put, List.setIfInBounds_toArray, List.set_cons_zero, List.set_cons_succ]))
            refine wpAnyH_ready (rs := [24]) (by kernel_rfl) (by simp) ?_
            refine AllReadyH.cons (o := ?oo332_0) ?ho332_0 ?hs332_0 AllReadyH.nil
            case ho332_0 => (simp only [List.getElem?_toArray, List.getElem?_cons_succ, List.getElem?_cons_zero]; rfl)
            case hs332_0 =>
              intro K hK; have hst := run_str (P := Try.prog) _ 42 9 5 Try.underlying42 Try.underlying5 Try.underlying9 _ _ hB; go_simp; clear hst
              try go_wp2_with fail
              refine hK.out _ _ ?_ (fun hHeld => ?_)
              · (try dsimp only); first | exact ⟨x0, x1, x4⟩ | exact ⟨(Upd.alloc Non _ _).cell x0 fun h => h, (Upd.alloc Non _ _).cell x1 fun h => h, (Upd.alloc Non _ _).cell x4 fun h => h⟩
              clear hK K
              try simp only [Act.put, List.setIfInBounds_toArray, List.set_cons_zero, List.set_cons_succ]
              (refine wpAnyH_take (i := 25) (oi := ?oi_333) (v := ?v_333) ?ho_333 ?hs_333 ?hf_333 ?hr_333 ?hQ_333 ?hy_333 ?hS_333 ?rest_333; (case hr_333 => kernel_rfl); (case hf_333 => kernel_rfl); (case hs_333 => kernel_rfl); (case ho_333 => (simp only [List.getElem?_toArray, List.getElem?_cons_succ, List.getElem?_cons_zero]; rfl)); (case hS_333 => assumption); (case hQ_333 => exact fun _ _ _ h => h); (case hy_333 => (refine Or.inl ⟨by rfl, ?_⟩; (intro w hSw; (try dsimp only at hSw); go_simp) <;> with_reducible rfl)); (try simp only [Act.put, List.setIfInBounds_toArray, List.set_cons_zero, List.set_cons_succ]))
              (refine wpAnyH_take (i := 26) (oi := ?oi_334) (v := ?v_334) ?ho_334 ?hs_334 ?hf_334 ?hr_334 ?hQ_334 ?hy_334 ?hS_334 ?rest_334; (case hr_334 => kernel_rfl); (case hf_334 => kernel_rfl); (case hs_334 => kernel_rfl); (case ho_334 => (simp only [List.getElem?_toArray, List.getElem?_cons_succ, List.getElem?_cons_zero]; rfl)); (case hS_334 => assumption); (case hQ_334 => exact fun _ _ _ h => h); (case hy_334 => (refine Or.inl ⟨by rfl, ?_⟩; (intro w hSw; (try dsimp only at hSw); go_simp) <;> with_reducible rfl)); (try simp only [Act.put, List.setIfInBounds_toArray, List.set_cons_zero, List.set_cons_succ]))
              refine wpAnyH_done (by kernel_rfl) ?_ _
              try rw [hstr]
              go_wp2_with fail
              refine (refSum BB _ (by have := hBBl.out; omega)).mono ?_
              rintro en wa ⟨rfl, hua⟩
              rw [hsm.out]
              go_wp2_with fail
              refine (refField (sm : Int) 4 _ (by omega) (by omega) (by decide)).mono ?_
              rintro en wb ⟨rfl, hub⟩
              have hUb := (hU.trans hua fun _ _ h => h).trans hub fun _ _ h => h
              go_wp2_with fail
              go_ret
              refine ⟨?_, hUb⟩
              rw [app_str, hslot.out]
              simp
          case hs329_1 =>
            intro K hK; have hst := run_str (P := Try.prog) _ 42 9 5 Try.underlying42 Try.underlying5 Try.underlying9 _ _ hB; go_simp; clear hst
            try go_wp2_with fail
            refine hK.out _ _ ?_ (fun hHeld => ?_)
            · (try dsimp only); first | exact ⟨x0, x1, x4⟩ | exact ⟨(Upd.alloc Non _ _).cell x0 fun h => h, (Upd.alloc Non _ _).cell x1 fun h => h, (Upd.alloc Non _ _).cell x4 fun h => h⟩
            clear hK K
            try simp only [Act.put, List.setIfInBounds_toArray, List.set_cons_zero, List.set_cons_succ]
            refine wpAnyH_ready (rs := [14]) (by kernel_rfl) (by simp) ?_
            refine AllReadyH.cons (o := ?oo335_0) ?ho335_0 ?hs335_0 AllReadyH.nil
            case ho335_0 => (simp only [List.getElem?_toArray, List.getElem?_cons_succ, List.getElem?_cons_zero]; rfl)
            case hs335_0 =>
              intro K hK; go_simp; go_at_call 42; refine (refField (d.length : Int) 2 _ (by omega) (by omega) (by decide)).mono ?_; rintro en wn ⟨rfl, hu⟩
              have x0 := hu.cell x0 fun h => h; have x1 := hu.cell x1 fun h => h; have x4 := hu.cell x4 fun h => h
              have hU := (by first | exact hU.trans hu fun _ _ h => h | exact (hU.then_drew).trans hu fun _ _ h => h : Upd Non w wn)
              try have hB := hB.non hu
              clear hu
              try go_wp2_with fail
              refine hK.out _ _ ?_ (fun hHeld => ?_)
              · (try dsimp only); first | exact ⟨x0, x1, x4⟩ | exact ⟨(Upd.alloc Non _ _).cell x0 fun h => h, (Upd.alloc Non _ _).cell x1 fun h => h, (Upd.alloc Non _ _).cell x4 fun h => h⟩
              clear hK K
              try simp only [Act.put, List.setIfInBounds_toArray, List.set_cons_zero, List.set_cons_succ]
              (refine wpAnyH_take (i := 15) (oi := ?oi_336) (v := ?v_336) ?ho_336 ?hs_336 ?hf_336 ?hr_336 ?hQ_336 ?hy_336 ?hS_336 ?rest_336; (case hr_336 => kernel_rfl); (case hf_336 => kernel_rfl); (case hs_336 => kernel_rfl); (case ho_336 => (simp only [List.getElem?_toArray, List.getElem?_cons_succ, List.getElem?_cons_zero]; rfl)); (case hS_336 => assumption); (case hQ_336 => exact fun _ _ _ h => h); (case hy_336 => (refine Or.inl ⟨by rfl, ?_⟩; (intro w hSw; (try dsimp only at hSw); go_simp) <;> with_reducible rfl)); (try simp only [Act.put, List.setIfInBounds_toArray, List.set_cons_zero, List.set_cons_succ]))
              (refine wpAnyH_take (i := 18) (oi := ?oi_337) (v := ?v_337) ?ho_337 ?hs_337 ?hf_337 ?hr_337 ?hQ_337 ?hy_337 ?hS_337 ?rest_337; (case hr_337 => kernel_rfl); (case hf_337 => kernel_rfl); (case hs_337 => kernel_rfl); (case ho_337 => (simp only [List.getElem?_toArray, List.getElem?_cons_succ, List.getElem?_cons_zero]; rfl)); (case hS_337 => assumption); (case hQ_337 => exact fun _ _ _ h => h); (case hy_337 => (refine Or.inl ⟨by rfl, ?_⟩; (intro w hSw; (try dsimp only at hSw); go_simp) <;> with_reducible rfl)); (try simp only [Act.put, List.setIfInBounds_toArray, List.set_cons_zero, List.set_cons_succ]))
              (refine wpAnyH_take (i := 25) (oi := ?oi_338) (v := ?v_338) ?ho_338 ?hs_338 ?hf_338 ?hr_338 ?hQ_338 ?hy_338 ?hS_338 ?rest_338; (case hr_338 => kernel_rfl); (case hf_338 => kernel_rfl); (case hs_338 => kernel_rfl); (case ho_338 => (simp only [List.getElem?_toArray, List.getElem?_cons_succ, List.getElem?_cons_zero]; rfl)); (case hS_338 => assumption); (case hQ_338 => exact fun _ _ _ h => h); (case hy_338 => (refine Or.inl ⟨by rfl, ?_⟩; (intro w hSw; (try dsimp only at hSw); go_simp) <;> with_reducible rfl)); (try simp only [Act.put, List.setIfInBounds_toArray, List.set_cons_zero, List.set_cons_succ]))
              (refine wpAnyH_take (i := 26) (oi := ?oi_339) (v := ?v_339) ?ho_339 ?hs_339 ?hf_339 ?hr_339 ?hQ_339 ?hy_339 ?hS_339 ?rest_339; (case hr_339 => kernel_rfl); (case hf_339 => kernel_rfl); (case hs_339 => kernel_rfl); (case ho_339 => (simp only [List.getElem?_toArray, List.getElem?_cons_succ, List.getElem?_cons_zero]; rfl)); (case hS_339 => assumption); (case hQ_339 => exact fun _ _ _ h => h); (case hy_339 => (refine Or.inl ⟨by rfl, ?_⟩; (intro w hSw; (try dsimp only at hSw); go_simp) <;> with_reducible rfl)); (try simp only [Act.put, List.setIfInBounds_toArray, List.set_cons_zero, List.set_cons_succ]))
              refine wpAnyH_done (by kernel_rfl) ?_ _
              try rw [hstr]
              go_wp2_with fail
              refine (refSum BB _ (by have := hBBl.out; omega)).mono ?_
              rintro en wa ⟨rfl, hua⟩
              rw [hsm.out]
              go_wp2_with fail
              refine (refField (sm : Int) 4 _ (by omega) (by omega) (by decide)).mono ?_
              rintro en wb ⟨rfl, hub⟩
              have hUb := (hU.trans hua fun _ _ h => h).trans hub fun _ _ h => h
              go_wp2_with fail
              go_ret
              refine ⟨?_, hUb⟩
              rw [app_str, hslot.out]
              simp
        case hs327_1 =>
          intro K hK; have hst := run_str (P := Try.prog) _ 42 9 5 Try.underlying42 Try.underlying5 Try.underlying9 _ _ hB; go_simp; clear hst
          try go_wp2_with fail
          refine hK.out _ _ ?_ (fun hHeld => ?_)
          · (try dsimp only); first | exact ⟨x0, x1, x4⟩ | exact ⟨(Upd.alloc Non _ _).cell x0 fun h => h, (Upd.alloc Non _ _).cell x1 fun h => h, (Upd.alloc Non _ _).cell x4 fun h => h⟩
          clear hK K
          try simp only [Act.put, List.setIfInBounds_toArray, List.set_cons_zero, List.set_cons_succ]
          refine wpAnyH_ready (rs := [9]) (by kernel_rfl) (by simp) ?_
          refine AllReadyH.cons (o := ?oo340_0) ?ho340_0 ?hs340_0 AllReadyH.nil
          case ho340_0 => (simp only [List.getElem?_toArray, List.getElem?_cons_succ, List.getElem?_cons_zero]; rfl)
          case hs340_0 =>
            intro K hK; go_simp; go_at_call 42; refine (refField q 8 _ (by omega) (by omega) (by decide)).mono ?_; rintro en wn ⟨rfl, hu⟩
            have x0 := hu.cell x0 fun h => h; have x1 := hu.cell x1 fun h => h; have x4 := hu.cell x4 fun h => h
            have hU := (by first | exact hU.trans hu fun _ _ h => h | exact (hU.then_drew).trans hu fun _ _ h => h : Upd Non w wn)
            try have hB := hB.non hu
            clear hu
            try go_wp2_with fail
            refine hK.out _ _ ?_ (fun hHeld => ?_)
            · (try dsimp only); first | exact ⟨x0, x1, x4⟩ | exact ⟨(Upd.alloc Non _ _).cell x0 fun h => h, (Upd.alloc Non _ _).cell x1 fun h => h, (Upd.alloc Non _ _).cell x4 fun h => h⟩
            clear hK K
            try simp only [Act.put, List.setIfInBounds_toArray, List.set_cons_zero, List.set_cons_succ]
            (refine wpAnyH_take (i := 10) (oi := ?oi_341) (v := ?v_341) ?ho_341 ?hs_341 ?hf_341 ?hr_341 ?hQ_341 ?hy_341 ?hS_341 ?rest_341; (case hr_341 => kernel_rfl); (case hf_341 => kernel_rfl); (case hs_341 => kernel_rfl); (case ho_341 => (simp only [List.getElem?_toArray, List.getElem?_cons_succ, List.getElem?_cons_zero]; rfl)); (case hS_341 => assumption); (case hQ_341 => exact fun _ _ _ h => h); (case hy_341 => (refine Or.inl ⟨by rfl, ?_⟩; (intro w hSw; (try dsimp only at hSw); go_simp) <;> with_reducible rfl)); (try simp only [Act.put, List.setIfInBounds_toArray, List.set_cons_zero, List.set_cons_succ]))
            refine wpAnyH_ready (rs := [14]) (by kernel_rfl) (by simp) ?_
            refine AllReadyH.cons (o := ?oo342_0) ?ho342_0 ?hs342_0 AllReadyH.nil
            case ho342_0 => (simp only [List.getElem?_toArray, List.getElem?_cons_succ, List.getElem?_cons_zero]; rfl)
            case hs342_0 =>
              intro K hK; go_simp; go_at_call 42; refine (refField (d.length : Int) 2 _ (by omega) (by omega) (by decide)).mono ?_; rintro en wn ⟨rfl, hu⟩
              have x0 := hu.cell x0 fun h => h; have x1 := hu.cell x1 fun h => h; have x4 := hu.cell x4 fun h => h
              have hU := (by first | exact hU.trans hu fun _ _ h => h | exact (hU.then_drew).trans hu fun _ _ h => h : Upd Non w wn)
              try have hB := hB.non hu
              clear hu
              try go_wp2_with fail
              refine hK.out _ _ ?_ (fun hHeld => ?_)
              · (try dsimp only); first | exact ⟨x0, x1, x4⟩ | exact ⟨(Upd.alloc Non _ _).cell x0 fun h => h, (Upd.alloc Non _ _).cell x1 fun h => h, (Upd.alloc Non _ _).cell x4 fun h => h⟩
              clear hK K
              try simp only [Act.put, List.setIfInBounds_toArray, List.set_cons_zero, List.set_cons_succ]
              (refine wpAnyH_take (i := 15) (oi := ?oi_343) (v := ?v_343) ?ho_343 ?hs_343 ?hf_343 ?hr_343 ?hQ_343 ?hy_343 ?hS_343 ?rest_343; (case hr_343 => kernel_rfl); (case hf_343 => kernel_rfl); (case hs_343 => kernel_rfl); (case ho_343 => (simp only [List.getElem?_toArray, List.getElem?_cons_succ, List.getElem?_cons_zero]; rfl)); (case hS_343 => assumption); (case hQ_343 => exact fun _ _ _ h => h); (case hy_343 => (refine Or.inl ⟨by rfl, ?_⟩; (intro w hSw; (try dsimp only at hSw); go_simp) <;> with_reducible rfl)); (try simp only [Act.put, List.setIfInBounds_toArray, List.set_cons_zero, List.set_cons_succ]))
              (refine wpAnyH_take (i := 18) (oi := ?oi_344) (v := ?v_344) ?ho_344 ?hs_344 ?hf_344 ?hr_344 ?hQ_344 ?hy_344 ?hS_344 ?rest_344; (case hr_344 => kernel_rfl); (case hf_344 => kernel_rfl); (case hs_344 => kernel_rfl); (case ho_344 => (simp only [List.getElem?_toArray, List.getElem?_cons_succ, List.getElem?_cons_zero]; rfl)); (case hS_344 => assumption); (case hQ_344 => exact fun _ _ _ h => h); (case hy_344 => (refine Or.inl ⟨by rfl, ?_⟩; (intro w hSw; (try dsimp only at hSw); go_simp) <;> with_reducible rfl)); (try simp only [Act.put, List.setIfInBounds_toArray, List.set_cons_zero, List.set_cons_succ]))
              (refine wpAnyH_take (i := 25) (oi := ?oi_345) (v := ?v_345) ?ho_345 ?hs_345 ?hf_345 ?hr_345 ?hQ_345 ?hy_345 ?hS_345 ?rest_345; (case hr_345 => kernel_rfl); (case hf_345 => kernel_rfl); (case hs_345 => kernel_rfl); (case ho_345 => (simp only [List.getElem?_toArray, List.getElem?_cons_succ, List.getElem?_cons_zero]; rfl)); (case hS_345 => assumption); (case hQ_345 => exact fun _ _ _ h => h); (case hy_345 => (refine Or.inl ⟨by rfl, ?_⟩; (intro w hSw; (try dsimp only at hSw); go_simp) <;> with_reducible rfl)); (try simp only [Act.put, List.setIfInBounds_toArray, List.set_cons_zero, List.set_cons_succ]))
              (refine wpAnyH_take (i := 26) (oi := ?oi_346) (v := ?v_346) ?ho_346 ?hs_346 ?hf_346 ?hr_346 ?hQ_346 ?hy_346 ?hS_346 ?rest_346; (case hr_346 => kernel_rfl); (case hf_346 => kernel_rfl); (case hs_346 => kernel_rfl); (case ho_346 => (simp only [List.getElem?_toArray, List.getElem?_cons_succ, List.getElem?_cons_zero]; rfl)); (case hS_346 => assumption); (case hQ_346 => exact fun _ _ _ h => h); (case hy_346 => (refine Or.inl ⟨by rfl, ?_⟩; (intro w hSw; (try dsimp only at hSw); go_simp) <;> with_reducible rfl)); (try simp only [Act.put, List.setIfInBounds_toArray, List.set_cons_zero, List.set_cons_succ]))
              refine wpAnyH_done (by kernel_rfl) ?_ _
              try rw [hstr]
              go_wp2_with fail
              refine (refSum BB _ (by have := hBBl.out; omega)).mono ?_
              rintro en wa ⟨rfl, hua⟩
              rw [hsm.out]
              go_wp2_with fail
              refine (refField (sm : Int) 4 _ (by omega) (by omega) (by decide)).mono ?_
              rintro en wb ⟨rfl, hub⟩
              have hUb := (hU.trans hua fun _ _ h => h).trans hub fun _ _ h => h
              go_wp2_with fail
              go_ret
              refine ⟨?_, hUb⟩
              rw [app_str, hslot.out]
              simp
      case hs325_1 =>
        intro K hK; have hst := run_str (P := Try.prog) _ 42 9 5 Try.underlying42 Try.underlying5 Try.underlying9 _ _ hB; go_simp; clear hst
        try go_wp2_with fail
        refine hK.out _ _ ?_ (fun hHeld => ?_)
        · (try dsimp only); first | exact ⟨x0, x1, x4⟩ | exact ⟨(Upd.alloc Non _ _).cell x0 fun h => h, (Upd.alloc Non _ _).cell x1 fun h => h, (Upd.alloc Non _ _).cell x4 fun h => h⟩
        clear hK K
        try simp only [Act.put, List.setIfInBounds_toArray, List.set_cons_zero, List.set_cons_succ]
        refine wpAnyH_ready (rs := [5]) (by kernel_rfl) (by simp) ?_
        refine AllReadyH.cons (o := ?oo347_0) ?ho347_0 ?hs347_0 AllReadyH.nil
        case ho347_0 => (simp only [List.getElem?_toArray, List.getElem?_cons_succ, List.getElem?_cons_zero]; rfl)
        case hs347_0 =>
          intro K hK; go_simp; go_at_call 42; refine (refField e 4 _ (by omega) (by omega) (by decide)).mono ?_; rintro en wn ⟨rfl, hu⟩
          have x0 := hu.cell x0 fun h => h; have x1 := hu.cell x1 fun h => h; have x4 := hu.cell x4 fun h => h
          have hU := (by first | exact hU.trans hu fun _ _ h => h | exact (hU.then_drew).trans hu fun _ _ h => h : Upd Non w wn)
          try have hB := hB.non hu
          clear hu
          try go_wp2_with fail
          refine hK.out _ _ ?_ (fun hHeld => ?_)
          · (try dsimp only); first | exact ⟨x0, x1, x4⟩ | exact ⟨(Upd.alloc Non _ _).cell x0 fun h => h, (Upd.alloc Non _ _).cell x1 fun h => h, (Upd.alloc Non _ _).cell x4 fun h => h⟩
          clear hK K
          try simp only [Act.put, List.setIfInBounds_toArray, List.set_cons_zero, List.set_cons_succ]
          (refine wpAnyH_take (i := 6) (oi := ?oi_348) (v := ?v_348) ?ho_348 ?hs_348 ?hf_348 ?hr_348 ?hQ_348 ?hy_348 ?hS_348 ?rest_348; (case hr_348 => kernel_rfl); (case hf_348 => kernel_rfl); (case hs_348 => kernel_rfl); (case ho_348 => (simp only [List.getElem?_toArray, List.getElem?_cons_succ, List.getElem?_cons_zero]; rfl)); (case hS_348 => assumption); (case hQ_348 => exact fun _ _ _ h => h); (case hy_348 => (refine Or.inl ⟨by rfl, ?_⟩; (intro w hSw; (try dsimp only at hSw); go_simp) <;> with_reducible rfl)); (try simp only [Act.put, List.setIfInBounds_toArray, List.set_cons_zero, List.set_cons_succ]))
          refine wpAnyH_ready (rs := [9]) (by kernel_rfl) (by simp) ?_
          refine AllReadyH.cons (o := ?oo349_0) ?ho349_0 ?hs349_0 AllReadyH.nil
          case ho349_0 => (simp only [List.getElem?_toArray, List.getElem?_cons_succ, List.getElem?_cons_zero]; rfl)
          case hs349_0 =>
            intro K hK; go_simp; go_at_call 42; refine (refField q 8 _ (by omega) (by omega) (by decide)).mono ?_; rintro en wn ⟨rfl, hu⟩
            have x0 := hu.cell x0 fun h => h; have x1 := hu.cell x1 fun h => h; have x4 := hu.cell x4 fun h => h
            have hU := (by first | exact hU.trans hu fun _ _ h => h | exact (hU.then_drew).trans hu fun _ _ h => h : Upd Non w wn)
            try have hB := hB.non hu
            clear hu
            try go_wp2_with fail
            refine hK.out _ _ ?_ (fun hHeld => ?_)
            · (try dsimp only); first | exact ⟨x0, x1, x4⟩ | exact ⟨(Upd.alloc Non _ _).cell x0 fun h => h, (Upd.alloc Non _ _).cell x1 fun h => h, (Upd.alloc Non _ _).cell x4 fun h => h⟩
            clear hK K
            try simp only [Act.put, List.setIfInBounds_toArray, List.set_cons_zero, List.set_cons_succ]
            (refine wpAnyH_take (i := 10) (oi := ?oi_350) (v := ?v_350) ?ho_350 ?hs_350 ?hf_350 ?hr_350 ?hQ_350 ?hy_350 ?hS_350 ?rest_350; (case hr_350 => kernel_rfl); (case hf_350 => kernel_rfl); (case hs_350 => kernel_rfl); (case ho_350 => (simp only [List.getElem?_toArray, List.getElem?_cons_succ, List.getElem?_cons_zero]; rfl)); (case hS_350 => assumption); (case hQ_350 => exact fun _ _ _ h => h); (case hy_350 => (refine Or.inl ⟨by rfl, ?_⟩; (intro w hSw; (try dsimp only at hSw); go_simp) <;> with_reducible rfl)); (try simp only [Act.put, List.setIfInBounds_toArray, List.set_cons_zero, List.set_cons_succ]))
            refine wpAnyH_ready (rs := [14]) (by kernel_rfl) (by simp) ?_
            refine AllReadyH.cons (o := ?oo351_0) ?ho351_0 ?hs351_0 AllReadyH.nil
            case ho351_0 => (simp only [List.getElem?_toArray, List.getElem?_cons_succ, List.getElem?_cons_zero]; rfl)
            case hs351_0 =>
              intro K hK; go_simp; go_at_call 42; refine (refField (d.length : Int) 2 _ (by omega) (by omega) (by decide)).mono ?_; rintro en wn ⟨rfl, hu⟩
              have x0 := hu.cell x0 fun h => h; have x1 := hu.cell x1 fun h => h; have x4 := hu.cell x4 fun h => h
              have hU := (by first | exact hU.trans hu fun _ _ h => h | exact (hU.then_drew).trans hu fun _ _ h => h : Upd Non w wn)
              try have hB := hB.non hu
              clear hu
              try go_wp2_with fail
              refine hK.out _ _ ?_ (fun hHeld => ?_)
              · (try dsimp only); first | exact ⟨x0, x1, x4⟩ | exact ⟨(Upd.alloc Non _ _).cell x0 fun h => h, (Upd.alloc Non _ _).cell x1 fun h => h, (Upd.alloc Non _ _).cell x4 fun h => h⟩
              clear hK K
              try simp only [Act.put, List.setIfInBounds_toArray, List.set_cons_zero, List.set_cons_succ]
              (refine wpAnyH_take (i := 15) (oi := ?oi_352) (v := ?v_352) ?ho_352 ?hs_352 ?hf_352 ?hr_352 ?hQ_352 ?hy_352 ?hS_352 ?rest_352; (case hr_352 => kernel_rfl); (case hf_352 => kernel_rfl); (case hs_352 => kernel_rfl); (case ho_352 => (simp only [List.getElem?_toArray, List.getElem?_cons_succ, List.getElem?_cons_zero]; rfl)); (case hS_352 => assumption); (case hQ_352 => exact fun _ _ _ h => h); (case hy_352 => (refine Or.inl ⟨by rfl, ?_⟩; (intro w hSw; (try dsimp only at hSw); go_simp) <;> with_reducible rfl)); (try simp only [Act.put, List.setIfInBounds_toArray, List.set_cons_zero, List.set_cons_succ]))
              (refine wpAnyH_take (i := 18) (oi := ?oi_353) (v := ?v_353) ?ho_353 ?hs_353 ?hf_353 ?hr_353 ?hQ_353 ?hy_353 ?hS_353 ?rest_353; (case hr_353 => kernel_rfl); (case hf_353 => kernel_rfl); (case hs_353 => kernel_rfl); (case ho_353 => (simp only [List.getElem?_toArray, List.getElem?_cons_succ, List.getElem?_cons_zero]; rfl)); (case hS_353 => assumption); (case hQ_353 => exact fun _ _ _ h => h); (case hy_353 => (refine Or.inl ⟨by rfl, ?_⟩; (intro w hSw; (try dsimp only at hSw); go_simp) <;> with_reducible rfl)); (try simp only [Act.put, List.setIfInBounds_toArray, List.set_cons_zero, List.set_cons_succ]))
              (refine wpAnyH_take (i := 25) (oi := ?oi_354) (v := ?v_354) ?ho_354 ?hs_354 ?hf_354 ?hr_354 ?hQ_354 ?hy_354 ?hS_354 ?rest_354; (case hr_354 => kernel_rfl); (case hf_354 => kernel_rfl); (case hs_354 => kernel_rfl); (case ho_354 => (simp only [List.getElem?_toArray, List.getElem?_cons_succ, List.getElem?_cons_zero]; rfl)); (case hS_354 => assumption); (case hQ_354 => exact fun _ _ _ h => h); (case hy_354 => (refine Or.inl ⟨by rfl, ?_⟩; (intro w hSw; (try dsimp only at hSw); go_simp) <;> with_reducible rfl)); (try simp only [Act.put, List.setIfInBounds_toArray, List.set_cons_zero, List.set_cons_succ]))
              (refine wpAnyH_take (i := 26) (oi := ?oi_355) (v := ?v_355) ?ho_355 ?hs_355 ?hf_355 ?hr_355 ?hQ_355 ?hy_355 ?hS_355 ?rest_355; (case hr_355 => kernel_rfl); (case hf_355 => kernel_rfl); (case hs_355 => kernel_rfl); (case ho_355 => (simp only [List.getElem?_toArray, List.getElem?_cons_succ, List.getElem?_cons_zero]; rfl)); (case hS_355 => assumption); (case hQ_355 => exact fun _ _ _ h => h); (case hy_355 => (refine Or.inl ⟨by rfl, ?_⟩; (intro w hSw; (try dsimp only at hSw); go_simp) <;> with_reducible rfl)); (try simp only [Act.put, List.setIfInBounds_toArray, List.set_cons_zero, List.set_cons_succ]))
              refine wpAnyH_done (by kernel_rfl) ?_ _
              try rw [hstr]
              go_wp2_with fail
              refine (refSum BB _ (by have := hBBl.out; omega)).mono ?_
              rintro en wa ⟨rfl, hua⟩
              rw [hsm.out]
              go_wp2_with fail
              refine (refField (sm : Int) 4 _ (by omega) (by omega) (by decide)).mono ?_
              rintro en wb ⟨rfl, hub⟩
              have hUb := (hU.trans hua fun _ _ h => h).trans hub fun _ _ h => h
              go_wp2_with fail
              go_ret
              refine ⟨?_, hUb⟩
              rw [app_str, hslot.out]
              simp
  case hs281_1 =>
    intro K hK; have hmk := hmk0; go_simp; clear hmk
    try go_wp2_with fail
    refine hK.out _ _ ?_ (fun hHeld => ?_)
    · (try dsimp only); exact ⟨(Upd.alloc Non _ _).cell x0 fun h => h, (Upd.alloc Non _ _).cell x1 fun h => h, (Upd.alloc Non _ _).cell x4 fun h => h⟩
    clear hK K
    try simp only [Act.put, List.setIfInBounds_toArray, List.set_cons_zero, List.set_cons_succ]
    obtain ⟨hB, hU, x0, x1, x4⟩ := made_noughts hU x0 x1 x4 5 (108 - d.length) (by omega)
    rw [show (World.drew (w.alloc (.cells #[.int .i64 e, .int .i64 q, .bool false, .bool true, .string ⟨d.toArray⟩] 41))).heap.size = w.heap.size + 1 by simp] at hB
    refine wpAnyH_ready (rs := [1, 24]) (by kernel_rfl) (by simp) ?_
    refine AllReadyH.cons (o := ?oo356_0) ?ho356_0 ?hs356_0 (AllReadyH.cons (o := ?oo356_1) ?ho356_1 ?hs356_1 AllReadyH.nil)
    case ho356_0 => (simp only [List.getElem?_toArray, List.getElem?_cons_succ, List.getElem?_cons_zero]; rfl)
    case ho356_1 => (simp only [List.getElem?_toArray, List.getElem?_cons_succ, List.getElem?_cons_zero]; rfl)
    case hs356_0 =>
      intro K hK; go_simp; go_at_call 42; refine (refField 2 1 _ (by omega) (by omega) (by decide)).mono ?_; rintro en wn ⟨rfl, hu⟩
      have x0 := hu.cell x0 fun h => h; have x1 := hu.cell x1 fun h => h; have x4 := hu.cell x4 fun h => h
      have hU := (by first | exact hU.trans hu fun _ _ h => h | exact (hU.then_drew).trans hu fun _ _ h => h : Upd Non w wn)
      try have hB := hB.non hu
      clear hu
      try go_wp2_with fail
      refine hK.out _ _ ?_ (fun hHeld => ?_)
      · (try dsimp only); first | exact ⟨x0, x1, x4⟩ | exact ⟨(Upd.alloc Non _ _).cell x0 fun h => h, (Upd.alloc Non _ _).cell x1 fun h => h, (Upd.alloc Non _ _).cell x4 fun h => h⟩
      clear hK K
      try simp only [Act.put, List.setIfInBounds_toArray, List.set_cons_zero, List.set_cons_succ]
      (refine wpAnyH_take (i := 2) (oi := ?oi_357) (v := ?v_357) ?ho_357 ?hs_357 ?hf_357 ?hr_357 ?hQ_357 ?hy_357 ?hS_357 ?rest_357; (case hr_357 => kernel_rfl); (case hf_357 => kernel_rfl); (case hs_357 => kernel_rfl); (case ho_357 => (simp only [List.getElem?_toArray, List.getElem?_cons_succ, List.getElem?_cons_zero]; rfl)); (case hS_357 => assumption); (case hQ_357 => exact fun _ _ _ h => h); (case hy_357 => (refine Or.inl ⟨by rfl, ?_⟩; (intro w hSw; (try dsimp only at hSw); go_simp) <;> with_reducible rfl)); (try simp only [Act.put, List.setIfInBounds_toArray, List.set_cons_zero, List.set_cons_succ]))
      refine wpAnyH_ready (rs := [5, 24]) (by kernel_rfl) (by simp) ?_
      refine AllReadyH.cons (o := ?oo358_0) ?ho358_0 ?hs358_0 (AllReadyH.cons (o := ?oo358_1) ?ho358_1 ?hs358_1 AllReadyH.nil)
      case ho358_0 => (simp only [List.getElem?_toArray, List.getElem?_cons_succ, List.getElem?_cons_zero]; rfl)
      case ho358_1 => (simp only [List.getElem?_toArray, List.getElem?_cons_succ, List.getElem?_cons_zero]; rfl)
      case hs358_0 =>
        intro K hK; go_simp; go_at_call 42; refine (refField e 4 _ (by omega) (by omega) (by decide)).mono ?_; rintro en wn ⟨rfl, hu⟩
        have x0 := hu.cell x0 fun h => h; have x1 := hu.cell x1 fun h => h; have x4 := hu.cell x4 fun h => h
        have hU := (by first | exact hU.trans hu fun _ _ h => h | exact (hU.then_drew).trans hu fun _ _ h => h : Upd Non w wn)
        try have hB := hB.non hu
        clear hu
        try go_wp2_with fail
        refine hK.out _ _ ?_ (fun hHeld => ?_)
        · (try dsimp only); first | exact ⟨x0, x1, x4⟩ | exact ⟨(Upd.alloc Non _ _).cell x0 fun h => h, (Upd.alloc Non _ _).cell x1 fun h => h, (Upd.alloc Non _ _).cell x4 fun h => h⟩
        clear hK K
        try simp only [Act.put, List.setIfInBounds_toArray, List.set_cons_zero, List.set_cons_succ]
        (refine wpAnyH_take (i := 6) (oi := ?oi_359) (v := ?v_359) ?ho_359 ?hs_359 ?hf_359 ?hr_359 ?hQ_359 ?hy_359 ?hS_359 ?rest_359; (case hr_359 => kernel_rfl); (case hf_359 => kernel_rfl); (case hs_359 => kernel_rfl); (case ho_359 => (simp only [List.getElem?_toArray, List.getElem?_cons_succ, List.getElem?_cons_zero]; rfl)); (case hS_359 => assumption); (case hQ_359 => exact fun _ _ _ h => h); (case hy_359 => (refine Or.inl ⟨by rfl, ?_⟩; (intro w hSw; (try dsimp only at hSw); go_simp) <;> with_reducible rfl)); (try simp only [Act.put, List.setIfInBounds_toArray, List.set_cons_zero, List.set_cons_succ]))
        refine wpAnyH_ready (rs := [9, 24]) (by kernel_rfl) (by simp) ?_
        refine AllReadyH.cons (o := ?oo360_0) ?ho360_0 ?hs360_0 (AllReadyH.cons (o := ?oo360_1) ?ho360_1 ?hs360_1 AllReadyH.nil)
        case ho360_0 => (simp only [List.getElem?_toArray, List.getElem?_cons_succ, List.getElem?_cons_zero]; rfl)
        case ho360_1 => (simp only [List.getElem?_toArray, List.getElem?_cons_succ, List.getElem?_cons_zero]; rfl)
        case hs360_0 =>
          intro K hK; go_simp; go_at_call 42; refine (refField q 8 _ (by omega) (by omega) (by decide)).mono ?_; rintro en wn ⟨rfl, hu⟩
          have x0 := hu.cell x0 fun h => h; have x1 := hu.cell x1 fun h => h; have x4 := hu.cell x4 fun h => h
          have hU := (by first | exact hU.trans hu fun _ _ h => h | exact (hU.then_drew).trans hu fun _ _ h => h : Upd Non w wn)
          try have hB := hB.non hu
          clear hu
          try go_wp2_with fail
          refine hK.out _ _ ?_ (fun hHeld => ?_)
          · (try dsimp only); first | exact ⟨x0, x1, x4⟩ | exact ⟨(Upd.alloc Non _ _).cell x0 fun h => h, (Upd.alloc Non _ _).cell x1 fun h => h, (Upd.alloc Non _ _).cell x4 fun h => h⟩
          clear hK K
          try simp only [Act.put, List.setIfInBounds_toArray, List.set_cons_zero, List.set_cons_succ]
          (refine wpAnyH_take (i := 10) (oi := ?oi_361) (v := ?v_361) ?ho_361 ?hs_361 ?hf_361 ?hr_361 ?hQ_361 ?hy_361 ?hS_361 ?rest_361; (case hr_361 => kernel_rfl); (case hf_361 => kernel_rfl); (case hs_361 => kernel_rfl); (case ho_361 => (simp only [List.getElem?_toArray, List.getElem?_cons_succ, List.getElem?_cons_zero]; rfl)); (case hS_361 => assumption); (case hQ_361 => exact fun _ _ _ h => h); (case hy_361 => (refine Or.inl ⟨by rfl, ?_⟩; (intro w hSw; (try dsimp only at hSw); go_simp) <;> with_reducible rfl)); (try simp only [Act.put, List.setIfInBounds_toArray, List.set_cons_zero, List.set_cons_succ]))
          refine wpAnyH_ready (rs := [14, 24]) (by kernel_rfl) (by simp) ?_
          refine AllReadyH.cons (o := ?oo362_0) ?ho362_0 ?hs362_0 (AllReadyH.cons (o := ?oo362_1) ?ho362_1 ?hs362_1 AllReadyH.nil)
          case ho362_0 => (simp only [List.getElem?_toArray, List.getElem?_cons_succ, List.getElem?_cons_zero]; rfl)
          case ho362_1 => (simp only [List.getElem?_toArray, List.getElem?_cons_succ, List.getElem?_cons_zero]; rfl)
          case hs362_0 =>
            intro K hK; go_simp; go_at_call 42; refine (refField (d.length : Int) 2 _ (by omega) (by omega) (by decide)).mono ?_; rintro en wn ⟨rfl, hu⟩
            have x0 := hu.cell x0 fun h => h; have x1 := hu.cell x1 fun h => h; have x4 := hu.cell x4 fun h => h
            have hU := (by first | exact hU.trans hu fun _ _ h => h | exact (hU.then_drew).trans hu fun _ _ h => h : Upd Non w wn)
            try have hB := hB.non hu
            clear hu
            try go_wp2_with fail
            refine hK.out _ _ ?_ (fun hHeld => ?_)
            · (try dsimp only); first | exact ⟨x0, x1, x4⟩ | exact ⟨(Upd.alloc Non _ _).cell x0 fun h => h, (Upd.alloc Non _ _).cell x1 fun h => h, (Upd.alloc Non _ _).cell x4 fun h => h⟩
            clear hK K
            try simp only [Act.put, List.setIfInBounds_toArray, List.set_cons_zero, List.set_cons_succ]
            (refine wpAnyH_take (i := 15) (oi := ?oi_363) (v := ?v_363) ?ho_363 ?hs_363 ?hf_363 ?hr_363 ?hQ_363 ?hy_363 ?hS_363 ?rest_363; (case hr_363 => kernel_rfl); (case hf_363 => kernel_rfl); (case hs_363 => kernel_rfl); (case ho_363 => (simp only [List.getElem?_toArray, List.getElem?_cons_succ, List.getElem?_cons_zero]; rfl)); (case hS_363 => assumption); (case hQ_363 => exact fun _ _ _ h => h); (case hy_363 => (refine Or.inl ⟨by rfl, ?_⟩; (intro w hSw; (try dsimp only at hSw); go_simp) <;> with_reducible rfl)); (try simp only [Act.put, List.setIfInBounds_toArray, List.set_cons_zero, List.set_cons_succ]))
            (refine wpAnyH_take (i := 18) (oi := ?oi_364) (v := ?v_364) ?ho_364 ?hs_364 ?hf_364 ?hr_364 ?hQ_364 ?hy_364 ?hS_364 ?rest_364; (case hr_364 => kernel_rfl); (case hf_364 => kernel_rfl); (case hs_364 => kernel_rfl); (case ho_364 => (simp only [List.getElem?_toArray, List.getElem?_cons_succ, List.getElem?_cons_zero]; rfl)); (case hS_364 => assumption); (case hQ_364 => exact fun _ _ _ h => h); (case hy_364 => (refine Or.inl ⟨by rfl, ?_⟩; (intro w hSw; (try dsimp only at hSw); go_simp) <;> with_reducible rfl)); (try simp only [Act.put, List.setIfInBounds_toArray, List.set_cons_zero, List.set_cons_succ]))
            refine wpAnyH_ready (rs := [24]) (by kernel_rfl) (by simp) ?_
            refine AllReadyH.cons (o := ?oo365_0) ?ho365_0 ?hs365_0 AllReadyH.nil
            case ho365_0 => (simp only [List.getElem?_toArray, List.getElem?_cons_succ, List.getElem?_cons_zero]; rfl)
            case hs365_0 =>
              intro K hK; have hst := run_str (P := Try.prog) _ 42 9 5 Try.underlying42 Try.underlying5 Try.underlying9 _ _ hB; go_simp; clear hst
              try go_wp2_with fail
              refine hK.out _ _ ?_ (fun hHeld => ?_)
              · (try dsimp only); first | exact ⟨x0, x1, x4⟩ | exact ⟨(Upd.alloc Non _ _).cell x0 fun h => h, (Upd.alloc Non _ _).cell x1 fun h => h, (Upd.alloc Non _ _).cell x4 fun h => h⟩
              clear hK K
              try simp only [Act.put, List.setIfInBounds_toArray, List.set_cons_zero, List.set_cons_succ]
              (refine wpAnyH_take (i := 25) (oi := ?oi_366) (v := ?v_366) ?ho_366 ?hs_366 ?hf_366 ?hr_366 ?hQ_366 ?hy_366 ?hS_366 ?rest_366; (case hr_366 => kernel_rfl); (case hf_366 => kernel_rfl); (case hs_366 => kernel_rfl); (case ho_366 => (simp only [List.getElem?_toArray, List.getElem?_cons_succ, List.getElem?_cons_zero]; rfl)); (case hS_366 => assumption); (case hQ_366 => exact fun _ _ _ h => h); (case hy_366 => (refine Or.inl ⟨by rfl, ?_⟩; (intro w hSw; (try dsimp only at hSw); go_simp) <;> with_reducible rfl)); (try simp only [Act.put, List.setIfInBounds_toArray, List.set_cons_zero, List.set_cons_succ]))
              (refine wpAnyH_take (i := 26) (oi := ?oi_367) (v := ?v_367) ?ho_367 ?hs_367 ?hf_367 ?hr_367 ?hQ_367 ?hy_367 ?hS_367 ?rest_367; (case hr_367 => kernel_rfl); (case hf_367 => kernel_rfl); (case hs_367 => kernel_rfl); (case ho_367 => (simp only [List.getElem?_toArray, List.getElem?_cons_succ, List.getElem?_cons_zero]; rfl)); (case hS_367 => assumption); (case hQ_367 => exact fun _ _ _ h => h); (case hy_367 => (refine Or.inl ⟨by rfl, ?_⟩; (intro w hSw; (try dsimp only at hSw); go_simp) <;> with_reducible rfl)); (try simp only [Act.put, List.setIfInBounds_toArray, List.set_cons_zero, List.set_cons_succ]))
              refine wpAnyH_done (by kernel_rfl) ?_ _
              try rw [hstr]
              go_wp2_with fail
              refine (refSum BB _ (by have := hBBl.out; omega)).mono ?_
              rintro en wa ⟨rfl, hua⟩
              rw [hsm.out]
              go_wp2_with fail
              refine (refField (sm : Int) 4 _ (by omega) (by omega) (by decide)).mono ?_
              rintro en wb ⟨rfl, hub⟩
              have hUb := (hU.trans hua fun _ _ h => h).trans hub fun _ _ h => h
              go_wp2_with fail
              go_ret
              refine ⟨?_, hUb⟩
              rw [app_str, hslot.out]
              simp
          case hs362_1 =>
            intro K hK; have hst := run_str (P := Try.prog) _ 42 9 5 Try.underlying42 Try.underlying5 Try.underlying9 _ _ hB; go_simp; clear hst
            try go_wp2_with fail
            refine hK.out _ _ ?_ (fun hHeld => ?_)
            · (try dsimp only); first | exact ⟨x0, x1, x4⟩ | exact ⟨(Upd.alloc Non _ _).cell x0 fun h => h, (Upd.alloc Non _ _).cell x1 fun h => h, (Upd.alloc Non _ _).cell x4 fun h => h⟩
            clear hK K
            try simp only [Act.put, List.setIfInBounds_toArray, List.set_cons_zero, List.set_cons_succ]
            refine wpAnyH_ready (rs := [14]) (by kernel_rfl) (by simp) ?_
            refine AllReadyH.cons (o := ?oo368_0) ?ho368_0 ?hs368_0 AllReadyH.nil
            case ho368_0 => (simp only [List.getElem?_toArray, List.getElem?_cons_succ, List.getElem?_cons_zero]; rfl)
            case hs368_0 =>
              intro K hK; go_simp; go_at_call 42; refine (refField (d.length : Int) 2 _ (by omega) (by omega) (by decide)).mono ?_; rintro en wn ⟨rfl, hu⟩
              have x0 := hu.cell x0 fun h => h; have x1 := hu.cell x1 fun h => h; have x4 := hu.cell x4 fun h => h
              have hU := (by first | exact hU.trans hu fun _ _ h => h | exact (hU.then_drew).trans hu fun _ _ h => h : Upd Non w wn)
              try have hB := hB.non hu
              clear hu
              try go_wp2_with fail
              refine hK.out _ _ ?_ (fun hHeld => ?_)
              · (try dsimp only); first | exact ⟨x0, x1, x4⟩ | exact ⟨(Upd.alloc Non _ _).cell x0 fun h => h, (Upd.alloc Non _ _).cell x1 fun h => h, (Upd.alloc Non _ _).cell x4 fun h => h⟩
              clear hK K
              try simp only [Act.put, List.setIfInBounds_toArray, List.set_cons_zero, List.set_cons_succ]
              (refine wpAnyH_take (i := 15) (oi := ?oi_369) (v := ?v_369) ?ho_369 ?hs_369 ?hf_369 ?hr_369 ?hQ_369 ?hy_369 ?hS_369 ?rest_369; (case hr_369 => kernel_rfl); (case hf_369 => kernel_rfl); (case hs_369 => kernel_rfl); (case ho_369 => (simp only [List.getElem?_toArray, List.getElem?_cons_succ, List.getElem?_cons_zero]; rfl)); (case hS_369 => assumption); (case hQ_369 => exact fun _ _ _ h => h); (case hy_369 => (refine Or.inl ⟨by rfl, ?_⟩; (intro w hSw; (try dsimp only at hSw); go_simp) <;> with_reducible rfl)); (try simp only [Act.put, List.setIfInBounds_toArray, List.set_cons_zero, List.set_cons_succ]))
              (refine wpAnyH_take (i := 18) (oi := ?oi_370) (v := ?v_370) ?ho_370 ?hs_370 ?hf_370 ?hr_370 ?hQ_370 ?hy_370 ?hS_370 ?rest_370; (case hr_370 => kernel_rfl); (case hf_370 => kernel_rfl); (case hs_370 => kernel_rfl); (case ho_370 => (simp only [List.getElem?_toArray, List.getElem?_cons_succ, List.getElem?_cons_zero]; rfl)); (case hS_370 => assumption); (case hQ_370 => exact fun _ _ _ h => h); (case hy_370 => (refine Or.inl ⟨by rfl, ?_⟩; (intro w hSw; (try dsimp only at hSw); go_simp) <;> with_reducible rfl)); (try simp only [Act.put, List.setIfInBounds_toArray, List.set_cons_zero, List.set_cons_succ]))
              (refine wpAnyH_take (i := 25) (oi := ?oi_371) (v := ?v_371) ?ho_371 ?hs_371 ?hf_371 ?hr_371 ?hQ_371 ?hy_371 ?hS_371 ?rest_371; (case hr_371 => kernel_rfl); (case hf_371 => kernel_rfl); (case hs_371 => kernel_rfl); (case ho_371 => (simp only [List.getElem?_toArray, List.getElem?_cons_succ, List.getElem?_cons_zero]; rfl)); (case hS_371 => assumption); (case hQ_371 => exact fun _ _ _ h => h); (case hy_371 => (refine Or.inl ⟨by rfl, ?_⟩; (intro w hSw; (try dsimp only at hSw); go_simp) <;> with_reducible rfl)); (try simp only [Act.put, List.setIfInBounds_toArray, List.set_cons_zero, List.set_cons_succ]))
              (refine wpAnyH_take (i := 26) (oi := ?oi_372) (v := ?v_372) ?ho_372 ?hs_372 ?hf_372 ?hr_372 ?hQ_372 ?hy_372 ?hS_372 ?rest_372; (case hr_372 => kernel_rfl); (case hf_372 => kernel_rfl); (case hs_372 => kernel_rfl); (case ho_372 => (simp only [List.getElem?_toArray, List.getElem?_cons_succ, List.getElem?_cons_zero]; rfl)); (case hS_372 => assumption); (case hQ_372 => exact fun _ _ _ h => h); (case hy_372 => (refine Or.inl ⟨by rfl, ?_⟩; (intro w hSw; (try dsimp only at hSw); go_simp) <;> with_reducible rfl)); (try simp only [Act.put, List.setIfInBounds_toArray, List.set_cons_zero, List.set_cons_succ]))
              refine wpAnyH_done (by kernel_rfl) ?_ _
              try rw [hstr]
              go_wp2_with fail
              refine (refSum BB _ (by have := hBBl.out; omega)).mono ?_
              rintro en wa ⟨rfl, hua⟩
              rw [hsm.out]
              go_wp2_with fail
              refine (refField (sm : Int) 4 _ (by omega) (by omega) (by decide)).mono ?_
              rintro en wb ⟨rfl, hub⟩
              have hUb := (hU.trans hua fun _ _ h => h).trans hub fun _ _ h => h
              go_wp2_with fail
              go_ret
              refine ⟨?_, hUb⟩
              rw [app_str, hslot.out]
              simp
        case hs360_1 =>
          intro K hK; have hst := run_str (P := Try.prog) _ 42 9 5 Try.underlying42 Try.underlying5 Try.underlying9 _ _ hB; go_simp; clear hst
          try go_wp2_with fail
          refine hK.out _ _ ?_ (fun hHeld => ?_)
          · (try dsimp only); first | exact ⟨x0, x1, x4⟩ | exact ⟨(Upd.alloc Non _ _).cell x0 fun h => h, (Upd.alloc Non _ _).cell x1 fun h => h, (Upd.alloc Non _ _).cell x4 fun h => h⟩
          clear hK K
          try simp only [Act.put, List.setIfInBounds_toArray, List.set_cons_zero, List.set_cons_succ]
          refine wpAnyH_ready (rs := [9]) (by kernel_rfl) (by simp) ?_
          refine AllReadyH.cons (o := ?oo373_0) ?ho373_0 ?hs373_0 AllReadyH.nil
          case ho373_0 => (simp only [List.getElem?_toArray, List.getElem?_cons_succ, List.getElem?_cons_zero]; rfl)
          case hs373_0 =>
            intro K hK; go_simp; go_at_call 42; refine (refField q 8 _ (by omega) (by omega) (by decide)).mono ?_; rintro en wn ⟨rfl, hu⟩
            have x0 := hu.cell x0 fun h => h; have x1 := hu.cell x1 fun h => h; have x4 := hu.cell x4 fun h => h
            have hU := (by first | exact hU.trans hu fun _ _ h => h | exact (hU.then_drew).trans hu fun _ _ h => h : Upd Non w wn)
            try have hB := hB.non hu
            clear hu
            try go_wp2_with fail
            refine hK.out _ _ ?_ (fun hHeld => ?_)
            · (try dsimp only); first | exact ⟨x0, x1, x4⟩ | exact ⟨(Upd.alloc Non _ _).cell x0 fun h => h, (Upd.alloc Non _ _).cell x1 fun h => h, (Upd.alloc Non _ _).cell x4 fun h => h⟩
            clear hK K
            try simp only [Act.put, List.setIfInBounds_toArray, List.set_cons_zero, List.set_cons_succ]
            (refine wpAnyH_take (i := 10) (oi := ?oi_374) (v := ?v_374) ?ho_374 ?hs_374 ?hf_374 ?hr_374 ?hQ_374 ?hy_374 ?hS_374 ?rest_374; (case hr_374 => kernel_rfl); (case hf_374 => kernel_rfl); (case hs_374 => kernel_rfl); (case ho_374 => (simp only [List.getElem?_toArray, List.getElem?_cons_succ, List.getElem?_cons_zero]; rfl)); (case hS_374 => assumption); (case hQ_374 => exact fun _ _ _ h => h); (case hy_374 => (refine Or.inl ⟨by rfl, ?_⟩; (intro w hSw; (try dsimp only at hSw); go_simp) <;> with_reducible rfl)); (try simp only [Act.put, List.setIfInBounds_toArray, List.set_cons_zero, List.set_cons_succ]))
            refine wpAnyH_ready (rs := [14]) (by kernel_rfl) (by simp) ?_
            refine AllReadyH.cons (o := ?oo375_0) ?ho375_0 ?hs375_0 AllReadyH.nil
            case ho375_0 => (simp only [List.getElem?_toArray, List.getElem?_cons_succ, List.getElem?_cons_zero]; rfl)
            case hs375_0 =>
              intro K hK; go_simp; go_at_call 42; refine (refField (d.length : Int) 2 _ (by omega) (by omega) (by decide)).mono ?_; rintro en wn ⟨rfl, hu⟩
              have x0 := hu.cell x0 fun h => h; have x1 := hu.cell x1 fun h => h; have x4 := hu.cell x4 fun h => h
              have hU := (by first | exact hU.trans hu fun _ _ h => h | exact (hU.then_drew).trans hu fun _ _ h => h : Upd Non w wn)
              try have hB := hB.non hu
              clear hu
              try go_wp2_with fail
              refine hK.out _ _ ?_ (fun hHeld => ?_)
              · (try dsimp only); first | exact ⟨x0, x1, x4⟩ | exact ⟨(Upd.alloc Non _ _).cell x0 fun h => h, (Upd.alloc Non _ _).cell x1 fun h => h, (Upd.alloc Non _ _).cell x4 fun h => h⟩
              clear hK K
              try simp only [Act.put, List.setIfInBounds_toArray, List.set_cons_zero, List.set_cons_succ]
              (refine wpAnyH_take (i := 15) (oi := ?oi_376) (v := ?v_376) ?ho_376 ?hs_376 ?hf_376 ?hr_376 ?hQ_376 ?hy_376 ?hS_376 ?rest_376; (case hr_376 => kernel_rfl); (case hf_376 => kernel_rfl); (case hs_376 => kernel_rfl); (case ho_376 => (simp only [List.getElem?_toArray, List.getElem?_cons_succ, List.getElem?_cons_zero]; rfl)); (case hS_376 => assumption); (case hQ_376 => exact fun _ _ _ h => h); (case hy_376 => (refine Or.inl ⟨by rfl, ?_⟩; (intro w hSw; (try dsimp only at hSw); go_simp) <;> with_reducible rfl)); (try simp only [Act.put, List.setIfInBounds_toArray, List.set_cons_zero, List.set_cons_succ]))
              (refine wpAnyH_take (i := 18) (oi := ?oi_377) (v := ?v_377) ?ho_377 ?hs_377 ?hf_377 ?hr_377 ?hQ_377 ?hy_377 ?hS_377 ?rest_377; (case hr_377 => kernel_rfl); (case hf_377 => kernel_rfl); (case hs_377 => kernel_rfl); (case ho_377 => (simp only [List.getElem?_toArray, List.getElem?_cons_succ, List.getElem?_cons_zero]; rfl)); (case hS_377 => assumption); (case hQ_377 => exact fun _ _ _ h => h); (case hy_377 => (refine Or.inl ⟨by rfl, ?_⟩; (intro w hSw; (try dsimp only at hSw); go_simp) <;> with_reducible rfl)); (try simp only [Act.put, List.setIfInBounds_toArray, List.set_cons_zero, List.set_cons_succ]))
              (refine wpAnyH_take (i := 25) (oi := ?oi_378) (v := ?v_378) ?ho_378 ?hs_378 ?hf_378 ?hr_378 ?hQ_378 ?hy_378 ?hS_378 ?rest_378; (case hr_378 => kernel_rfl); (case hf_378 => kernel_rfl); (case hs_378 => kernel_rfl); (case ho_378 => (simp only [List.getElem?_toArray, List.getElem?_cons_succ, List.getElem?_cons_zero]; rfl)); (case hS_378 => assumption); (case hQ_378 => exact fun _ _ _ h => h); (case hy_378 => (refine Or.inl ⟨by rfl, ?_⟩; (intro w hSw; (try dsimp only at hSw); go_simp) <;> with_reducible rfl)); (try simp only [Act.put, List.setIfInBounds_toArray, List.set_cons_zero, List.set_cons_succ]))
              (refine wpAnyH_take (i := 26) (oi := ?oi_379) (v := ?v_379) ?ho_379 ?hs_379 ?hf_379 ?hr_379 ?hQ_379 ?hy_379 ?hS_379 ?rest_379; (case hr_379 => kernel_rfl); (case hf_379 => kernel_rfl); (case hs_379 => kernel_rfl); (case ho_379 => (simp only [List.getElem?_toArray, List.getElem?_cons_succ, List.getElem?_cons_zero]; rfl)); (case hS_379 => assumption); (case hQ_379 => exact fun _ _ _ h => h); (case hy_379 => (refine Or.inl ⟨by rfl, ?_⟩; (intro w hSw; (try dsimp only at hSw); go_simp) <;> with_reducible rfl)); (try simp only [Act.put, List.setIfInBounds_toArray, List.set_cons_zero, List.set_cons_succ]))
              refine wpAnyH_done (by kernel_rfl) ?_ _
              try rw [hstr]
              go_wp2_with fail
              refine (refSum BB _ (by have := hBBl.out; omega)).mono ?_
              rintro en wa ⟨rfl, hua⟩
              rw [hsm.out]
              go_wp2_with fail
              refine (refField (sm : Int) 4 _ (by omega) (by omega) (by decide)).mono ?_
              rintro en wb ⟨rfl, hub⟩
              have hUb := (hU.trans hua fun _ _ h => h).trans hub fun _ _ h => h
              go_wp2_with fail
              go_ret
              refine ⟨?_, hUb⟩
              rw [app_str, hslot.out]
              simp
      case hs358_1 =>
        intro K hK; have hst := run_str (P := Try.prog) _ 42 9 5 Try.underlying42 Try.underlying5 Try.underlying9 _ _ hB; go_simp; clear hst
        try go_wp2_with fail
        refine hK.out _ _ ?_ (fun hHeld => ?_)
        · (try dsimp only); first | exact ⟨x0, x1, x4⟩ | exact ⟨(Upd.alloc Non _ _).cell x0 fun h => h, (Upd.alloc Non _ _).cell x1 fun h => h, (Upd.alloc Non _ _).cell x4 fun h => h⟩
        clear hK K
        try simp only [Act.put, List.setIfInBounds_toArray, List.set_cons_zero, List.set_cons_succ]
        refine wpAnyH_ready (rs := [5]) (by kernel_rfl) (by simp) ?_
        refine AllReadyH.cons (o := ?oo380_0) ?ho380_0 ?hs380_0 AllReadyH.nil
        case ho380_0 => (simp only [List.getElem?_toArray, List.getElem?_cons_succ, List.getElem?_cons_zero]; rfl)
        case hs380_0 =>
          intro K hK; go_simp; go_at_call 42; refine (refField e 4 _ (by omega) (by omega) (by decide)).mono ?_; rintro en wn ⟨rfl, hu⟩
          have x0 := hu.cell x0 fun h => h; have x1 := hu.cell x1 fun h => h; have x4 := hu.cell x4 fun h => h
          have hU := (by first | exact hU.trans hu fun _ _ h => h | exact (hU.then_drew).trans hu fun _ _ h => h : Upd Non w wn)
          try have hB := hB.non hu
          clear hu
          try go_wp2_with fail
          refine hK.out _ _ ?_ (fun hHeld => ?_)
          · (try dsimp only); first | exact ⟨x0, x1, x4⟩ | exact ⟨(Upd.alloc Non _ _).cell x0 fun h => h, (Upd.alloc Non _ _).cell x1 fun h => h, (Upd.alloc Non _ _).cell x4 fun h => h⟩
          clear hK K
          try simp only [Act.put, List.setIfInBounds_toArray, List.set_cons_zero, List.set_cons_succ]
          (refine wpAnyH_take (i := 6) (oi := ?oi_381) (v := ?v_381) ?ho_381 ?hs_381 ?hf_381 ?hr_381 ?hQ_381 ?hy_381 ?hS_381 ?rest_381; (case hr_381 => kernel_rfl); (case hf_381 => kernel_rfl); (case hs_381 => kernel_rfl); (case ho_381 => (simp only [List.getElem?_toArray, List.getElem?_cons_succ, List.getElem?_cons_zero]; rfl)); (case hS_381 => assumption); (case hQ_381 => exact fun _ _ _ h => h); (case hy_381 => (refine Or.inl ⟨by rfl, ?_⟩; (intro w hSw; (try dsimp only at hSw); go_simp) <;> with_reducible rfl)); (try simp only [Act.put, List.setIfInBounds_toArray, List.set_cons_zero, List.set_cons_succ]))
          refine wpAnyH_ready (rs := [9]) (by kernel_rfl) (by simp) ?_
          refine AllReadyH.cons (o := ?oo382_0) ?ho382_0 ?hs382_0 AllReadyH.nil
          case ho382_0 => (simp only [List.getElem?_toArray, List.getElem?_cons_succ, List.getElem?_cons_zero]; rfl)
          case hs382_0 =>
            intro K hK; go_simp; go_at_call 42; refine (refField q 8 _ (by omega) (by omega) (by decide)).mono ?_; rintro en wn ⟨rfl, hu⟩
            have x0 := hu.cell x0 fun h => h; have x1 := hu.cell x1 fun h => h; have x4 := hu.cell x4 fun h => h
            have hU := (by first | exact hU.trans hu fun _ _ h => h | exact (hU.then_drew).trans hu fun _ _ h => h : Upd Non w wn)
            try have hB := hB.non hu
            clear hu
            try go_wp2_with fail
            refine hK.out _ _ ?_ (fun hHeld => ?_)
            · (try dsimp only); first | exact ⟨x0, x1, x4⟩ | exact ⟨(Upd.alloc Non _ _).cell x0 fun h => h, (Upd.alloc Non _ _).cell x1 fun h => h, (Upd.alloc Non _ _).cell x4 fun h => h⟩
            clear hK K
            try simp only [Act.put, List.setIfInBounds_toArray, List.set_cons_zero, List.set_cons_succ]
            (refine wpAnyH_take (i := 10) (oi := ?oi_383) (v := ?v_383) ?ho_383 ?hs_383 ?hf_383 ?hr_383 ?hQ_383 ?hy_383 ?hS_383 ?rest_383; (case hr_383 => kernel_rfl); (case hf_383 => kernel_rfl); (case hs_383 => kernel_rfl); (case ho_383 => (simp only [List.getElem?_toArray, List.getElem?_cons_succ, List.getElem?_cons_zero]; rfl)); (case hS_383 => assumption); (case hQ_383 => exact fun _ _ _ h => h); (case hy_383 => (refine Or.inl ⟨by rfl, ?_⟩; (intro w hSw; (try dsimp only at hSw); go_simp) <;> with_reducible rfl)); (try simp only [Act.put, List.setIfInBounds_toArray, List.set_cons_zero, List.set_cons_succ]))
            refine wpAnyH_ready (rs := [14]) (by kernel_rfl) (by simp) ?_
            refine AllReadyH.cons (o := ?oo384_0) ?ho384_0 ?hs384_0 AllReadyH.nil
            case ho384_0 => (simp only [List.getElem?_toArray, List.getElem?_cons_succ, List.getElem?_cons_zero]; rfl)
            case hs384_0 =>
              intro K hK; go_simp; go_at_call 42; refine (refField (d.length : Int) 2 _ (by omega) (by omega) (by decide)).mono ?_; rintro en wn ⟨rfl, hu⟩
              have x0 := hu.cell x0 fun h => h; have x1 := hu.cell x1 fun h => h; have x4 := hu.cell x4 fun h => h
              have hU := (by first | exact hU.trans hu fun _ _ h => h | exact (hU.then_drew).trans hu fun _ _ h => h : Upd Non w wn)
              try have hB := hB.non hu
              clear hu
              try go_wp2_with fail
              refine hK.out _ _ ?_ (fun hHeld => ?_)
              · (try dsimp only); first | exact ⟨x0, x1, x4⟩ | exact ⟨(Upd.alloc Non _ _).cell x0 fun h => h, (Upd.alloc Non _ _).cell x1 fun h => h, (Upd.alloc Non _ _).cell x4 fun h => h⟩
              clear hK K
              try simp only [Act.put, List.setIfInBounds_toArray, List.set_cons_zero, List.set_cons_succ]
              (refine wpAnyH_take (i := 15) (oi := ?oi_385) (v := ?v_385) ?ho_385 ?hs_385 ?hf_385 ?hr_385 ?hQ_385 ?hy_385 ?hS_385 ?rest_385; (case hr_385 => kernel_rfl); (case hf_385 => kernel_rfl); (case hs_385 => kernel_rfl); (case ho_385 => (simp only [List.getElem?_toArray, List.getElem?_cons_succ, List.getElem?_cons_zero]; rfl)); (case hS_385 => assumption); (case hQ_385 => exact fun _ _ _ h => h); (case hy_385 => (refine Or.inl ⟨by rfl, ?_⟩; (intro w hSw; (try dsimp only at hSw); go_simp) <;> with_reducible rfl)); (try simp only [Act.put, List.setIfInBounds_toArray, List.set_cons_zero, List.set_cons_succ]))
              (refine wpAnyH_take (i := 18) (oi := ?oi_386) (v := ?v_386) ?ho_386 ?hs_386 ?hf_386 ?hr_386 ?hQ_386 ?hy_386 ?hS_386 ?rest_386; (case hr_386 => kernel_rfl); (case hf_386 => kernel_rfl); (case hs_386 => kernel_rfl); (case ho_386 => (simp only [List.getElem?_toArray, List.getElem?_cons_succ, List.getElem?_cons_zero]; rfl)); (case hS_386 => assumption); (case hQ_386 => exact fun _ _ _ h => h); (case hy_386 => (refine Or.inl ⟨by rfl, ?_⟩; (intro w hSw; (try dsimp only at hSw); go_simp) <;> with_reducible rfl)); (try simp only [Act.put, List.setIfInBounds_toArray, List.set_cons_zero, List.set_cons_succ]))
              (refine wpAnyH_take (i := 25) (oi := ?oi_387) (v := ?v_387) ?ho_387 ?hs_387 ?hf_387 ?hr_387 ?hQ_387 ?hy_387 ?hS_387 ?rest_387; (case hr_387 => kernel_rfl); (case hf_387 => kernel_rfl); (case hs_387 => kernel_rfl); (case ho_387 => (simp only [List.getElem?_toArray, List.getElem?_cons_succ, List.getElem?_cons_zero]; rfl)); (case hS_387 => assumption); (case hQ_387 => exact fun _ _ _ h => h); (case hy_387 => (refine Or.inl ⟨by rfl, ?_⟩; (intro w hSw; (try dsimp only at hSw); go_simp) <;> with_reducible rfl)); (try simp only [Act.put, List.setIfInBounds_toArray, List.set_cons_zero, List.set_cons_succ]))
              (refine wpAnyH_take (i := 26) (oi := ?oi_388) (v := ?v_388) ?ho_388 ?hs_388 ?hf_388 ?hr_388 ?hQ_388 ?hy_388 ?hS_388 ?rest_388; (case hr_388 => kernel_rfl); (case hf_388 => kernel_rfl); (case hs_388 => kernel_rfl); (case ho_388 => (simp only [List.getElem?_toArray, List.getElem?_cons_succ, List.getElem?_cons_zero]; rfl)); (case hS_388 => assumption); (case hQ_388 => exact fun _ _ _ h => h); (case hy_388 => (refine Or.inl ⟨by rfl, ?_⟩; (intro w hSw; (try dsimp only at hSw); go_simp) <;> with_reducible rfl)); (try simp only [Act.put, List.setIfInBounds_toArray, List.set_cons_zero, List.set_cons_succ]))
              refine wpAnyH_done (by kernel_rfl) ?_ _
              try rw [hstr]
              go_wp2_with fail
              refine (refSum BB _ (by have := hBBl.out; omega)).mono ?_
              rintro en wa ⟨rfl, hua⟩
              rw [hsm.out]
              go_wp2_with fail
              refine (refField (sm : Int) 4 _ (by omega) (by omega) (by decide)).mono ?_
              rintro en wb ⟨rfl, hub⟩
              have hUb := (hU.trans hua fun _ _ h => h).trans hub fun _ _ h => h
              go_wp2_with fail
              go_ret
              refine ⟨?_, hUb⟩
              rw [app_str, hslot.out]
              simp
    case hs356_1 =>
      intro K hK; have hst := run_str (P := Try.prog) _ 42 9 5 Try.underlying42 Try.underlying5 Try.underlying9 _ _ (show Bytes (((w.alloc (.cells #[.int .i64 e, .int .i64 q, .bool false, .bool true, .string ⟨d.toArray⟩] 41)).alloc (.cells (Array.replicate (108 - d.length) (.int .u8 0)) 5)).drew) (.slice (some ⟨w.heap.size + 1, 0, none⟩) (108 - d.length) (108 - d.length)) (List.replicate (108 - d.length) 0) from hB); go_simp; clear hst
      try go_wp2_with fail
      refine hK.out _ _ ?_ (fun hHeld => ?_)
      · (try dsimp only); first | exact ⟨x0, x1, x4⟩ | exact ⟨(Upd.alloc Non _ _).cell x0 fun h => h, (Upd.alloc Non _ _).cell x1 fun h => h, (Upd.alloc Non _ _).cell x4 fun h => h⟩
      clear hK K
      try simp only [Act.put, List.setIfInBounds_toArray, List.set_cons_zero, List.set_cons_succ]
      refine wpAnyH_ready (rs := [1]) (by kernel_rfl) (by simp) ?_
      refine AllReadyH.cons (o := ?oo389_0) ?ho389_0 ?hs389_0 AllReadyH.nil
      case ho389_0 => (simp only [List.getElem?_toArray, List.getElem?_cons_succ, List.getElem?_cons_zero]; rfl)
      case hs389_0 =>
        intro K hK; go_simp; go_at_call 42; refine (refField 2 1 _ (by omega) (by omega) (by decide)).mono ?_; rintro en wn ⟨rfl, hu⟩
        have x0 := hu.cell x0 fun h => h; have x1 := hu.cell x1 fun h => h; have x4 := hu.cell x4 fun h => h
        have hU := (by first | exact hU.trans hu fun _ _ h => h | exact (hU.then_drew).trans hu fun _ _ h => h : Upd Non w wn)
        try have hB := hB.non hu
        clear hu
        try go_wp2_with fail
        refine hK.out _ _ ?_ (fun hHeld => ?_)
        · (try dsimp only); first | exact ⟨x0, x1, x4⟩ | exact ⟨(Upd.alloc Non _ _).cell x0 fun h => h, (Upd.alloc Non _ _).cell x1 fun h => h, (Upd.alloc Non _ _).cell x4 fun h => h⟩
        clear hK K
        try simp only [Act.put, List.setIfInBounds_toArray, List.set_cons_zero, List.set_cons_succ]
        (refine wpAnyH_take (i := 2) (oi := ?oi_390) (v := ?v_390) ?ho_390 ?hs_390 ?hf_390 ?hr_390 ?hQ_390 ?hy_390 ?hS_390 ?rest_390; (case hr_390 => kernel_rfl); (case hf_390 => kernel_rfl); (case hs_390 => kernel_rfl); (case ho_390 => (simp only [List.getElem?_toArray, List.getElem?_cons_succ, List.getElem?_cons_zero]; rfl)); (case hS_390 => assumption); (case hQ_390 => exact fun _ _ _ h => h); (case hy_390 => (refine Or.inl ⟨by rfl, ?_⟩; (intro w hSw; (try dsimp only at hSw); go_simp) <;> with_reducible rfl)); (try simp only [Act.put, List.setIfInBounds_toArray, List.set_cons_zero, List.set_cons_succ]))
        refine wpAnyH_ready (rs := [5]) (by kernel_rfl) (by simp) ?_
        refine AllReadyH.cons (o := ?oo391_0) ?ho391_0 ?hs391_0 AllReadyH.nil
        case ho391_0 => (simp only [List.getElem?_toArray, List.getElem?_cons_succ, List.getElem?_cons_zero]; rfl)
        case hs391_0 =>
          intro K hK; go_simp; go_at_call 42; refine (refField e 4 _ (by omega) (by omega) (by decide)).mono ?_; rintro en wn ⟨rfl, hu⟩
          have x0 := hu.cell x0 fun h => h; have x1 := hu.cell x1 fun h => h; have x4 := hu.cell x4 fun h => h
          have hU := (by first | exact hU.trans hu fun _ _ h => h | exact (hU.then_drew).trans hu fun _ _ h => h : Upd Non w wn)
          try have hB := hB.non hu
          clear hu
          try go_wp2_with fail
          refine hK.out _ _ ?_ (fun hHeld => ?_)
          · (try dsimp only); first | exact ⟨x0, x1, x4⟩ | exact ⟨(Upd.alloc Non _ _).cell x0 fun h => h, (Upd.alloc Non _ _).cell x1 fun h => h, (Upd.alloc Non _ _).cell x4 fun h => h⟩
          clear hK K
          try simp only [Act.put, List.setIfInBounds_toArray, List.set_cons_zero, List.set_cons_succ]
          (refine wpAnyH_take (i := 6) (oi := ?oi_392) (v := ?v_392) ?ho_392 ?hs_392 ?hf_392 ?hr_392 ?hQ_392 ?hy_392 ?hS_392 ?rest_392; (case hr_392 => kernel_rfl); (case hf_392 => kernel_rfl); (case hs_392 => kernel_rfl); (case ho_392 => (simp only [List.getElem?_toArray, List.getElem?_cons_succ, List.getElem?_cons_zero]; rfl)); (case hS_392 => assumption); (case hQ_392 => exact fun _ _ _ h => h); (case hy_392 => (refine Or.inl ⟨by rfl, ?_⟩; (intro w hSw; (try dsimp only at hSw); go_simp) <;> with_reducible rfl)); (try simp only [Act.put, List.setIfInBounds_toArray, List.set_cons_zero, List.set_cons_succ]))
          refine wpAnyH_ready (rs := [9]) (by kernel_rfl) (by simp) ?_
          refine AllReadyH.cons (o := ?oo393_0) ?ho393_0 ?hs393_0 AllReadyH.nil
          case ho393_0 => (simp only [List.getElem?_toArray, List.getElem?_cons_succ, List.getElem?_cons_zero]; rfl)
          case hs393_0 =>
            intro K hK; go_simp; go_at_call 42; refine (refField q 8 _ (by omega) (by omega) (by decide)).mono ?_; rintro en wn ⟨rfl, hu⟩
            have x0 := hu.cell x0 fun h => h; have x1 := hu.cell x1 fun h => h; have x4 := hu.cell x4 fun h => h
            have hU := (by first | exact hU.trans hu fun _ _ h => h | exact (hU.then_drew).trans hu fun _ _ h => h : Upd Non w wn)
            try have hB := hB.non hu
            clear hu
            try go_wp2_with fail
            refine hK.out _ _ ?_ (fun hHeld => ?_)
            · (try dsimp only); first | exact ⟨x0, x1, x4⟩ | exact ⟨(Upd.alloc Non _ _).cell x0 fun h => h, (Upd.alloc Non _ _).cell x1 fun h => h, (Upd.alloc Non _ _).cell x4 fun h => h⟩
            clear hK K
            try simp only [Act.put, List.setIfInBounds_toArray, List.set_cons_zero, List.set_cons_succ]
            (refine wpAnyH_take (i := 10) (oi := ?oi_394) (v := ?v_394) ?ho_394 ?hs_394 ?hf_394 ?hr_394 ?hQ_394 ?hy_394 ?hS_394 ?rest_394; (case hr_394 => kernel_rfl); (case hf_394 => kernel_rfl); (case hs_394 => kernel_rfl); (case ho_394 => (simp only [List.getElem?_toArray, List.getElem?_cons_succ, List.getElem?_cons_zero]; rfl)); (case hS_394 => assumption); (case hQ_394 => exact fun _ _ _ h => h); (case hy_394 => (refine Or.inl ⟨by rfl, ?_⟩; (intro w hSw; (try dsimp only at hSw); go_simp) <;> with_reducible rfl)); (try simp only [Act.put, List.setIfInBounds_toArray, List.set_cons_zero, List.set_cons_succ]))
            refine wpAnyH_ready (rs := [14]) (by kernel_rfl) (by simp) ?_
            refine AllReadyH.cons (o := ?oo395_0) ?ho395_0 ?hs395_0 AllReadyH.nil
            case ho395_0 => (simp only [List.getElem?_toArray, List.getElem?_cons_succ, List.getElem?_cons_zero]; rfl)
            case hs395_0 =>
              intro K hK; go_simp; go_at_call 42; refine (refField (d.length : Int) 2 _ (by omega) (by omega) (by decide)).mono ?_; rintro en wn ⟨rfl, hu⟩
              have x0 := hu.cell x0 fun h => h; have x1 := hu.cell x1 fun h => h; have x4 := hu.cell x4 fun h => h
              have hU := (by first | exact hU.trans hu fun _ _ h => h | exact (hU.then_drew).trans hu fun _ _ h => h : Upd Non w wn)
              try have hB := hB.non hu
              clear hu
              try go_wp2_with fail
              refine hK.out _ _ ?_ (fun hHeld => ?_)
              · (try dsimp only); first | exact ⟨x0, x1, x4⟩ | exact ⟨(Upd.alloc Non _ _).cell x0 fun h => h, (Upd.alloc Non _ _).cell x1 fun h => h, (Upd.alloc Non _ _).cell x4 fun h => h⟩
              clear hK K
              try simp only [Act.put, List.setIfInBounds_toArray, List.set_cons_zero, List.set_cons_succ]
              (refine wpAnyH_take (i := 15) (oi := ?oi_396) (v := ?v_396) ?ho_396 ?hs_396 ?hf_396 ?hr_396 ?hQ_396 ?hy_396 ?hS_396 ?rest_396; (case hr_396 => kernel_rfl); (case hf_396 => kernel_rfl); (case hs_396 => kernel_rfl); (case ho_396 => (simp only [List.getElem?_toArray, List.getElem?_cons_succ, List.getElem?_cons_zero]; rfl)); (case hS_396 => assumption); (case hQ_396 => exact fun _ _ _ h => h); (case hy_396 => (refine Or.inl ⟨by rfl, ?_⟩; (intro w hSw; (try dsimp only at hSw); go_simp) <;> with_reducible rfl)); (try simp only [Act.put, List.setIfInBounds_toArray, List.set_cons_zero, List.set_cons_succ]))
              (refine wpAnyH_take (i := 18) (oi := ?oi_397) (v := ?v_397) ?ho_397 ?hs_397 ?hf_397 ?hr_397 ?hQ_397 ?hy_397 ?hS_397 ?rest_397; (case hr_397 => kernel_rfl); (case hf_397 => kernel_rfl); (case hs_397 => kernel_rfl); (case ho_397 => (simp only [List.getElem?_toArray, List.getElem?_cons_succ, List.getElem?_cons_zero]; rfl)); (case hS_397 => assumption); (case hQ_397 => exact fun _ _ _ h => h); (case hy_397 => (refine Or.inl ⟨by rfl, ?_⟩; (intro w hSw; (try dsimp only at hSw); go_simp) <;> with_reducible rfl)); (try simp only [Act.put, List.setIfInBounds_toArray, List.set_cons_zero, List.set_cons_succ]))
              (refine wpAnyH_take (i := 25) (oi := ?oi_398) (v := ?v_398) ?ho_398 ?hs_398 ?hf_398 ?hr_398 ?hQ_398 ?hy_398 ?hS_398 ?rest_398; (case hr_398 => kernel_rfl); (case hf_398 => kernel_rfl); (case hs_398 => kernel_rfl); (case ho_398 => (simp only [List.getElem?_toArray, List.getElem?_cons_succ, List.getElem?_cons_zero]; rfl)); (case hS_398 => assumption); (case hQ_398 => exact fun _ _ _ h => h); (case hy_398 => (refine Or.inl ⟨by rfl, ?_⟩; (intro w hSw; (try dsimp only at hSw); go_simp) <;> with_reducible rfl)); (try simp only [Act.put, List.setIfInBounds_toArray, List.set_cons_zero, List.set_cons_succ]))
              (refine wpAnyH_take (i := 26) (oi := ?oi_399) (v := ?v_399) ?ho_399 ?hs_399 ?hf_399 ?hr_399 ?hQ_399 ?hy_399 ?hS_399 ?rest_399; (case hr_399 => kernel_rfl); (case hf_399 => kernel_rfl); (case hs_399 => kernel_rfl); (case ho_399 => (simp only [List.getElem?_toArray, List.getElem?_cons_succ, List.getElem?_cons_zero]; rfl)); (case hS_399 => assumption); (case hQ_399 => exact fun _ _ _ h => h); (case hy_399 => (refine Or.inl ⟨by rfl, ?_⟩; (intro w hSw; (try dsimp only at hSw); go_simp) <;> with_reducible rfl)); (try simp only [Act.put, List.setIfInBounds_toArray, List.set_cons_zero, List.set_cons_succ]))
              refine wpAnyH_done (by kernel_rfl) ?_ _
              try rw [hstr]
              go_wp2_with fail
              refine (refSum BB _ (by have := hBBl.out; omega)).mono ?_
              rintro en wa ⟨rfl, hua⟩
              rw [hsm.out]
              go_wp2_with fail
              refine (refField (sm : Int) 4 _ (by omega) (by omega) (by decide)).mono ?_
              rintro en wb ⟨rfl, hub⟩
              have hUb := (hU.trans hua fun _ _ h => h).trans hub fun _ _ h => h
              go_wp2_with fail
              go_ret
              refine ⟨?_, hUb⟩
              rw [app_str, hslot.out]
              simp
end Go.Proofs.Ytiadbijholnbjaa
