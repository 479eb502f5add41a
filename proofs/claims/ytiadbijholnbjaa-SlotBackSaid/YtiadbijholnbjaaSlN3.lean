/- The reference's put. -/
import Derived.Test.YtiadbijholnbjaaSlN0
import Derived.Test.YtiadbijholnbjaaTagB
import Derived.Test.YtiadbijholnbjaaRefA
import Derived.Test.YtiadbijholnbjaaSlI
namespace Go.Proofs.Ytiadbijholnbjaa
open Go.RowKit Go.Amb Go.Shelf
set_option linter.unusedVariables false
set_option linter.unusedSimpArgs false
attribute [local go_sem] Go.Amb.fld_length
set_option maxRecDepth 100000
set_option maxHeartbeats 8000000 in
theorem refPut3 (e q : Int) (d : List UInt8) (w : World) (hR : rightS ⟨e, q, true, true, d⟩ = true) : Calls Try.prog 29 #[(⟨e, q, true, true, d⟩ : S5).v] w (Ret (.string ⟨(slotB ⟨e, q, true, true, d⟩).toArray⟩) w) := by
  have hRR := of_decide_eq_true hR
  simp only at hRR
  have hd : d.length ≤ 108 := hRR.2.2
  have he1 := hRR.1.1
  have he2 := hRR.1.2
  have hq1 := hRR.2.1.1
  have hq2 := hRR.2.1.2
  clear hRR
  have hmk0 := fun w => run_make1 Try.underlying42 (show (Try.prog.info? 5).map (fun i => (i.zero, i.size, i.bytes)) = some (some (.int .u8 0), 1, 1) from rfl) rfl (108 - d.length) (by omega) (by omega) w
  have hm : (108 : Int) - (d.length : Int) = ((108 - d.length : Nat) : Int) := by omega
  have hmw : IntKind.i64.wrap ((108 - d.length : Nat) : Int) = ((108 - d.length : Nat) : Int) := IntWalk.i64_in _ ⟨by omega, by omega⟩
  have h16 : ¬ 9223372036854775807 < 16 + d.length := by omega
  have h124 : ¬ 9223372036854775807 < 16 + d.length + (108 - d.length) := by omega
  have hbx := cells_of (heap_alloc_new w (.cells #[.int .i64 e, .int .i64 q, .bool true, .bool true, .string ⟨d.toArray⟩] 41))
  have x0 := hbx.1 0
  have x1 := hbx.1 1
  have x4 := hbx.1 4
  have hU := Upd.alloc Non w (.cells #[.int .i64 e, .int .i64 q, .bool true, .bool true, .string ⟨d.toArray⟩] 41)
  clear hbx
  replace hR := Lib.hid hR
  have hslot0 : slotB ⟨e, q, true, true, d⟩ = slotBody ⟨e, q, true, true, d⟩ ++ fld (sumC (slotBody ⟨e, q, true, true, d⟩) : Nat) 4 := rfl
  have hstr0 := body_str (flagS true true : Nat) e q (d.length : Int) d (108 - d.length)
  rw [show [83] ++ fld (flagS true true : Nat) 1 ++ fld e 4 ++ fld q 8 ++ fld (d.length : Int) 2 ++ d ++ List.replicate (108 - d.length) 0 = slotBody ⟨e, q, true, true, d⟩ from rfl] at hstr0
  have hlen0 : (slotBody ⟨e, q, true, true, d⟩).length = 124 := by
    unfold slotBody
    simp only [List.length_append, fld_length, List.length_replicate, List.length_cons, List.length_nil]
    omega
  obtain ⟨BB, hBB⟩ : ∃ BB, slotBody ⟨e, q, true, true, d⟩ = BB := ⟨_, rfl⟩
  rw [hBB] at hslot0 hstr0 hlen0
  have hsl := sumC_lt BB
  obtain ⟨sm, hsm⟩ : ∃ sm, sumC BB = sm := ⟨_, rfl⟩
  rw [hsm] at hslot0 hsl
  have h128 : ¬ 9223372036854775807 < BB.length + 4 := by omega
  have hsl2 : (sm : Int) < 4294967296 := by omega
  clear hsl
  replace hsm := Lib.hid hsm
  have hBBl := Lib.hid hlen0
  clear hlen0 hBB
  have hslot := Lib.hid hslot0
  have hstr : _ = _ := hstr0
  rw [show ((flagS true true : Nat) : Int) = 3 from rfl] at hstr
  clear hslot0 hstr0
  go_enter Try.func29, Try.ntmps29
  go_wp2_with fail
  refine wp_region_held_drew (S := (fun w' => w'.cell? ⟨w.heap.size, 0, none⟩ = some (.int .i64 e) ∧ w'.cell? ⟨w.heap.size, 1, none⟩ = some (.int .i64 q) ∧ w'.cell? ⟨w.heap.size, 4, none⟩ = some (.string ⟨d.toArray⟩))) (by kernel_rfl) (by (try dsimp only); exact ⟨x0, x1, x4⟩) (fun hHeld => ?_)
  replace hU := hU.then_drew
  (refine wpAnyH_take (i := 0) (oi := ?oi_400) (v := ?v_400) ?ho_400 ?hs_400 ?hf_400 ?hr_400 ?hQ_400 ?hy_400 ?hS_400 ?rest_400; (case hr_400 => kernel_rfl); (case hf_400 => kernel_rfl); (case hs_400 => kernel_rfl); (case ho_400 => (simp only [List.getElem?_toArray, List.getElem?_cons_succ, List.getElem?_cons_zero]; rfl)); (case hS_400 => assumption); (case hQ_400 => exact fun _ _ _ h => h); (case hy_400 => (refine Or.inl ⟨by rfl, ?_⟩; (intro w hSw; (try dsimp only at hSw); go_simp) <;> with_reducible rfl)); (try simp only [Act.put, List.setIfInBounds_toArray, List.set_cons_zero, List.set_cons_succ]))
  (refine wpAnyH_take (i := 3) (oi := ?oi_401) (v := ?v_401) ?ho_401 ?hs_401 ?hf_401 ?hr_401 ?hQ_401 ?hy_401 ?hS_401 ?rest_401; (case hr_401 => kernel_rfl); (case hf_401 => kernel_rfl); (case hs_401 => kernel_rfl); (case ho_401 => (simp only [List.getElem?_toArray, List.getElem?_cons_succ, List.getElem?_cons_zero]; rfl)); (case hS_401 => assumption); (case hQ_401 => exact fun _ _ _ h => h); (case hy_401 => (refine Or.inl ⟨by rfl, ?_⟩; (intro w hSw; (try dsimp only at hSw); go_simp) <;> with_reducible rfl)); (try simp only [Act.put, List.setIfInBounds_toArray, List.set_cons_zero, List.set_cons_succ]))
  (refine wpAnyH_take (i := 4) (oi := ?oi_402) (v := ?v_402) ?ho_402 ?hs_402 ?hf_402 ?hr_402 ?hQ_402 ?hy_402 ?hS_402 ?rest_402; (case hr_402 => kernel_rfl); (case hf_402 => kernel_rfl); (case hs_402 => kernel_rfl); (case ho_402 => (simp only [List.getElem?_toArray, List.getElem?_cons_succ, List.getElem?_cons_zero]; rfl)); (case hS_402 => assumption); (case hQ_402 => exact fun _ _ _ h => h); (case hy_402 => (refine Or.inl ⟨by rfl, ?_⟩; (intro w hSw; (try dsimp only at hSw); go_simp) <;> with_reducible rfl)); (try simp only [Act.put, List.setIfInBounds_toArray, List.set_cons_zero, List.set_cons_succ]))
  (refine wpAnyH_take (i := 7) (oi := ?oi_403) (v := ?v_403) ?ho_403 ?hs_403 ?hf_403 ?hr_403 ?hQ_403 ?hy_403 ?hS_403 ?rest_403; (case hr_403 => kernel_rfl); (case hf_403 => kernel_rfl); (case hs_403 => kernel_rfl); (case ho_403 => (simp only [List.getElem?_toArray, List.getElem?_cons_succ, List.getElem?_cons_zero]; rfl)); (case hS_403 => assumption); (case hQ_403 => exact fun _ _ _ h => h); (case hy_403 => (refine Or.inl ⟨by rfl, ?_⟩; (intro w hSw; (try dsimp only at hSw); go_simp) <;> with_reducible rfl)); (try simp only [Act.put, List.setIfInBounds_toArray, List.set_cons_zero, List.set_cons_succ]))
  (refine wpAnyH_take (i := 8) (oi := ?oi_404) (v := ?v_404) ?ho_404 ?hs_404 ?hf_404 ?hr_404 ?hQ_404 ?hy_404 ?hS_404 ?rest_404; (case hr_404 => kernel_rfl); (case hf_404 => kernel_rfl); (case hs_404 => kernel_rfl); (case ho_404 => (simp only [List.getElem?_toArray, List.getElem?_cons_succ, List.getElem?_cons_zero]; rfl)); (case hS_404 => assumption); (case hQ_404 => exact fun _ _ _ h => h); (case hy_404 => (refine Or.inl ⟨by rfl, ?_⟩; (intro w hSw; (try dsimp only at hSw); go_simp) <;> with_reducible rfl)); (try simp only [Act.put, List.setIfInBounds_toArray, List.set_cons_zero, List.set_cons_succ]))
  (refine wpAnyH_take (i := 11) (oi := ?oi_405) (v := ?v_405) ?ho_405 ?hs_405 ?hf_405 ?hr_405 ?hQ_405 ?hy_405 ?hS_405 ?rest_405; (case hr_405 => kernel_rfl); (case hf_405 => kernel_rfl); (case hs_405 => kernel_rfl); (case ho_405 => (simp only [List.getElem?_toArray, List.getElem?_cons_succ, List.getElem?_cons_zero]; rfl)); (case hS_405 => assumption); (case hQ_405 => exact fun _ _ _ h => h); (case hy_405 => (refine Or.inl ⟨by rfl, ?_⟩; (intro w hSw; (try dsimp only at hSw); go_simp) <;> with_reducible rfl)); (try simp only [Act.put, List.setIfInBounds_toArray, List.set_cons_zero, List.set_cons_succ]))
  (refine wpAnyH_take (i := 12) (oi := ?oi_406) (v := ?v_406) ?ho_406 ?hs_406 ?hf_406 ?hr_406 ?hQ_406 ?hy_406 ?hS_406 ?rest_406; (case hr_406 => kernel_rfl); (case hf_406 => kernel_rfl); (case hs_406 => kernel_rfl); (case ho_406 => (simp only [List.getElem?_toArray, List.getElem?_cons_succ, List.getElem?_cons_zero]; rfl)); (case hS_406 => assumption); (case hQ_406 => exact fun _ _ _ h => h); (case hy_406 => (refine Or.inl ⟨by rfl, ?_⟩; (intro w hSw; (try dsimp only at hSw); go_simp) <;> with_reducible rfl)); (try simp only [Act.put, List.setIfInBounds_toArray, List.set_cons_zero, List.set_cons_succ]))
  (refine wpAnyH_take (i := 13) (oi := ?oi_407) (v := ?v_407) ?ho_407 ?hs_407 ?hf_407 ?hr_407 ?hQ_407 ?hy_407 ?hS_407 ?rest_407; (case hr_407 => kernel_rfl); (case hf_407 => kernel_rfl); (case hs_407 => kernel_rfl); (case ho_407 => (simp only [List.getElem?_toArray, List.getElem?_cons_succ, List.getElem?_cons_zero]; rfl)); (case hS_407 => assumption); (case hQ_407 => exact fun _ _ _ h => h); (case hy_407 => (refine Or.inl ⟨by rfl, ?_⟩; (intro w hSw; (try dsimp only at hSw); go_simp) <;> with_reducible rfl)); (try simp only [Act.put, List.setIfInBounds_toArray, List.set_cons_zero, List.set_cons_succ]))
  (refine wpAnyH_take (i := 16) (oi := ?oi_408) (v := ?v_408) ?ho_408 ?hs_408 ?hf_408 ?hr_408 ?hQ_408 ?hy_408 ?hS_408 ?rest_408; (case hr_408 => kernel_rfl); (case hf_408 => kernel_rfl); (case hs_408 => kernel_rfl); (case ho_408 => (simp only [List.getElem?_toArray, List.getElem?_cons_succ, List.getElem?_cons_zero]; rfl)); (case hS_408 => assumption); (case hQ_408 => exact fun _ _ _ h => h); (case hy_408 => (refine Or.inl ⟨by rfl, ?_⟩; (intro w hSw; (try dsimp only at hSw); go_simp) <;> with_reducible rfl)); (try simp only [Act.put, List.setIfInBounds_toArray, List.set_cons_zero, List.set_cons_succ]))
  (refine wpAnyH_take (i := 17) (oi := ?oi_409) (v := ?v_409) ?ho_409 ?hs_409 ?hf_409 ?hr_409 ?hQ_409 ?hy_409 ?hS_409 ?rest_409; (case hr_409 => kernel_rfl); (case hf_409 => kernel_rfl); (case hs_409 => kernel_rfl); (case ho_409 => (simp only [List.getElem?_toArray, List.getElem?_cons_succ, List.getElem?_cons_zero]; rfl)); (case hS_409 => assumption); (case hQ_409 => exact fun _ _ _ h => h); (case hy_409 => (refine Or.inl ⟨by rfl, ?_⟩; (intro w hSw; (try dsimp only at hSw); go_simp) <;> with_reducible rfl)); (try simp only [Act.put, List.setIfInBounds_toArray, List.set_cons_zero, List.set_cons_succ]))
  (refine wpAnyH_take (i := 19) (oi := ?oi_410) (v := ?v_410) ?ho_410 ?hs_410 ?hf_410 ?hr_410 ?hQ_410 ?hy_410 ?hS_410 ?rest_410; (case hr_410 => kernel_rfl); (case hf_410 => kernel_rfl); (case hs_410 => kernel_rfl); (case ho_410 => (simp only [List.getElem?_toArray, List.getElem?_cons_succ, List.getElem?_cons_zero]; rfl)); (case hS_410 => assumption); (case hQ_410 => exact fun _ _ _ h => h); (case hy_410 => (refine Or.inl ⟨by rfl, ?_⟩; (intro w hSw; (try dsimp only at hSw); go_simp) <;> with_reducible rfl)); (try simp only [Act.put, List.setIfInBounds_toArray, List.set_cons_zero, List.set_cons_succ]))
  (refine wpAnyH_take (i := 20) (oi := ?oi_411) (v := ?v_411) ?ho_411 ?hs_411 ?hf_411 ?hr_411 ?hQ_411 ?hy_411 ?hS_411 ?rest_411; (case hr_411 => kernel_rfl); (case hf_411 => kernel_rfl); (case hs_411 => kernel_rfl); (case ho_411 => (simp only [List.getElem?_toArray, List.getElem?_cons_succ, List.getElem?_cons_zero]; rfl)); (case hS_411 => assumption); (case hQ_411 => exact fun _ _ _ h => h); (case hy_411 => (refine Or.inl ⟨by rfl, ?_⟩; (intro w hSw; (try dsimp only at hSw); go_simp) <;> with_reducible rfl)); (try simp only [Act.put, List.setIfInBounds_toArray, List.set_cons_zero, List.set_cons_succ]))
  (refine wpAnyH_take (i := 21) (oi := ?oi_412) (v := ?v_412) ?ho_412 ?hs_412 ?hf_412 ?hr_412 ?hQ_412 ?hy_412 ?hS_412 ?rest_412; (case hr_412 => kernel_rfl); (case hf_412 => kernel_rfl); (case hs_412 => kernel_rfl); (case ho_412 => (simp only [List.getElem?_toArray, List.getElem?_cons_succ, List.getElem?_cons_zero]; rfl)); (case hS_412 => assumption); (case hQ_412 => exact fun _ _ _ h => h); (case hy_412 => (refine Or.inl ⟨by rfl, ?_⟩; (intro w hSw; (try dsimp only at hSw); go_simp) <;> with_reducible rfl)); (try simp only [Act.put, List.setIfInBounds_toArray, List.set_cons_zero, List.set_cons_succ]))
  (refine wpAnyH_take (i := 22) (oi := ?oi_413) (v := ?v_413) ?ho_413 ?hs_413 ?hf_413 ?hr_413 ?hQ_413 ?hy_413 ?hS_413 ?rest_413; (case hr_413 => kernel_rfl); (case hf_413 => kernel_rfl); (case hs_413 => kernel_rfl); (case ho_413 => (simp only [List.getElem?_toArray, List.getElem?_cons_succ, List.getElem?_cons_zero]; rfl)); (case hS_413 => assumption); (case hQ_413 => exact fun _ _ _ h => h); (case hy_413 => (refine Or.inl ⟨by rfl, ?_⟩; (intro w hSw; (try dsimp only at hSw); go_simp) <;> with_reducible rfl)); (try simp only [Act.put, List.setIfInBounds_toArray, List.set_cons_zero, List.set_cons_succ]))
  refine wpAnyH_ready (rs := [1, 23]) (by kernel_rfl) (by simp) ?_
  refine AllReadyH.cons (o := ?oo414_0) ?ho414_0 ?hs414_0 (AllReadyH.cons (o := ?oo414_1) ?ho414_1 ?hs414_1 AllReadyH.nil)
  case ho414_0 => (simp only [List.getElem?_toArray, List.getElem?_cons_succ, List.getElem?_cons_zero]; rfl)
  case ho414_1 => (simp only [List.getElem?_toArray, List.getElem?_cons_succ, List.getElem?_cons_zero]; rfl)
  case hs414_0 =>
    intro K hK; go_simp; go_at_call 42; refine (refField 3 1 _ (by omega) (by omega) (by decide)).mono ?_; rintro en wn ⟨rfl, hu⟩
    have x0 := hu.cell x0 fun h => h; have x1 := hu.cell x1 fun h => h; have x4 := hu.cell x4 fun h => h
    have hU := (by first | exact hU.trans hu fun _ _ h => h | exact (hU.then_drew).trans hu fun _ _ h => h : Upd Non w wn)
    try have hB := hB.non hu
    clear hu
    try go_wp2_with fail
    refine hK.out _ _ ?_ (fun hHeld => ?_)
    · (try dsimp only); first | exact ⟨x0, x1, x4⟩ | exact ⟨(Upd.alloc Non _ _).cell x0 fun h => h, (Upd.alloc Non _ _).cell x1 fun h => h, (Upd.alloc Non _ _).cell x4 fun h => h⟩
    clear hK K
    try simp only [Act.put, List.setIfInBounds_toArray, List.set_cons_zero, List.set_cons_succ]
    (refine wpAnyH_take (i := 2) (oi := ?oi_415) (v := ?v_415) ?ho_415 ?hs_415 ?hf_415 ?hr_415 ?hQ_415 ?hy_415 ?hS_415 ?rest_415; (case hr_415 => kernel_rfl); (case hf_415 => kernel_rfl); (case hs_415 => kernel_rfl); (case ho_415 => (simp only [List.getElem?_toArray, List.getElem?_cons_succ, List.getElem?_cons_zero]; rfl)); (case hS_415 => assumption); (case hQ_415 => exact fun _ _ _ h => h); (case hy_415 => (refine Or.inl ⟨by rfl, ?_⟩; (intro w hSw; (try dsimp only at hSw); go_simp) <;> with_reducible rfl)); (try simp only [Act.put, List.setIfInBounds_toArray, List.set_cons_zero, List.set_cons_succ]))
    refine wpAnyH_ready (rs := [5, 23]) (by kernel_rfl) (by simp) ?_
    refine AllReadyH.cons (o := ?oo416_0) ?ho416_0 ?hs416_0 (AllReadyH.cons (o := ?oo416_1) ?ho416_1 ?hs416_1 AllReadyH.nil)
    case ho416_0 => (simp only [List.getElem?_toArray, List.getElem?_cons_succ, List.getElem?_cons_zero]; rfl)
    case ho416_1 => (simp only [List.getElem?_toArray, List.getElem?_cons_succ, List.getElem?_cons_zero]; rfl)
    case hs416_0 =>
      intro K hK; go_simp; go_at_call 42; refine (refField e 4 _ (by omega) (by omega) (by decide)).mono ?_; rintro en wn ⟨rfl, hu⟩
      have x0 := hu.cell x0 fun h => h; have x1 := hu.cell x1 fun h => h; have x4 := hu.cell x4 fun h => h
      have hU := (by first | exact hU.trans hu fun _ _ h => h | exact (hU.then_drew).trans hu fun _ _ h => h : Upd Non w wn)
      try have hB := hB.non hu
      clear hu
      try go_wp2_with fail
      refine hK.out _ _ ?_ (fun hHeld => ?_)
      · (try dsimp only); first | exact ⟨x0, x1, x4⟩ | exact ⟨(Upd.alloc Non _ _).cell x0 fun h => h, (Upd.alloc Non _ _).cell x1 fun h => h, (Upd.alloc Non _ _).cell x4 fun h => h⟩
      clear hK K
      try simp only [Act.put, List.setIfInBounds_toArray, List.set_cons_zero, List.set_cons_succ]
      (refine wpAnyH_take (i := 6) (oi := ?oi_417) (v := ?v_417) ?ho_417 ?hs_417 ?hf_417 ?hr_417 ?hQ_417 ?hy_417 ?hS_417 ?rest_417; (case hr_417 => kernel_rfl); (case hf_417 => kernel_rfl); (case hs_417 => kernel_rfl); (case ho_417 => (simp only [List.getElem?_toArray, List.getElem?_cons_succ, List.getElem?_cons_zero]; rfl)); (case hS_417 => assumption); (case hQ_417 => exact fun _ _ _ h => h); (case hy_417 => (refine Or.inl ⟨by rfl, ?_⟩; (intro w hSw; (try dsimp only at hSw); go_simp) <;> with_reducible rfl)); (try simp only [Act.put, List.setIfInBounds_toArray, List.set_cons_zero, List.set_cons_succ]))
      refine wpAnyH_ready (rs := [9, 23]) (by kernel_rfl) (by simp) ?_
      refine AllReadyH.cons (o := ?oo418_0) ?ho418_0 ?hs418_0 (AllReadyH.cons (o := ?oo418_1) ?ho418_1 ?hs418_1 AllReadyH.nil)
      case ho418_0 => (simp only [List.getElem?_toArray, List.getElem?_cons_succ, List.getElem?_cons_zero]; rfl)
      case ho418_1 => (simp only [List.getElem?_toArray, List.getElem?_cons_succ, List.getElem?_cons_zero]; rfl)
      case hs418_0 =>
        intro K hK; go_simp; go_at_call 42; refine (refField q 8 _ (by omega) (by omega) (by decide)).mono ?_; rintro en wn ⟨rfl, hu⟩
        have x0 := hu.cell x0 fun h => h; have x1 := hu.cell x1 fun h => h; have x4 := hu.cell x4 fun h => h
        have hU := (by first | exact hU.trans hu fun _ _ h => h | exact (hU.then_drew).trans hu fun _ _ h => h : Upd Non w wn)
        try have hB := hB.non hu
        clear hu
        try go_wp2_with fail
        refine hK.out _ _ ?_ (fun hHeld => ?_)
        · (try dsimp only); first | exact ⟨x0, x1, x4⟩ | exact ⟨(Upd.alloc Non _ _).cell x0 fun h => h, (Upd.alloc Non _ _).cell x1 fun h => h, (Upd.alloc Non _ _).cell x4 fun h => h⟩
        clear hK K
        try simp only [Act.put, List.setIfInBounds_toArray, List.set_cons_zero, List.set_cons_succ]
        (refine wpAnyH_take (i := 10) (oi := ?oi_419) (v := ?v_419) ?ho_419 ?hs_419 ?hf_419 ?hr_419 ?hQ_419 ?hy_419 ?hS_419 ?rest_419; (case hr_419 => kernel_rfl); (case hf_419 => kernel_rfl); (case hs_419 => kernel_rfl); (case ho_419 => (simp only [List.getElem?_toArray, List.getElem?_cons_succ, List.getElem?_cons_zero]; rfl)); (case hS_419 => assumption); (case hQ_419 => exact fun _ _ _ h => h); (case hy_419 => (refine Or.inl ⟨by rfl, ?_⟩; (intro w hSw; (try dsimp only at hSw); go_simp) <;> with_reducible rfl)); (try simp only [Act.put, List.setIfInBounds_toArray, List.set_cons_zero, List.set_cons_succ]))
        refine wpAnyH_ready (rs := [14, 23]) (by kernel_rfl) (by simp) ?_
        refine AllReadyH.cons (o := ?oo420_0) ?ho420_0 ?hs420_0 (AllReadyH.cons (o := ?oo420_1) ?ho420_1 ?hs420_1 AllReadyH.nil)
        case ho420_0 => (simp only [List.getElem?_toArray, List.getElem?_cons_succ, List.getElem?_cons_zero]; rfl)
        case ho420_1 => (simp only [List.getElem?_toArray, List.getElem?_cons_succ, List.getElem?_cons_zero]; rfl)
        case hs420_0 =>
          intro K hK; go_simp; go_at_call 42; refine (refField (d.length : Int) 2 _ (by omega) (by omega) (by decide)).mono ?_; rintro en wn ⟨rfl, hu⟩
          have x0 := hu.cell x0 fun h => h; have x1 := hu.cell x1 fun h => h; have x4 := hu.cell x4 fun h => h
          have hU := (by first | exact hU.trans hu fun _ _ h => h | exact (hU.then_drew).trans hu fun _ _ h => h : Upd Non w wn)
          try have hB := hB.non hu
          clear hu
          try go_wp2_with fail
          refine hK.out _ _ ?_ (fun hHeld => ?_)
          · (try dsimp only); first | exact ⟨x0, x1, x4⟩ | exact ⟨(Upd.alloc Non _ _).cell x0 fun h => h, (Upd.alloc Non _ _).cell x1 fun h => h, (Upd.alloc Non _ _).cell x4 fun h => h⟩
          clear hK K
          try simp only [Act.put, List.setIfInBounds_toArray, List.set_cons_zero, List.set_cons_succ]
          (refine wpAnyH_take (i := 15) (oi := ?oi_421) (v := ?v_421) ?ho_421 ?hs_421 ?hf_421 ?hr_421 ?hQ_421 ?hy_421 ?hS_421 ?rest_421; (case hr_421 => kernel_rfl); (case hf_421 => kernel_rfl); (case hs_421 => kernel_rfl); (case ho_421 => (simp only [List.getElem?_toArray, List.getElem?_cons_succ, List.getElem?_cons_zero]; rfl)); (case hS_421 => assumption); (case hQ_421 => exact fun _ _ _ h => h); (case hy_421 => (refine Or.inl ⟨by rfl, ?_⟩; (intro w hSw; (try dsimp only at hSw); go_simp) <;> with_reducible rfl)); (try simp only [Act.put, List.setIfInBounds_toArray, List.set_cons_zero, List.set_cons_succ]))
          (refine wpAnyH_take (i := 18) (oi := ?oi_422) (v := ?v_422) ?ho_422 ?hs_422 ?hf_422 ?hr_422 ?hQ_422 ?hy_422 ?hS_422 ?rest_422; (case hr_422 => kernel_rfl); (case hf_422 => kernel_rfl); (case hs_422 => kernel_rfl); (case ho_422 => (simp only [List.getElem?_toArray, List.getElem?_cons_succ, List.getElem?_cons_zero]; rfl)); (case hS_422 => assumption); (case hQ_422 => exact fun _ _ _ h => h); (case hy_422 => (refine Or.inl ⟨by rfl, ?_⟩; (intro w hSw; (try dsimp only at hSw); go_simp) <;> with_reducible rfl)); (try simp only [Act.put, List.setIfInBounds_toArray, List.set_cons_zero, List.set_cons_succ]))
          refine wpAnyH_ready (rs := [23]) (by kernel_rfl) (by simp) ?_
          refine AllReadyH.cons (o := ?oo423_0) ?ho423_0 ?hs423_0 AllReadyH.nil
          case ho423_0 => (simp only [List.getElem?_toArray, List.getElem?_cons_succ, List.getElem?_cons_zero]; rfl)
          case hs423_0 =>
            intro K hK; have hmk := hmk0; go_simp; clear hmk
            try go_wp2_with fail
            refine hK.out _ _ ?_ (fun hHeld => ?_)
            · (try dsimp only); exact ⟨(Upd.alloc Non _ _).cell x0 fun h => h, (Upd.alloc Non _ _).cell x1 fun h => h, (Upd.alloc Non _ _).cell x4 fun h => h⟩
            clear hK K
            try simp only [Act.put, List.setIfInBounds_toArray, List.set_cons_zero, List.set_cons_succ]
            obtain ⟨hB, hU, x0, x1, x4⟩ := made_noughts hU x0 x1 x4 5 (108 - d.length) (by omega)
            refine wpAnyH_ready (rs := [24]) (by kernel_rfl) (by simp) ?_
            refine AllReadyH.cons (o := ?oo424_0) ?ho424_0 ?hs424_0 AllReadyH.nil
            case ho424_0 => (simp only [List.getElem?_toArray, List.getElem?_cons_succ, List.getElem?_cons_zero]; rfl)
            case hs424_0 =>
              intro K hK; have hst := run_str (P := Try.prog) _ 42 9 5 Try.underlying42 Try.underlying5 Try.underlying9 _ _ hB; go_simp; clear hst
              try go_wp2_with fail
              refine hK.out _ _ ?_ (fun hHeld => ?_)
              · (try dsimp only); first | exact ⟨x0, x1, x4⟩ | exact ⟨(Upd.alloc Non _ _).cell x0 fun h => h, (Upd.alloc Non _ _).cell x1 fun h => h, (Upd.alloc Non _ _).cell x4 fun h => h⟩
              clear hK K
              try simp only [Act.put, List.setIfInBounds_toArray, List.set_cons_zero, List.set_cons_succ]
              (refine wpAnyH_take (i := 25) (oi := ?oi_425) (v := ?v_425) ?ho_425 ?hs_425 ?hf_425 ?hr_425 ?hQ_425 ?hy_425 ?hS_425 ?rest_425; (case hr_425 => kernel_rfl); (case hf_425 => kernel_rfl); (case hs_425 => kernel_rfl); (case ho_425 => (simp only [List.getElem?_toArray, List.getElem?_cons_succ, List.getElem?_cons_zero]; rfl)); (case hS_425 => assumption); (case hQ_425 => exact fun _ _ _ h => h); (case hy_425 => (refine Or.inl ⟨by rfl, ?_⟩; (intro w hSw; (try dsimp only at hSw); go_simp) <;> with_reducible rfl)); (try simp only [Act.put, List.setIfInBounds_toArray, List.set_cons_zero, List.set_cons_succ]))
              (refine wpAnyH_take (i := 26) (oi := ?oi_426) (v := ?v_426) ?ho_426 ?hs_426 ?hf_426 ?hr_426 ?hQ_426 ?hy_426 ?hS_426 ?rest_426; (case hr_426 => kernel_rfl); (case hf_426 => kernel_rfl); (case hs_426 => kernel_rfl); (case ho_426 => (simp only [List.getElem?_toArray, List.getElem?_cons_succ, List.getElem?_cons_zero]; rfl)); (case hS_426 => assumption); (case hQ_426 => exact fun _ _ _ h => h); (case hy_426 => (refine Or.inl ⟨by rfl, ?_⟩; (intro w hSw; (try dsimp only at hSw); go_simp) <;> with_reducible rfl)); (try simp only [Act.put, List.setIfInBounds_toArray, List.set_cons_zero, List.set_cons_succ]))
              refine wpAnyH_done (by kernel_rfl) ?_ _
              try rw [hstr]
              go_wp2_with fail
              refine (refSum BB _ (by have := hBBl.out; omega)).mono ?_
              rintro en wa ⟨rfl, hua⟩
              rw [hsm.out]
              go_wp2_with fail
              refine (refField (sm : Int) 4 _ (by omega) (by omega) (by decide)).mono ?_
              rintro en wb ⟨rfl, hub⟩
              have hUb := (hU.trans hua fun _ _ h => h).trans hub fun _ _ h => h
              go_wp2_with fail
              go_ret
              refine ⟨?_, hUb⟩
              rw [app_str, hslot.out]
              simp
        case hs420_1 =>
          intro K hK; have hmk := hmk0; go_simp; clear hmk
          try go_wp2_with fail
          refine hK.out _ _ ?_ (fun hHeld => ?_)
          · (try dsimp only); exact ⟨(Upd.alloc Non _ _).cell x0 fun h => h, (Upd.alloc Non _ _).cell x1 fun h => h, (Upd.alloc Non _ _).cell x4 fun h => h⟩
          clear hK K
          try simp only [Act.put, List.setIfInBounds_toArray, List.set_cons_zero, List.set_cons_succ]
          obtain ⟨hB, hU, x0, x1, x4⟩ := made_noughts hU x0 x1 x4 5 (108 - d.length) (by omega)
          refine wpAnyH_ready (rs := [14, 24]) (by kernel_rfl) (by simp) ?_
          refine AllReadyH.cons (o := ?oo427_0) ?ho427_0 ?hs427_0 (AllReadyH.cons (o := ?oo427_1) ?ho427_1 ?hs427_1 AllReadyH.nil)
          case ho427_0 => (simp only [List.getElem?_toArray, List.getElem?_cons_succ, List.getElem?_cons_zero]; rfl)
          case ho427_1 => (simp only [List.getElem?_toArray, List.getElem?_cons_succ, List.getElem?_cons_zero]; rfl)
          case hs427_0 =>
            intro K hK; go_simp; go_at_call 42; refine (refField (d.length : Int) 2 _ (by omega) (by omega) (by decide)).mono ?_; rintro en wn ⟨rfl, hu⟩
            have x0 := hu.cell x0 fun h => h; have x1 := hu.cell x1 fun h => h; have x4 := hu.cell x4 fun h => h
            have hU := (by first | exact hU.trans hu fun _ _ h => h | exact (hU.then_drew).trans hu fun _ _ h => h : Upd Non w wn)
            try have hB := hB.non hu
            clear hu
            try go_wp2_with fail
            refine hK.out _ _ ?_ (fun hHeld => ?_)
            · (try dsimp only); first | exact ⟨x0, x1, x4⟩ | exact ⟨(Upd.alloc Non _ _).cell x0 fun h => h, (Upd.alloc Non _ _).cell x1 fun h => h, (Upd.alloc Non _ _).cell x4 fun h => h⟩
            clear hK K
            try simp only [Act.put, List.setIfInBounds_toArray, List.set_cons_zero, List.set_cons_succ]
            (refine wpAnyH_take (i := 15) (oi := ?oi_428) (v := ?v_428) ?ho_428 ?hs_428 ?hf_428 ?hr_428 ?hQ_428 ?hy_428 ?hS_428 ?rest_428; (case hr_428 => kernel_rfl); (case hf_428 => kernel_rfl); (case hs_428 => kernel_rfl); (case ho_428 => (simp only [List.getElem?_toArray, List.getElem?_cons_succ, List.getElem?_cons_zero]; rfl)); (case hS_428 => assumption); (case hQ_428 => exact fun _ _ _ h => h); (case hy_428 => (refine Or.inl ⟨by rfl, ?_⟩; (intro w hSw; (try dsimp only at hSw); go_simp) <;> with_reducible rfl)); (try simp only [Act.put, List.setIfInBounds_toArray, List.set_cons_zero, List.set_cons_succ]))
            (refine wpAnyH_take (i := 18) (oi := ?oi_429) (v := ?v_429) ?ho_429 ?hs_429 ?hf_429 ?hr_429 ?hQ_429 ?hy_429 ?hS_429 ?rest_429; (case hr_429 => kernel_rfl); (case hf_429 => kernel_rfl); (case hs_429 => kernel_rfl); (case ho_429 => (simp only [List.getElem?_toArray, List.getElem?_cons_succ, List.getElem?_cons_zero]; rfl)); (case hS_429 => assumption); (case hQ_429 => exact fun _ _ _ h => h); (case hy_429 => (refine Or.inl ⟨by rfl, ?_⟩; (intro w hSw; (try dsimp only at hSw); go_simp) <;> with_reducible rfl)); (try simp only [Act.put, List.setIfInBounds_toArray, List.set_cons_zero, List.set_cons_succ]))
            refine wpAnyH_ready (rs := [24]) (by kernel_rfl) (by simp) ?_
            refine AllReadyH.cons (o := ?oo430_0) ?ho430_0 ?hs430_0 AllReadyH.nil
            case ho430_0 => (simp only [List.getElem?_toArray, List.getElem?_cons_succ, List.getElem?_cons_zero]; rfl)
            case hs430_0 =>
              intro K hK; have hst := run_str (P := Try.prog) _ 42 9 5 Try.underlying42 Try.underlying5 Try.underlying9 _ _ hB; go_simp; clear hst
              try go_wp2_with fail
              refine hK.out _ _ ?_ (fun hHeld => ?_)
              · (try dsimp only); first | exact ⟨x0, x1, x4⟩ | exact ⟨(Upd.alloc Non _ _).cell x0 fun h => h, (Upd.alloc Non _ _).cell x1 fun h => h, (Upd.alloc Non _ _).cell x4 fun h => h⟩
              clear hK K
              try simp only [Act.put, List.setIfInBounds_toArray, List.set_cons_zero, List.set_cons_succ]
              (refine wpAnyH_take (i := 25) (oi := ?oi_431) (v := ?v_431) ?ho_431 ?hs_431 ?hf_431 ?hr_431 ?hQ_431 ?hy_431 ?hS_431 ?rest_431; (case hr_431 => kernel_rfl); (case hf_431 => kernel_rfl); (case hs_431 => kernel_rfl); (case ho_431 => (simp only [List.getElem?_toArray, List.getElem?_cons_succ, List.getElem?_cons_zero]; rfl)); (case hS_431 => assumption); (case hQ_431 => exact fun _ _ _ h => h); (case hy_431 => (refine Or.inl ⟨by rfl, ?_⟩; (intro w hSw; (try dsimp only at hSw); go_simp) <;> with_reducible rfl)); (try simp only [Act.put, List.setIfInBounds_toArray, List.set_cons_zero, List.set_cons_succ]))
              (refine wpAnyH_take (i := 26) (oi := ?oi_432) (v := ?v_432) ?ho_432 ?hs_432 ?hf_432 ?hr_432 ?hQ_432 ?hy_432 ?hS_432 ?rest_432; (case hr_432 => kernel_rfl); (case hf_432 => kernel_rfl); (case hs_432 => kernel_rfl); (case ho_432 => (simp only [List.getElem?_toArray, List.getElem?_cons_succ, List.getElem?_cons_zero]; rfl)); (case hS_432 => assumption); (case hQ_432 => exact fun _ _ _ h => h); (case hy_432 => (refine Or.inl ⟨by rfl, ?_⟩; (intro w hSw; (try dsimp only at hSw); go_simp) <;> with_reducible rfl)); (try simp only [Act.put, List.setIfInBounds_toArray, List.set_cons_zero, List.set_cons_succ]))
              refine wpAnyH_done (by kernel_rfl) ?_ _
              try rw [hstr]
              go_wp2_with fail
              refine (refSum BB _ (by have := hBBl.out; omega)).mono ?_
              rintro en wa ⟨rfl, hua⟩
              rw [hsm.out]
              go_wp2_with fail
              refine (refField (sm : Int) 4 _ (by omega) (by omega) (by decide)).mono ?_
              rintro en wb ⟨rfl, hub⟩
              have hUb := (hU.trans hua fun _ _ h => h).trans hub fun _ _ h => h
              go_wp2_with fail
              go_ret
              refine ⟨?_, hUb⟩
              rw [app_str, hslot.out]
              simp
          case hs427_1 =>
            intro K hK; have hst := run_str (P := Try.prog) _ 42 9 5 Try.underlying42 Try.underlying5 Try.underlying9 _ _ hB; go_simp; clear hst
            try go_wp2_with fail
            refine hK.out _ _ ?_ (fun hHeld => ?_)
            · (try dsimp only); first | exact ⟨x0, x1, x4⟩ | exact ⟨(Upd.alloc Non _ _).cell x0 fun h => h, (Upd.alloc Non _ _).cell x1 fun h => h, (Upd.alloc Non _ _).cell x4 fun h => h⟩
            clear hK K
            try simp only [Act.put, List.setIfInBounds_toArray, List.set_cons_zero, List.set_cons_succ]
            refine wpAnyH_ready (rs := [14]) (by kernel_rfl) (by simp) ?_
            refine AllReadyH.cons (o := ?oo433_0) ?ho433_0 ?hs433_0 AllReadyH.nil
            case ho433_0 => (simp only [List.getElem?_toArray, List.getElem?_cons_succ, List.getElem?_cons_zero]; rfl)
            case hs433_0 =>
              intro K hK; go_simp; go_at_call 42; refine (refField (d.length : Int) 2 _ (by omega) (by omega) (by decide)).mono ?_; rintro en wn ⟨rfl, hu⟩
              have x0 := hu.cell x0 fun h => h; have x1 := hu.cell x1 fun h => h; have x4 := hu.cell x4 fun h => h
              have hU := (by first | exact hU.trans hu fun _ _ h => h | exact (hU.then_drew).trans hu fun _ _ h => h : Upd Non w wn)
              try have hB := hB.non hu
              clear hu
              try go_wp2_with fail
              refine hK.out _ _ ?_ (fun hHeld => ?_)
              · (try dsimp only); first | exact ⟨x0, x1, x4⟩ | exact ⟨(Upd.alloc Non _ _).cell x0 fun h => h, (Upd.alloc Non _ _).cell x1 fun h => h, (Upd.alloc Non _ _).cell x4 fun h => h⟩
              clear hK K
              try simp only [Act.put, List.setIfInBounds_toArray, List.set_cons_zero, List.set_cons_succ]
              (refine wpAnyH_take (i := 15) (oi := ?oi_434) (v := ?v_434) ?ho_434 ?hs_434 ?hf_434 ?hr_434 ?hQ_434 ?hy_434 ?hS_434 ?rest_434; (case hr_434 => kernel_rfl); (case hf_434 => kernel_rfl); (case hs_434 => kernel_rfl); (case ho_434 => (simp only [List.getElem?_toArray, List.getElem?_cons_succ, List.getElem?_cons_zero]; rfl)); (case hS_434 => assumption); (case hQ_434 => exact fun _ _ _ h => h); (case hy_434 => (refine Or.inl ⟨by rfl, ?_⟩; (intro w hSw; (try dsimp only at hSw); go_simp) <;> with_reducible rfl)); (try simp only [Act.put, List.setIfInBounds_toArray, List.set_cons_zero, List.set_cons_succ]))
              (refine wpAnyH_take (i := 18) (oi := ?oi_435) (v := ?v_435) ?ho_435 ?hs_435 ?hf_435 ?hr_435 ?hQ_435 ?hy_435 ?hS_435 ?rest_435; (case hr_435 => kernel_rfl); (case hf_435 => kernel_rfl); (case hs_435 => kernel_rfl); (case ho_435 => (simp only [List.getElem?_toArray, List.getElem?_cons_succ, List.getElem?_cons_zero]; rfl)); (case hS_435 => assumption); (case hQ_435 => exact fun _ _ _ h => h); (case hy_435 => (refine Or.inl ⟨by rfl, ?_⟩; (intro w hSw; (try dsimp only at hSw); go_simp) <;> with_reducible rfl)); (try simp only [Act.put, List.setIfInBounds_toArray, List.set_cons_zero, List.set_cons_succ]))
              (refine wpAnyH_take (i := 25) (oi := ?oi_436) (v := ?v_436) ?ho_436 ?hs_436 ?hf_436 ?hr_436 ?hQ_436 ?hy_436 ?hS_436 ?rest_436; (case hr_436 => kernel_rfl); (case hf_436 => kernel_rfl); (case hs_436 => kernel_rfl); (case ho_436 => (simp only [List.getElem?_toArray, List.getElem?_cons_succ, List.getElem?_cons_zero]; rfl)); (case hS_436 => assumption); (case hQ_436 => exact fun _ _ _ h => h); (case hy_436 => (refine Or.inl ⟨by rfl, ?_⟩; (intro w hSw; (try dsimp only at hSw); go_simp) <;> with_reducible rfl)); (try simp only [Act.put, List.setIfInBounds_toArray, List.set_cons_zero, List.set_cons_succ]))
              (refine wpAnyH_take (i := 26) (oi := ?oi_437) (v := ?v_437) ?ho_437 ?hs_437 ?hf_437 ?hr_437 ?hQ_437 ?hy_437 ?hS_437 ?rest_437; (case hr_437 => kernel_rfl); (case hf_437 => kernel_rfl); (case hs_437 => kernel_rfl); (case ho_437 => (simp only [List.getElem?_toArray, List.getElem?_cons_succ, List.getElem?_cons_zero]; rfl)); (case hS_437 => assumption); (case hQ_437 => exact fun _ _ _ h => h); (case hy_437 => (refine Or.inl ⟨by rfl, ?_⟩; (intro w hSw; (try dsimp only at hSw); go_simp) <;> with_reducible rfl)); (try simp only [Act.put, List.setIfInBounds_toArray, List.set_cons_zero, List.set_cons_succ]))
              refine wpAnyH_done (by kernel_rfl) ?_ _
              try rw [hstr]
              go_wp2_with fail
              refine (refSum BB _ (by have := hBBl.out; omega)).mono ?_
              rintro en wa ⟨rfl, hua⟩
              rw [hsm.out]
              go_wp2_with fail
              refine (refField (sm : Int) 4 _ (by omega) (by omega) (by decide)).mono ?_
              rintro en wb ⟨rfl, hub⟩
              have hUb := (hU.trans hua fun _ _ h => h).trans hub fun _ _ h => h
              go_wp2_with fail
              go_ret
              refine ⟨?_, hUb⟩
              rw [app_str, hslot.out]
              simp
      case hs418_1 =>
        intro K hK; have hmk := hmk0; go_simp; clear hmk
        try go_wp2_with fail
        refine hK.out _ _ ?_ (fun hHeld => ?_)
        · (try dsimp only); exact ⟨(Upd.alloc Non _ _).cell x0 fun h => h, (Upd.alloc Non _ _).cell x1 fun h => h, (Upd.alloc Non _ _).cell x4 fun h => h⟩
        clear hK K
        try simp only [Act.put, List.setIfInBounds_toArray, List.set_cons_zero, List.set_cons_succ]
        obtain ⟨hB, hU, x0, x1, x4⟩ := made_noughts hU x0 x1 x4 5 (108 - d.length) (by omega)
        refine wpAnyH_ready (rs := [9, 24]) (by kernel_rfl) (by simp) ?_
        refine AllReadyH.cons (o := ?oo438_0) ?ho438_0 ?hs438_0 (AllReadyH.cons (o := ?oo438_1) ?ho438_1 ?hs438_1 AllReadyH.nil)
        case ho438_0 => (simp only [List.getElem?_toArray, List.getElem?_cons_succ, List.getElem?_cons_zero]; rfl)
        case ho438_1 => (simp only [List.getElem?_toArray, List.getElem?_cons_succ, List.getElem?_cons_zero]; rfl)
        case hs438_0 =>
          intro K hK; go_simp; go_at_call 42; refine (refField q 8 _ (by omega) (by omega) (by decide)).mono ?_; rintro en wn ⟨rfl, hu⟩
          have x0 := hu.cell x0 fun h => h; have x1 := hu.cell x1 fun h => h; have x4 := hu.cell x4 fun h => h
          have hU := (by first | exact hU.trans hu fun _ _ h => h | exact (hU.then_drew).trans hu fun _ _ h => h : Upd Non w wn)
          try have hB := hB.non hu
          clear hu
          try go_wp2_with fail
          refine hK.out _ _ ?_ (fun hHeld => ?_)
          · (try dsimp only); first | exact ⟨x0, x1, x4⟩ | exact ⟨(Upd.alloc Non _ _).cell x0 fun h => h, (Upd.alloc Non _ _).cell x1 fun h => h, (Upd.alloc Non _ _).cell x4 fun h => h⟩
          clear hK K
          try simp only [Act.put, List.setIfInBounds_toArray, List.set_cons_zero, List.set_cons_succ]
          (refine wpAnyH_take (i := 10) (oi := ?oi_439) (v := ?v_439) ?ho_439 ?hs_439 ?hf_439 ?hr_439 ?hQ_439 ?hy_439 ?hS_439 ?rest_439; (case hr_439 => kernel_rfl); (case hf_439 => kernel_rfl); (case hs_439 => kernel_rfl); (case ho_439 => (simp only [List.getElem?_toArray, List.getElem?_cons_succ, List.getElem?_cons_zero]; rfl)); (case hS_439 => assumption); (case hQ_439 => exact fun _ _ _ h => h); (case hy_439 => (refine Or.inl ⟨by rfl, ?_⟩; (intro w hSw; (try dsimp only at hSw); go_simp) <;> with_reducible rfl)); (try simp only [Act.put, List.setIfInBounds_toArray, List.set_cons_zero, List.set_cons_succ]))
          refine wpAnyH_ready (rs := [14, 24]) (by kernel_rfl) (by simp) ?_
          refine AllReadyH.cons (o := ?oo440_0) ?ho440_0 ?hs440_0 (AllReadyH.cons (o := ?oo440_1) ?ho440_1 ?hs440_1 AllReadyH.nil)
          case ho440_0 => (simp only [List.getElem?_toArray, List.getElem?_cons_succ, List.getElem?_cons_zero]; rfl)
          case ho440_1 => (simp only [List.getElem?_toArray, List.getElem?_cons_succ, List.getElem?_cons_zero]; rfl)
          case hs440_0 =>
            intro K hK; go_simp; go_at_call 42; refine (refField (d.length : Int) 2 _ (by omega) (by omega) (by decide)).mono ?_; rintro en wn ⟨rfl, hu⟩
            have x0 := hu.cell x0 fun h => h; have x1 := hu.cell x1 fun h => h; have x4 := hu.cell x4 fun h => h
            have hU := (by first | exact hU.trans hu fun _ _ h => h | exact (hU.then_drew).trans hu fun _ _ h => h : Upd Non w wn)
            try have hB := hB.non hu
            clear hu
            try go_wp2_with fail
            refine hK.out _ _ ?_ (fun hHeld => ?_)
            · (try dsimp only); first | exact ⟨x0, x1, x4⟩ | exact ⟨(Upd.alloc Non _ _).cell x0 fun h => h, (Upd.alloc Non _ _).cell x1 fun h => h, (Upd.alloc Non _ _).cell x4 fun h => h⟩
            clear hK K
            try simp only [Act.put, List.setIfInBounds_toArray, List.set_cons_zero, List.set_cons_succ]
            (refine wpAnyH_take (i := 15) (oi := ?oi_441) (v := ?v_441) ?ho_441 ?hs_441 ?hf_441 ?hr_441 ?hQ_441 ?hy_441 ?hS_441 ?rest_441; (case hr_441 => kernel_rfl); (case hf_441 => kernel_rfl); (case hs_441 => kernel_rfl); (case ho_441 => (simp only [List.getElem?_toArray, List.getElem?_cons_succ, List.getElem?_cons_zero]; rfl)); (case hS_441 => assumption); (case hQ_441 => exact fun _ _ _ h => h); (case hy_441 => (refine Or.inl ⟨by rfl, ?_⟩; (intro w hSw; (try dsimp only at hSw); go_simp) <;> with_reducible rfl)); (try simp only [Act.put, List.setIfInBounds_toArray, List.set_cons_zero, List.set_cons_succ]))
            (refine wpAnyH_take (i := 18) (oi := ?oi_442) (v := ?v_442) ?ho_442 ?hs_442 ?hf_442 ?hr_442 ?hQ_442 ?hy_442 ?hS_442 ?rest_442; (case hr_442 => kernel_rfl); (case hf_442 => kernel_rfl); (case hs_442 => kernel_rfl); (case ho_442 => (simp only [List.getElem?_toArray, List.getElem?_cons_succ, List.getElem?_cons_zero]; rfl)); (case hS_442 => assumption); (case hQ_442 => exact fun _ _ _ h => h); (case hy_442 => (refine Or.inl ⟨by rfl, ?_⟩; (intro w hSw; (try dsimp only at hSw); go_simp) <;> with_reducible rfl)); (try simp only [Act.put, List.setIfInBounds_toArray, List.set_cons_zero, List.set_cons_succ]))
            refine wpAnyH_ready (rs := [24]) (by kernel_rfl) (by simp) ?_
            refine AllReadyH.cons (o := ?oo443_0) ?ho443_0 ?hs443_0 AllReadyH.nil
            case ho443_0 => (simp only [List.getElem?_toArray, List.getElem?_cons_succ, List.getElem?_cons_zero]; rfl)
            case hs443_0 =>
              intro K hK; have hst := run_str (P := Try.prog) _ 42 9 5 Try.underlying42 Try.underlying5 Try.underlying9 _ _ hB; go_simp; clear hst
              try go_wp2_with fail
              refine hK.out _ _ ?_ (fun hHeld => ?_)
              · (try dsimp only); first | exact ⟨x0, x1, x4⟩ | exact ⟨(Upd.alloc Non _ _).cell x0 fun h => h, (Upd.alloc Non _ _).cell x1 fun h => h, (Upd.alloc Non _ _).cell x4 fun h => h⟩
              clear hK K
              try simp only [Act.put, List.setIfInBounds_toArray, List.set_cons_zero, List.set_cons_succ]
              (refine wpAnyH_take (i := 25) (oi := ?oi_444) (v := ?v_444) ?ho_444 ?hs_444 ?hf_444 ?hr_444 ?hQ_444 ?hy_444 ?hS_444 ?rest_444; (case hr_444 => kernel_rfl); (case hf_444 => kernel_rfl); (case hs_444 => kernel_rfl); (case ho_444 => (simp only [List.getElem?_toArray, List.getElem?_cons_succ, List.getElem?_cons_zero]; rfl)); (case hS_444 => assumption); (case hQ_444 => exact fun _ _ _ h => h); (case hy_444 => (refine Or.inl ⟨by rfl, ?_⟩; (intro w hSw; (try dsimp only at hSw); go_simp) <;> with_reducible rfl)); (try simp only [Act.put, List.setIfInBounds_toArray, List.set_cons_zero, List.set_cons_succ]))
              (refine wpAnyH_take (i := 26) (oi := ?oi_445) (v := ?v_445) ?ho_445 ?hs_445 ?hf_445 ?hr_445 ?hQ_445 ?hy_445 ?hS_445 ?rest_445; (case hr_445 => kernel_rfl); (case hf_445 => kernel_rfl); (case hs_445 => kernel_rfl); (case ho_445 => (simp only [List.getElem?_toArray, List.getElem?_cons_succ, List.getElem?_cons_zero]; rfl)); (case hS_445 => assumption); (case hQ_445 => exact fun _ _ _ h => h); (case hy_445 => (refine Or.inl ⟨by rfl, ?_⟩; (intro w hSw; (try dsimp only at hSw); go_simp) <;> with_reducible rfl)); (try simp only [Act.put, List.setIfInBounds_toArray, List.set_cons_zero, List.set_cons_succ]))
              refine wpAnyH_done (by kernel_rfl) ?_ _
              try rw [hstr]
              go_wp2_with fail
              refine (refSum BB _ (by have := hBBl.out; omega)).mono ?_
              rintro en wa ⟨rfl, hua⟩
              rw [hsm.out]
              go_wp2_with fail
              refine (refField (sm : Int) 4 _ (by omega) (by omega) (by decide)).mono ?_
              rintro en wb ⟨rfl, hub⟩
              have hUb := (hU.trans hua fun _ _ h => h).trans hub fun _ _ h => h
              go_wp2_with fail
              go_ret
              refine ⟨?_, hUb⟩
              rw [app_str, hslot.out]
              simp
          case hs440_1 =>
            intro K hK; have hst := run_str (P := Try.prog) _ 42 9 5 Try.underlying42 Try.underlying5 Try.underlying9 _ _ hB; go_simp; clear hst
            try go_wp2_with fail
            refine hK.out _ _ ?_ (fun hHeld => ?_)
            · (try dsimp only); first | exact ⟨x0, x1, x4⟩ | exact ⟨(Upd.alloc Non _ _).cell x0 fun h => h, (Upd.alloc Non _ _).cell x1 fun h => h, (Upd.alloc Non _ _).cell x4 fun h => h⟩
            clear hK K
            try simp only [Act.put, List.setIfInBounds_toArray, List.set_cons_zero, List.set_cons_succ]
            refine wpAnyH_ready (rs := [14]) (by kernel_rfl) (by simp) ?_
            refine AllReadyH.cons (o := ?oo446_0) ?ho446_0 ?hs446_0 AllReadyH.nil
            case ho446_0 => (simp only [List.getElem?_toArray, List.getElem?_cons_succ, List.getElem?_cons_zero]; rfl)
            case hs446_0 =>
              intro K hK; go_simp; go_at_call 42; refine (refField (d.length : Int) 2 _ (by omega) (by omega) (by decide)).mono ?_; rintro en wn ⟨rfl, hu⟩
              have x0 := hu.cell x0 fun h => h; have x1 := hu.cell x1 fun h => h; have x4 := hu.cell x4 fun h => h
              have hU := (by first | exact hU.trans hu fun _ _ h => h | exact (hU.then_drew).trans hu fun _ _ h => h : Upd Non w wn)
              try have hB := hB.non hu
              clear hu
              try go_wp2_with fail
              refine hK.out _ _ ?_ (fun hHeld => ?_)
              · (try dsimp only); first | exact ⟨x0, x1, x4⟩ | exact ⟨(Upd.alloc Non _ _).cell x0 fun h => h, (Upd.alloc Non _ _).cell x1 fun h => h, (Upd.alloc Non _ _).cell x4 fun h => h⟩
              clear hK K
              try simp only [Act.put, List.setIfInBounds_toArray, List.set_cons_zero, List.set_cons_succ]
              (refine wpAnyH_take (i := 15) (oi := ?oi_447) (v := ?v_447) ?ho_447 ?hs_447 ?hf_447 ?hr_447 ?hQ_447 ?hy_447 ?hS_447 ?rest_447; (case hr_447 => kernel_rfl); (case hf_447 => kernel_rfl); (case hs_447 => kernel_rfl); (case ho_447 => (simp only [List.getElem?_toArray, List.getElem?_cons_succ, List.getElem?_cons_zero]; rfl)); (case hS_447 => assumption); (case hQ_447 => exact fun _ _ _ h => h); (case hy_447 => (refine Or.inl ⟨by rfl, ?_⟩; (intro w hSw; (try dsimp only at hSw); go_simp) <;> with_reducible rfl)); (try simp only [Act.put, List.setIfInBounds_toArray, List.set_cons_zero, List.set_cons_succ]))
              (refine wpAnyH_take (i := 18) (oi := ?oi_448) (v := ?v_448) ?ho_448 ?hs_448 ?hf_448 ?hr_448 ?hQ_448 ?hy_448 ?hS_448 ?rest_448; (case hr_448 => kernel_rfl); (case hf_448 => kernel_rfl); (case hs_448 => kernel_rfl); (case ho_448 => (simp only [List.getElem?_toArray, List.getElem?_cons_succ, List.getElem?_cons_zero]; rfl)); (case hS_448 => assumption); (case hQ_448 => exact fun _ _ _ h => h); (case hy_448 => (refine Or.inl ⟨by rfl, ?_⟩; (intro w hSw; (try dsimp only at hSw); go_simp) <;> with_reducible rfl)); (try simp only [Act.put, List.setIfInBounds_toArray, List.set_cons_zero, List.set_cons_succ]))
              (refine wpAnyH_take (i := 25) (oi := ?oi_449) (v := ?v_449) ?ho_449 ?hs_449 ?hf_449 ?hr_449 ?hQ_449 ?hy_449 ?hS_449 ?rest_449; (case hr_449 => kernel_rfl); (case hf_449 => kernel_rfl); (case hs_449 => kernel_rfl); (case ho_449 => (simp only [List.getElem?_toArray, List.getElem?_cons_succ, List.getElem?_cons_zero]; rfl)); (case hS_449 => assumption); (case hQ_449 => exact fun _ _ _ h => h); (case hy_449 => (refine Or.inl ⟨by rfl, ?_⟩; (intro w hSw; (try dsimp only at hSw); go_simp) <;> with_reducible rfl)); (try simp only [Act.put, List.setIfInBounds_toArray, List.set_cons_zero, List.set_cons_succ]))
              (refine wpAnyH_take (i := 26) (oi := ?oi_450) (v := ?v_450) ?ho_450 ?hs_450 ?hf_450 ?hr_450 ?hQ_450 ?hy_450 ?hS_450 ?rest_450; (case hr_450 => kernel_rfl); (case hf_450 => kernel_rfl); (case hs_450 => kernel_rfl); (case ho_450 => (simp only [List.getElem?_toArray, List.getElem?_cons_succ, List.getElem?_cons_zero]; rfl)); (case hS_450 => assumption); (case hQ_450 => exact fun _ _ _ h => h); (case hy_450 => (refine Or.inl ⟨by rfl, ?_⟩; (intro w hSw; (try dsimp only at hSw); go_simp) <;> with_reducible rfl)); (try simp only [Act.put, List.setIfInBounds_toArray, List.set_cons_zero, List.set_cons_succ]))
              refine wpAnyH_done (by kernel_rfl) ?_ _
              try rw [hstr]
              go_wp2_with fail
              refine (refSum BB _ (by have := hBBl.out; omega)).mono ?_
              rintro en wa ⟨rfl, hua⟩
              rw [hsm.out]
              go_wp2_with fail
              refine (refField (sm : Int) 4 _ (by omega) (by omega) (by decide)).mono ?_
              rintro en wb ⟨rfl, hub⟩
              have hUb := (hU.trans hua fun _ _ h => h).trans hub fun _ _ h => h
              go_wp2_with fail
              go_ret
              refine ⟨?_, hUb⟩
              rw [app_str, hslot.out]
              simp
        case hs438_1 =>
          intro K hK; have hst := run_str (P := Try.prog) _ 42 9 5 Try.underlying42 Try.underlying5 Try.underlying9 _ _ hB; go_simp; clear hst
          try go_wp2_with fail
          refine hK.out _ _ ?_ (fun hHeld => ?_)
          · (try dsimp only); first | exact ⟨x0, x1, x4⟩ | exact ⟨(Upd.alloc Non _ _).cell x0 fun h => h, (Upd.alloc Non _ _).cell x1 fun h => h, (Upd.alloc Non _ _).cell x4 fun h => h⟩
          clear hK K
          try simp only [Act.put, List.setIfInBounds_toArray, List.set_cons_zero, List.set_cons_succ]
          refine wpAnyH_ready (rs := [9]) (by kernel_rfl) (by simp) ?_
          refine AllReadyH.cons (o := ?oo451_0) ?ho451_0 ?hs451_0 AllReadyH.nil
          case ho451_0 => (simp only [List.getElem?_toArray, List.getElem?_cons_succ, List.getElem?_cons_zero]; rfl)
          case hs451_0 =>
            intro K hK; go_simp; go_at_call 42; refine (refField q 8 _ (by omega) (by omega) (by decide)).mono ?_; rintro en wn ⟨rfl, hu⟩
            have x0 := hu.cell x0 fun h => h; have x1 := hu.cell x1 fun h => h; have x4 := hu.cell x4 fun h => h
            have hU := (by first | exact hU.trans hu fun _ _ h => h | exact (hU.then_drew).trans hu fun _ _ h => h : Upd Non w wn)
            try have hB := hB.non hu
            clear hu
            try go_wp2_with fail
            refine hK.out _ _ ?_ (fun hHeld => ?_)
            · (try dsimp only); first | exact ⟨x0, x1, x4⟩ | exact ⟨(Upd.alloc Non _ _).cell x0 fun h => h, (Upd.alloc Non _ _).cell x1 fun h => h, (Upd.alloc Non _ _).cell x4 fun h => h⟩
            clear hK K
            try simp only [Act.put, List.setIfInBounds_toArray, List.set_cons_zero, List.set_cons_succ]
            (refine wpAnyH_take (i := 10) (oi := ?oi_452) (v := ?v_452) ?ho_452 ?hs_452 ?hf_452 ?hr_452 ?hQ_452 ?hy_452 ?hS_452 ?rest_452; (case hr_452 => kernel_rfl); (case hf_452 => kernel_rfl); (case hs_452 => kernel_rfl); (case ho_452 => (simp only [List.getElem?_toArray, List.getElem?_cons_succ, List.getElem?_cons_zero]; rfl)); (case hS_452 => assumption); (case hQ_452 => exact fun _ _ _ h => h); (case hy_452 => (refine Or.inl ⟨by rfl, ?_⟩; (intro w hSw; (try dsimp only at hSw); go_simp) <;> with_reducible rfl)); (try simp only [Act.put, List.setIfInBounds_toArray, List.set_cons_zero, List.set_cons_succ]))
            refine wpAnyH_ready (rs := [14]) (by kernel_rfl) (by simp) ?_
            refine AllReadyH.cons (o := ?oo453_0) ?ho453_0 ?hs453_0 AllReadyH.nil
            case ho453_0 => (simp only [List.getElem?_toArray, List.getElem?_cons_succ, List.getElem?_cons_zero]; rfl)
            case hs453_0 =>
              intro K hK; go_simp; go_at_call 42; refine (refField (d.length : Int) 2 _ (by omega) (by omega) (by decide)).mono ?_; rintro en wn ⟨rfl, hu⟩
              have x0 := hu.cell x0 fun h => h; have x1 := hu.cell x1 fun h => h; have x4 := hu.cell x4 fun h => h
              have hU := (by first | exact hU.trans hu fun _ _ h => h | exact (hU.then_drew).trans hu fun _ _ h => h : Upd Non w wn)
              try have hB := hB.non hu
              clear hu
              try go_wp2_with fail
              refine hK.out _ _ ?_ (fun hHeld => ?_)
              · (try dsimp only); first | exact ⟨x0, x1, x4⟩ | exact ⟨(Upd.alloc Non _ _).cell x0 fun h => h, (Upd.alloc Non _ _).cell x1 fun h => h, (Upd.alloc Non _ _).cell x4 fun h => h⟩
              clear hK K
              try simp only [Act.put, List.setIfInBounds_toArray, List.set_cons_zero, List.set_cons_succ]
              (refine wpAnyH_take (i := 15) (oi := ?oi_454) (v := ?v_454) ?ho_454 ?hs_454 ?hf_454 ?hr_454 ?hQ_454 ?hy_454 ?hS_454 ?rest_454; (case hr_454 => kernel_rfl); (case hf_454 => kernel_rfl); (case hs_454 => kernel_rfl); (case ho_454 => (simp only [List.getElem?_toArray, List.getElem?_cons_succ, List.getElem?_cons_zero]; rfl)); (case hS_454 => assumption); (case hQ_454 => exact fun _ _ _ h => h); (case hy_454 => (refine Or.inl ⟨by rfl, ?_⟩; (intro w hSw; (try dsimp only at hSw); go_simp) <;> with_reducible rfl)); (try simp only [Act.put, List.setIfInBounds_toArray, List.set_cons_zero, List.set_cons_succ]))
              (refine wpAnyH_take (i := 18) (oi := ?oi_455) (v := ?v_455) ?ho_455 ?hs_455 ?hf_455 ?hr_455 ?hQ_455 ?hy_455 ?hS_455 ?rest_455; (case hr_455 => kernel_rfl); (case hf_455 => kernel_rfl); (case hs_455 => kernel_rfl); (case ho_455 => (simp only [List.getElem?_toArray, List.getElem?_cons_succ, List.getElem?_cons_zero]; rfl)); (case hS_455 => assumption); (case hQ_455 => exact fun _ _ _ h => h); (case hy_455 => (refine Or.inl ⟨by rfl, ?_⟩; (intro w hSw; (try dsimp only at hSw); go_simp) <;> with_reducible rfl)); (try simp only [Act.put, List.setIfInBounds_toArray, List.set_cons_zero, List.set_cons_succ]))
              (refine wpAnyH_take (i := 25) (oi := ?oi_456) (v := ?v_456) ?ho_456 ?hs_456 ?hf_456 ?hr_456 ?hQ_456 ?hy_456 ?hS_456 ?rest_456; (case hr_456 => kernel_rfl); (case hf_456 => kernel_rfl); (case hs_456 => kernel_rfl); (case ho_456 => (simp only [List.getElem?_toArray, List.getElem?_cons_succ, List.getElem?_cons_zero]; rfl)); (case hS_456 => assumption); (case hQ_456 => exact fun _ _ _ h => h); (case hy_456 => (refine Or.inl ⟨by rfl, ?_⟩; (intro w hSw; (try dsimp only at hSw); go_simp) <;> with_reducible rfl)); (try simp only [Act.put, List.setIfInBounds_toArray, List.set_cons_zero, List.set_cons_succ]))
              (refine wpAnyH_take (i := 26) (oi := ?oi_457) (v := ?v_457) ?ho_457 ?hs_457 ?hf_457 ?hr_457 ?hQ_457 ?hy_457 ?hS_457 ?rest_457; (case hr_457 => kernel_rfl); (case hf_457 => kernel_rfl); (case hs_457 => kernel_rfl); (case ho_457 => (simp only [List.getElem?_toArray, List.getElem?_cons_succ, List.getElem?_cons_zero]; rfl)); (case hS_457 => assumption); (case hQ_457 => exact fun _ _ _ h => h); (case hy_457 => (refine Or.inl ⟨by rfl, ?_⟩; (intro w hSw; (try dsimp only at hSw); go_simp) <;> with_reducible rfl)); (try simp only [Act.put, List.setIfInBounds_toArray, List.set_cons_zero, List.set_cons_succ]))
              refine wpAnyH_done (by kernel_rfl) ?_ _
              try rw [hstr]
              go_wp2_with fail
              refine (refSum BB _ (by have := hBBl.out; omega)).mono ?_
              rintro en wa ⟨rfl, hua⟩
              rw [hsm.out]
              go_wp2_with fail
              refine (refField (sm : Int) 4 _ (by omega) (by omega) (by decide)).mono ?_
              rintro en wb ⟨rfl, hub⟩
              have hUb := (hU.trans hua fun _ _ h => h).trans hub fun _ _ h => h
              go_wp2_with fail
              go_ret
              refine ⟨?_, hUb⟩
              rw [app_str, hslot.out]
              simp
    case hs416_1 =>
      intro K hK; have hmk := hmk0; go_simp; clear hmk
      try go_wp2_with fail
      refine hK.out _ _ ?_ (fun hHeld => ?_)
      · (try dsimp only); exact ⟨(Upd.alloc Non _ _).cell x0 fun h => h, (Upd.alloc Non _ _).cell x1 fun h => h, (Upd.alloc Non _ _).cell x4 fun h => h⟩
      clear hK K
      try simp only [Act.put, List.setIfInBounds_toArray, List.set_cons_zero, List.set_cons_succ]
      obtain ⟨hB, hU, x0, x1, x4⟩ := made_noughts hU x0 x1 x4 5 (108 - d.length) (by omega)
      refine wpAnyH_ready (rs := [5, 24]) (by kernel_rfl) (by simp) ?_
      refine AllReadyH.cons (o := ?oo458_0) ?ho458_0 ?hs458_0 (AllReadyH.cons (o := ?oo458_1) ?ho458_1 ?hs458_1 AllReadyH.nil)
      case ho458_0 => (simp only [List.getElem?_toArray, List.getElem?_cons_succ, List.getElem?_cons_zero]; rfl)
      case ho458_1 => (simp only [List.getElem?_toArray, List.getElem?_cons_succ, List.getElem?_cons_zero]; rfl)
      case hs458_0 =>
        intro K hK; go_simp; go_at_call 42; refine (refField e 4 _ (by omega) (by omega) (by decide)).mono ?_; rintro en wn ⟨rfl, hu⟩
        have x0 := hu.cell x0 fun h => h; have x1 := hu.cell x1 fun h => h; have x4 := hu.cell x4 fun h => h
        have hU := (by first | exact hU.trans hu fun _ _ h => h | exact (hU.then_drew).trans hu fun _ _ h => h : Upd Non w wn)
        try have hB := hB.non hu
        clear hu
        try go_wp2_with fail
        refine hK.out _ _ ?_ (fun hHeld => ?_)
        · (try dsimp only); first | exact ⟨x0, x1, x4⟩ | exact ⟨(Upd.alloc Non _ _).cell x0 fun h => h, (Upd.alloc Non _ _).cell x1 fun h => h, (Upd.alloc Non _ _).cell x4 fun h => h⟩
        clear hK K
        try simp only [Act.put, List.setIfInBounds_toArray, List.set_cons_zero, List.set_cons_succ]
        (refine wpAnyH_take (i := 6) (oi := ?oi_459) (v := ?v_459) ?ho_459 ?hs_459 ?hf_459 ?hr_459 ?hQ_459 ?hy_459 ?hS_459 ?rest_459; (case hr_459 => kernel_rfl); (case hf_459 => kernel_rfl); (case hs_459 => kernel_rfl); (case ho_459 => (simp only [List.getElem?_toArray, List.getElem?_cons_succ, List.getElem?_cons_zero]; rfl)); (case hS_459 => assumption); (case hQ_459 => exact fun _ _ _ h => h); (case hy_459 => (refine Or.inl ⟨by rfl, ?_⟩; (intro w hSw; (try dsimp only at hSw); go_simp) <;> with_reducible rfl)); (try simp only [Act.put, List.setIfInBounds_toArray, List.set_cons_zero, List.set_cons_succ]))
        refine wpAnyH_ready (rs := [9, 24]) (by kernel_rfl) (by simp) ?_
        refine AllReadyH.cons (o := ?oo460_0) ?ho460_0 ?hs460_0 (AllReadyH.cons (o := ?oo460_1) ?ho460_1 ?hs460_1 AllReadyH.nil)
        case ho460_0 => (simp only [List.getElem?_toArray, List.getElem?_cons_succ, List.getElem?_cons_zero]; rfl)
        case ho460_1 => (simp only [List.getElem?_toArray, List.getElem?_cons_succ, List.getElem?_cons_zero]; rfl)
        case hs460_0 =>
          intro K hK; go_simp; go_at_call 42; refine (refField q 8 _ (by omega) (by omega) (by decide)).mono ?_; rintro en wn ⟨rfl, hu⟩
          have x0 := hu.cell x0 fun h => h; have x1 := hu.cell x1 fun h => h; have x4 := hu.cell x4 fun h => h
          have hU := (by first | exact hU.trans hu fun _ _ h => h | exact (hU.then_drew).trans hu fun _ _ h => h : Upd Non w wn)
          try have hB := hB.non hu
          clear hu
          try go_wp2_with fail
          refine hK.out _ _ ?_ (fun hHeld => ?_)
          · (try dsimp only); first | exact ⟨x0, x1, x4⟩ | exact ⟨(Upd.alloc Non _ _).cell x0 fun h => h, (Upd.alloc Non _ _).cell x1 fun h => h, (Upd.alloc Non _ _).cell x4 fun h => h⟩
          clear hK K
          try simp only [Act.put, List.setIfInBounds_toArray, List.set_cons_zero, List.set_cons_succ]
          (refine wpAnyH_take (i := 10) (oi := ?oi_461) (v := ?v_461) ?ho_461 ?hs_461 ?hf_461 ?hr_461 ?hQ_461 ?hy_461 ?hS_461 ?rest_461; (case hr_461 => kernel_rfl); (case hf_461 => kernel_rfl); (case hs_461 => kernel_rfl); (case ho_461 => (simp only [List.getElem?_toArray, List.getElem?_cons_succ, List.getElem?_cons_zero]; rfl)); (case hS_461 => assumption); (case hQ_461 => exact fun _ _ _ h => h); (case hy_461 => (refine Or.inl ⟨by rfl, ?_⟩; (intro w hSw; (try dsimp only at hSw); go_simp) <;> with_reducible rfl)); (try simp only [Act.put, List.setIfInBounds_toArray, List.set_cons_zero, List.set_cons_succ]))
          refine wpAnyH_ready (rs := [14, 24]) (by kernel_rfl) (by simp) ?_
          refine AllReadyH.cons (o := ?oo462_0) ?ho462_0 ?hs462_0 (AllReadyH.cons (o := ?oo462_1) ?ho462_1 ?hs462_1 AllReadyH.nil)
          case ho462_0 => (simp only [List.getElem?_toArray, List.getElem?_cons_succ, List.getElem?_cons_zero]; rfl)
          case ho462_1 => (simp only [List.getElem?_toArray, List.getElem?_cons_succ, List.getElem?_cons_zero]; rfl)
          case hs462_0 =>
            intro K hK; go_simp; go_at_call 42; refine (refField (d.length : Int) 2 _ (by omega) (by omega) (by decide)).mono ?_; rintro en wn ⟨rfl, hu⟩
            have x0 := hu.cell x0 fun h => h; have x1 := hu.cell x1 fun h => h; have x4 := hu.cell x4 fun h => h
            have hU := (by first | exact hU.trans hu fun _ _ h => h | exact (hU.then_drew).trans hu fun _ _ h => h : Upd Non w wn)
            try have hB := hB.non hu
            clear hu
            try go_wp2_with fail
            refine hK.out _ _ ?_ (fun hHeld => ?_)
            · (try dsimp only); first | exact ⟨x0, x1, x4⟩ | exact ⟨(Upd.alloc Non _ _).cell x0 fun h => h, (Upd.alloc Non _ _).cell x1 fun h => h, (Upd.alloc Non _ _).cell x4 fun h => h⟩
            clear hK K
            try simp only [Act.put, List.setIfInBounds_toArray, List.set_cons_zero, List.set_cons_succ]
            (refine wpAnyH_take (i := 15) (oi := ?oi_463) (v := ?v_463) ?ho_463 ?hs_463 ?hf_463 ?hr_463 ?hQ_463 ?hy_463 ?hS_463 ?rest_463; (case hr_463 => kernel_rfl); (case hf_463 => kernel_rfl); (case hs_463 => kernel_rfl); (case ho_463 => (simp only [List.getElem?_toArray, List.getElem?_cons_succ, List.getElem?_cons_zero]; rfl)); (case hS_463 => assumption); (case hQ_463 => exact fun _ _ _ h => h); (case hy_463 => (refine Or.inl ⟨by rfl, ?_⟩; (intro w hSw; (try dsimp only at hSw); go_simp) <;> with_reducible rfl)); (try simp only [Act.put, List.setIfInBounds_toArray, List.set_cons_zero, List.set_cons_succ]))
            (refine wpAnyH_take (i := 18) (oi := ?oi_464) (v := ?v_464) ?ho_464 ?hs_464 ?hf_464 ?hr_464 ?hQ_464 ?hy_464 ?hS_464 ?rest_464; (case hr_464 => kernel_rfl); (case hf_464 => kernel_rfl); (case hs_464 => kernel_rfl); (case ho_464 => (simp only [List.getElem?_toArray, List.getElem?_cons_succ, List.getElem?_cons_zero]; rfl)); (case hS_464 => assumption); (case hQ_464 => exact fun _ _ _ h => h); (case hy_464 => (refine Or.inl ⟨by rfl, ?_⟩; (intro w hSw; (try dsimp only at hSw); go_simp) <;> with_reducible rfl)); (try simp only [Act.put, List.setIfInBounds_toArray, List.set_cons_zero, List.set_cons_succ]))
            refine wpAnyH_ready (rs := [24]) (by kernel_rfl) (by simp) ?_
            refine AllReadyH.cons (o := ?oo465_0) ?ho465_0 ?hs465_0 AllReadyH.nil
            case ho465_0 => (simp only [List.getElem?_toArray, List.getElem?_cons_succ, List.getElem?_cons_zero]; rfl)
            case hs465_0 =>
              intro K hK; have hst := run_str (P := Try.prog) _ 42 9 5 Try.underlying42 Try.underlying5 Try.underlying9 _ _ hB; go_simp; clear hst
              try go_wp2_with fail
              refine hK.out _ _ ?_ (fun hHeld => ?_)
              · (try dsimp only); first | exact ⟨x0, x1, x4⟩ | exact ⟨(Upd.alloc Non _ _).cell x0 fun h => h, (Upd.alloc Non _ _).cell x1 fun h => h, (Upd.alloc Non _ _).cell x4 fun h => h⟩
              clear hK K
              try simp only [Act.put, List.setIfInBounds_toArray, List.set_cons_zero, List.set_cons_succ]
              (refine wpAnyH_take (i := 25) (oi := ?oi_466) (v := ?v_466) ?ho_466 ?hs_466 ?hf_466 ?hr_466 ?hQ_466 ?hy_466 ?hS_466 ?rest_466; (case hr_466 => kernel_rfl); (case hf_466 => kernel_rfl); (case hs_466 => kernel_rfl); (case ho_466 => (simp only [List.getElem?_toArray, List.getElem?_cons_succ, List.getElem?_cons_zero]; rfl)); (case hS_466 => assumption); (case hQ_466 => exact fun _ _ _ h => h); (case hy_466 => (refine Or.inl ⟨by rfl, ?_⟩; (intro w hSw; (try dsimp only at hSw); go_simp) <;> with_reducible rfl)); (try simp only [Act.put, List.setIfInBounds_toArray, List.set_cons_zero, List.set_cons_succ]))
              (refine wpAnyH_take (i := 26) (oi := ?oi_467) (v := ?v_467) ?ho_467 ?hs_467 ?hf_467 ?hr_467 ?hQ_467 ?hy_467 ?hS_467 ?rest_467; (case hr_467 => kernel_rfl); (case hf_467 => kernel_rfl); (case hs_467 => kernel_rfl); (case ho_467 => (simp only [List.getElem?_toArray, List.getElem?_cons_succ, List.getElem?_cons_zero]; rfl)); (case hS_467 => assumption); (case hQ_467 => exact fun _ _ _ h => h); (case hy_467 => (refine Or.inl ⟨by rfl, ?_⟩; (intro w hSw; (try dsimp only at hSw); go_simp) <;> with_reducible rfl)); (try simp only [Act.put, List.setIfInBounds_toArray, List.set_cons_zero, List.set_cons_succ]))
              refine wpAnyH_done (by kernel_rfl) ?_ _
              try rw [hstr]
              go_wp2_with fail
              refine (refSum BB _ (by have := hBBl.out; omega)).mono ?_
              rintro en wa ⟨rfl, hua⟩
              rw [hsm.out]
              go_wp2_with fail
              refine (refField (sm : Int) 4 _ (by omega) (by omega) (by decide)).mono ?_
              rintro en wb ⟨rfl, hub⟩
              have hUb := (hU.trans hua fun _ _ h => h).trans hub fun _ _ h => h
              go_wp2_with fail
              go_ret
              refine ⟨?_, hUb⟩
              rw [app_str, hslot.out]
              simp
          case hs462_1 =>
            intro K hK; have hst := run_str (P := Try.prog) _ 42 9 5 Try.underlying42 Try.underlying5 Try.underlying9 _ _ hB; go_simp; clear hst
            try go_wp2_with fail
            refine hK.out _ _ ?_ (fun hHeld => ?_)
            · (try dsimp only); first | exact ⟨x0, x1, x4⟩ | exact ⟨(Upd.alloc Non _ _).cell x0 fun h => h, (Upd.alloc Non _ _).cell x1 fun h => h, (Upd.alloc Non _ _).cell x4 fun h => h⟩
            clear hK K
            try simp only [Act.put, List.setIfInBounds_toArray, List.set_cons_zero, List.set_cons_succ]
            refine wpAnyH_ready (rs := [14]) (by kernel_rfl) (by simp) ?_
            refine AllReadyH.cons (o := ?oo468_0) ?ho468_0 ?hs468_0 AllReadyH.nil
            case ho468_0 => (simp only [List.getElem?_toArray, List.getElem?_cons_succ, List.getElem?_cons_zero]; rfl)
            case hs468_0 =>
              intro K hK; go_simp; go_at_call 42; refine (refField (d.length : Int) 2 _ (by omega) (by omega) (by decide)).mono ?_; rintro en wn ⟨rfl, hu⟩
              have x0 := hu.cell x0 fun h => h; have x1 := hu.cell x1 fun h => h; have x4 := hu.cell x4 fun h => h
              have hU := (by first | exact hU.trans hu fun _ _ h => h | exact (hU.then_drew).trans hu fun _ _ h => h : Upd Non w wn)
              try have hB := hB.non hu
              clear hu
              try go_wp2_with fail
              refine hK.out _ _ ?_ (fun hHeld => ?_)
              · (try dsimp only); first | exact ⟨x0, x1, x4⟩ | exact ⟨(Upd.alloc Non _ _).cell x0 fun h => h, (Upd.alloc Non _ _).cell x1 fun h => h, (Upd.alloc Non _ _).cell x4 fun h => h⟩
              clear hK K
              try simp only [Act.put, List.setIfInBounds_toArray, List.set_cons_zero, List.set_cons_succ]
              (refine wpAnyH_take (i := 15) (oi := ?oi_469) (v := ?v_469) ?ho_469 ?hs_469 ?hf_469 ?hr_469 ?hQ_469 ?hy_469 ?hS_469 ?rest_469; (case hr_469 => kernel_rfl); (case hf_469 => kernel_rfl); (case hs_469 => kernel_rfl); (case ho_469 => (simp only [List.getElem?_toArray, List.getElem?_cons_succ, List.getElem?_cons_zero]; rfl)); (case hS_469 => assumption); (case hQ_469 => exact fun _ _ _ h => h); (case hy_469 => (refine Or.inl ⟨by rfl, ?_⟩; (intro w hSw; (try dsimp only at hSw); go_simp) <;> with_reducible rfl)); (try simp only [Act.put, List.setIfInBounds_toArray, List.set_cons_zero, List.set_cons_succ]))
              (refine wpAnyH_take (i := 18) (oi := ?oi_470) (v := ?v_470) ?ho_470 ?hs_470 ?hf_470 ?hr_470 ?hQ_470 ?hy_470 ?hS_470 ?rest_470; (case hr_470 => kernel_rfl); (case hf_470 => kernel_rfl); (case hs_470 => kernel_rfl); (case ho_470 => (simp only [List.getElem?_toArray, List.getElem?_cons_succ, List.getElem?_cons_zero]; rfl)); (case hS_470 => assumption); (case hQ_470 => exact fun _ _ _ h => h); (case hy_470 => (refine Or.inl ⟨by rfl, ?_⟩; (intro w hSw; (try dsimp only at hSw); go_simp) <;> with_reducible rfl)); (try simp only [Act.put, List.setIfInBounds_toArray, List.set_cons_zero, List.set_cons_succ]))
              (refine wpAnyH_take (i := 25) (oi := ?oi_471) (v := ?v_471) ?ho_471 ?hs_471 ?hf_471 ?hr_471 ?hQ_471 ?hy_471 ?hS_471 ?rest_471; (case hr_471 => kernel_rfl); (case hf_471 => kernel_rfl); (case hs_471 => kernel_rfl); (case ho_471 => (simp only [List.getElem?_toArray, List.getElem?_cons_succ, List.getElem?_cons_zero]; rfl)); (case hS_471 => assumption); (case hQ_471 => exact fun _ _ _ h => h); (case hy_471 => (refine Or.inl ⟨by rfl, ?_⟩; (intro w hSw; (try dsimp only at hSw); go_simp) <;> with_reducible rfl)); (try simp only [Act.put, List.setIfInBounds_toArray, List.set_cons_zero, List.set_cons_succ]))
              (refine wpAnyH_take (i := 26) (oi := ?oi_472) (v := ?v_472) ?ho_472 ?hs_472 ?hf_472 ?hr_472 ?hQ_472 ?hy_472 ?hS_472 ?rest_472; (case hr_472 => kernel_rfl); (case hf_472 => kernel_rfl); (case hs_472 => kernel_rfl); (case ho_472 => (simp only [List.getElem?_toArray, List.getElem?_cons_succ, List.getElem?_cons_zero]; rfl)); (case hS_472 => assumption); (case hQ_472 => exact fun _ _ _ h => h); (case hy_472 => (refine Or.inl ⟨by rfl, ?_⟩; (intro w hSw; (try dsimp only at hSw); go_simp) <;> with_reducible rfl)); (try simp only [Act.put, List.setIfInBounds_toArray, List.set_cons_zero, List.set_cons_succ]))
              refine wpAnyH_done (by kernel_rfl) ?_ _
              try rw [hstr]
              go_wp2_with fail
              refine (refSum BB _ (by have := hBBl.out; omega)).mono ?_
              rintro en wa ⟨rfl, hua⟩
              rw [hsm.out]
              go_wp2_with fail
              refine (refField (sm : Int) 4 _ (by omega) (by omega) (by decide)).mono ?_
              rintro en wb ⟨rfl, hub⟩
              have hUb := (hU.trans hua fun _ _ h => h).trans hub fun _ _ h => h
              go_wp2_with fail
              go_ret
              refine ⟨?_, hUb⟩
              rw [app_str, hslot.out]
              simp
        case hs460_1 =>
          intro K hK; have hst := run_str (P := Try.prog) _ 42 9 5 Try.underlying42 Try.underlying5 Try.underlying9 _ _ hB; go_simp; clear hst
          try go_wp2_with fail
          refine hK.out _ _ ?_ (fun hHeld => ?_)
          · (try dsimp only); first | exact ⟨x0, x1, x4⟩ | exact ⟨(Upd.alloc Non _ _).cell x0 fun h => h, (Upd.alloc Non _ _).cell x1 fun h => h, (Upd.alloc Non _ _).cell x4 fun h => h⟩
          clear hK K
          try simp only [Act.put, List.setIfInBounds_toArray, List.set_cons_zero, List.set_cons_succ]
          refine wpAnyH_ready (rs := [9]) (by kernel_rfl) (by simp) ?_
          refine AllReadyH.cons (o := ?oo473_0) ?ho473_0 ?hs473_0 AllReadyH.nil
          case ho473_0 => (simp only [List.getElem?_toArray, List.getElem?_cons_succ, List.getElem?_cons_zero]; rfl)
          case hs473_0 =>
            intro K hK; go_simp; go_at_call 42; refine (refField q 8 _ (by omega) (by omega) (by decide)).mono ?_; rintro en wn ⟨rfl, hu⟩
            have x0 := hu.cell x0 fun h => h; have x1 := hu.cell x1 fun h => h; have x4 := hu.cell x4 fun h => h
            have hU := (by first | exact hU.trans hu fun _ _ h => h | exact (hU.then_drew).trans hu fun _ _ h => h : Upd Non w wn)
            try have hB := hB.non hu
            clear hu
            try go_wp2_with fail
            refine hK.out _ _ ?_ (fun hHeld => ?_)
            · (try dsimp only); first | exact ⟨x0, x1, x4⟩ | exact ⟨(Upd.alloc Non _ _).cell x0 fun h => h, (Upd.alloc Non _ _).cell x1 fun h => h, (Upd.alloc Non _ _).cell x4 fun h => h⟩
            clear hK K
            try simp only [Act.put, List.setIfInBounds_toArray, List.set_cons_zero, List.set_cons_succ]
            (refine wpAnyH_take (i := 10) (oi := ?oi_474) (v := ?v_474) ?ho_474 ?hs_474 ?hf_474 ?hr_474 ?hQ_474 ?hy_474 ?hS_474 ?rest_474; (case hr_474 => kernel_rfl); (case hf_474 => kernel_rfl); (case hs_474 => kernel_rfl); (case ho_474 => (simp only [List.getElem?_toArray, List.getElem?_cons_succ, List.getElem?_cons_zero]; rfl)); (case hS_474 => assumption); (case hQ_474 => exact fun _ _ _ h => h); (case hy_474 => (refine Or.inl ⟨by rfl, ?_⟩; (intro w hSw; (try dsimp only at hSw); go_simp) <;> with_reducible rfl)); (try simp only [Act.put, List.setIfInBounds_toArray, List.set_cons_zero, List.set_cons_succ]))
            refine wpAnyH_ready (rs := [14]) (by kernel_rfl) (by simp) ?_
            refine AllReadyH.cons (o := ?oo475_0) ?ho475_0 ?hs475_0 AllReadyH.nil
            case ho475_0 => (simp only [List.getElem?_toArray, List.getElem?_cons_succ, List.getElem?_cons_zero]; rfl)
            case hs475_0 =>
              intro K hK; go_simp; go_at_call 42; refine (refField (d.length : Int) 2 _ (by omega) (by omega) (by decide)).mono ?_; rintro en wn ⟨rfl, hu⟩
              have x0 := hu.cell x0 fun h => h; have x1 := hu.cell x1 fun h => h; have x4 := hu.cell x4 fun h => h
              have hU := (by first | exact hU.trans hu fun _ _ h => h | exact (hU.then_drew).trans hu fun _ _ h => h : Upd Non w wn)
              try have hB := hB.non hu
              clear hu
              try go_wp2_with fail
              refine hK.out _ _ ?_ (fun hHeld => ?_)
              · (try dsimp only); first | exact ⟨x0, x1, x4⟩ | exact ⟨(Upd.alloc Non _ _).cell x0 fun h => h, (Upd.alloc Non _ _).cell x1 fun h => h, (Upd.alloc Non _ _).cell x4 fun h => h⟩
              clear hK K
              try simp only [Act.put, List.setIfInBounds_toArray, List.set_cons_zero, List.set_cons_succ]
              (refine wpAnyH_take (i := 15) (oi := ?oi_476) (v := ?v_476) ?ho_476 ?hs_476 ?hf_476 ?hr_476 ?hQ_476 ?hy_476 ?hS_476 ?rest_476; (case hr_476 => kernel_rfl); (case hf_476 => kernel_rfl); (case hs_476 => kernel_rfl); (case ho_476 => (simp only [List.getElem?_toArray, List.getElem?_cons_succ, List.getElem?_cons_zero]; rfl)); (case hS_476 => assumption); (case hQ_476 => exact fun _ _ _ h => h); (case hy_476 => (refine Or.inl ⟨by rfl, ?_⟩; (intro w hSw; (try dsimp only at hSw); go_simp) <;> with_reducible rfl)); (try simp only [Act.put, List.setIfInBounds_toArray, List.set_cons_zero, List.set_cons_succ]))
              (refine wpAnyH_take (i := 18) (oi := ?oi_477) (v := ?v_477) ?ho_477 ?hs_477 ?hf_477 ?hr_477 ?hQ_477 ?hy_477 ?hS_477 ?rest_477; (case hr_477 => kernel_rfl); (case hf_477 => kernel_rfl); (case hs_477 => kernel_rfl); (case ho_477 => (simp only [List.getElem?_toArray, List.getElem?_cons_succ, List.getElem?_cons_zero]; rfl)); (case hS_477 => assumption); (case hQ_477 => exact fun _ _ _ h => h); (case hy_477 => (refine Or.inl ⟨by rfl, ?_⟩; (intro w hSw; (try dsimp only at hSw); go_simp) <;> with_reducible rfl)); (try simp only [Act.put, List.setIfInBounds_toArray, List.set_cons_zero, List.set_cons_succ]))
              (refine wpAnyH_take (i := 25) (oi := ?oi_478) (v := ?v_478) ?ho_478 ?hs_478 ?hf_478 ?hr_478 ?hQ_478 ?hy_478 ?hS_478 ?rest_478; (case hr_478 => kernel_rfl); (case hf_478 => kernel_rfl); (case hs_478 => kernel_rfl); (case ho_478 => (simp only [List.getElem?_toArray, List.getElem?_cons_succ, List.getElem?_cons_zero]; rfl)); (case hS_478 => assumption); (case hQ_478 => exact fun _ _ _ h => h); (case hy_478 => (refine Or.inl ⟨by rfl, ?_⟩; (intro w hSw; (try dsimp only at hSw); go_simp) <;> with_reducible rfl)); (try simp only [Act.put, List.setIfInBounds_toArray, List.set_cons_zero, List.set_cons_succ]))
              (refine wpAnyH_take (i := 26) (oi := ?oi_479) (v := ?v_479) ?ho_479 ?hs_479 ?hf_479 ?hr_479 ?hQ_479 ?hy_479 ?hS_479 ?rest_479; (case hr_479 => kernel_rfl); (case hf_479 => kernel_rfl); (case hs_479 => kernel_rfl); (case ho_479 => (simp only [List.getElem?_toArray, List.getElem?_cons_succ, List.getElem?_cons_zero]; rfl)); (case hS_479 => assumption); (case hQ_479 => exact fun _ _ _ h => h); (case hy_479 => (refine Or.inl ⟨by rfl, ?_⟩; (intro w hSw; (try dsimp only at hSw); go_simp) <;> with_reducible rfl)); (try simp only [Act.put, List.setIfInBounds_toArray, List.set_cons_zero, List.set_cons_succ]))
              refine wpAnyH_done (by kernel_rfl) ?_ _
              try rw [hstr]
              go_wp2_with fail
              refine (refSum BB _ (by have := hBBl.out; omega)).mono ?_
              rintro en wa ⟨rfl, hua⟩
              rw [hsm.out]
              go_wp2_with fail
              refine (refField (sm : Int) 4 _ (by omega) (by omega) (by decide)).mono ?_
              rintro en wb ⟨rfl, hub⟩
              have hUb := (hU.trans hua fun _ _ h => h).trans hub fun _ _ h => h
              go_wp2_with fail
              go_ret
              refine ⟨?_, hUb⟩
              rw [app_str, hslot.out]
              simp
      case hs458_1 =>
        intro K hK; have hst := run_str (P := Try.prog) _ 42 9 5 Try.underlying42 Try.underlying5 Try.underlying9 _ _ hB; go_simp; clear hst
        try go_wp2_with fail
        refine hK.out _ _ ?_ (fun hHeld => ?_)
        · (try dsimp only); first | exact ⟨x0, x1, x4⟩ | exact ⟨(Upd.alloc Non _ _).cell x0 fun h => h, (Upd.alloc Non _ _).cell x1 fun h => h, (Upd.alloc Non _ _).cell x4 fun h => h⟩
        clear hK K
        try simp only [Act.put, List.setIfInBounds_toArray, List.set_cons_zero, List.set_cons_succ]
        refine wpAnyH_ready (rs := [5]) (by kernel_rfl) (by simp) ?_
        refine AllReadyH.cons (o := ?oo480_0) ?ho480_0 ?hs480_0 AllReadyH.nil
        case ho480_0 => (simp only [List.getElem?_toArray, List.getElem?_cons_succ, List.getElem?_cons_zero]; rfl)
        case hs480_0 =>
          intro K hK; go_simp; go_at_call 42; refine (refField e 4 _ (by omega) (by omega) (by decide)).mono ?_; rintro en wn ⟨rfl, hu⟩
          have x0 := hu.cell x0 fun h => h; have x1 := hu.cell x1 fun h => h; have x4 := hu.cell x4 fun h => h
          have hU := (by first | exact hU.trans hu fun _ _ h => h | exact (hU.then_drew).trans hu fun _ _ h => h : Upd Non w wn)
          try have hB := hB.non hu
          clear hu
          try go_wp2_with fail
          refine hK.out _ _ ?_ (fun hHeld => ?_)
          · (try dsimp only); first | exact ⟨x0, x1, x4⟩ | exact ⟨(Upd.alloc Non _ _).cell x0 fun h => h, (Upd.alloc Non _ _).cell x1 fun h => h, (Upd.alloc Non _ _).cell x4 fun h => h⟩
          clear hK K
          try simp only [Act.put, List.setIfInBounds_toArray, List.set_cons_zero, List.set_cons_succ]
          (refine wpAnyH_take (i := 6) (oi := ?oi_481) (v := ?v_481) ?ho_481 ?hs_481 ?hf_481 ?hr_481 ?hQ_481 ?hy_481 ?hS_481 ?rest_481; (case hr_481 => kernel_rfl); (case hf_481 => kernel_rfl); (case hs_481 => kernel_rfl); (case ho_481 => (simp only [List.getElem?_toArray, List.getElem?_cons_succ, List.getElem?_cons_zero]; rfl)); (case hS_481 => assumption); (case hQ_481 => exact fun _ _ _ h => h); (case hy_481 => (refine Or.inl ⟨by rfl, ?_⟩; (intro w hSw; (try dsimp only at hSw); go_simp) <;> with_reducible rfl)); (try simp only [Act.put, List.setIfInBounds_toArray, List.set_cons_zero, List.set_cons_succ]))
          refine wpAnyH_ready (rs := [9]) (by kernel_rfl) (by simp) ?_
          refine AllReadyH.cons (o := ?oo482_0) ?ho482_0 ?hs482_0 AllReadyH.nil
          case ho482_0 => (simp only [List.getElem?_toArray, List.getElem?_cons_succ, List.getElem?_cons_zero]; rfl)
          case hs482_0 =>
            intro K hK; go_simp; go_at_call 42; refine (refField q 8 _ (by omega) (by omega) (by decide)).mono ?_; rintro en wn ⟨rfl, hu⟩
            have x0 := hu.cell x0 fun h => h; have x1 := hu.cell x1 fun h => h; have x4 := hu.cell x4 fun h => h
            have hU := (by first | exact hU.trans hu fun _ _ h => h | exact (hU.then_drew).trans hu fun _ _ h => h : Upd Non w wn)
            try have hB := hB.non hu
            clear hu
            try go_wp2_with fail
            refine hK.out _ _ ?_ (fun hHeld => ?_)
            · (try dsimp only); first | exact ⟨x0, x1, x4⟩ | exact ⟨(Upd.alloc Non _ _).cell x0 fun h => h, (Upd.alloc Non _ _).cell x1 fun h => h, (Upd.alloc Non _ _).cell x4 fun h => h⟩
            clear hK K
            try simp only [Act.put, List.setIfInBounds_toArray, List.set_cons_zero, List.set_cons_succ]
            (refine wpAnyH_take (i := 10) (oi := ?oi_483) (v := ?v_483) ?ho_483 ?hs_483 ?hf_483 ?hr_483 ?hQ_483 ?hy_483 ?hS_483 ?rest_483; (case hr_483 => kernel_rfl); (case hf_483 => kernel_rfl); (case hs_483 => kernel_rfl); (case ho_483 => (simp only [List.getElem?_toArray, List.getElem?_cons_succ, List.getElem?_cons_zero]; rfl)); (case hS_483 => assumption); (case hQ_483 => exact fun _ _ _ h => h); (case hy_483 => (refine Or.inl ⟨by rfl, ?_⟩; (intro w hSw; (try dsimp only at hSw); go_simp) <;> with_reducible rfl)); (try simp only [Act.put, List.setIfInBounds_toArray, List.set_cons_zero, List.set_cons_succ]))
            refine wpAnyH_ready (rs := [14]) (by kernel_rfl) (by simp) ?_
            refine AllReadyH.cons (o := ?oo484_0) ?ho484_0 ?hs484_0 AllReadyH.nil
            case ho484_0 => (simp only [List.getElem?_toArray, List.getElem?_cons_succ, List.getElem?_cons_zero]; rfl)
            case hs484_0 =>
              intro K hK; go_simp; go_at_call 42; refine (refField (d.length : Int) 2 _ (by omega) (by omega) (by decide)).mono ?_; rintro en wn ⟨rfl, hu⟩
              have x0 := hu.cell x0 fun h => h; have x1 := hu.cell x1 fun h => h; have x4 := hu.cell x4 fun h => h
              have hU := (by first | exact hU.trans hu fun _ _ h => h | exact (hU.then_drew).trans hu fun _ _ h => h : Upd Non w wn)
              try have hB := hB.non hu
              clear hu
              try go_wp2_with fail
              refine hK.out _ _ ?_ (fun hHeld => ?_)
              · (try dsimp only); first | exact ⟨x0, x1, x4⟩ | exact ⟨(Upd.alloc Non _ _).cell x0 fun h => h, (Upd.alloc Non _ _).cell x1 fun h => h, (Upd.alloc Non _ _).cell x4 fun h => h⟩
              clear hK K
              try simp only [Act.put, List.setIfInBounds_toArray, List.set_cons_zero, List.set_cons_succ]
              (refine wpAnyH_take (i := 15) (oi := ?oi_485) (v := ?v_485) ?ho_485 ?hs_485 ?hf_485 ?hr_485 ?hQ_485 ?hy_485 ?hS_485 ?rest_485; (case hr_485 => kernel_rfl); (case hf_485 => kernel_rfl); (case hs_485 => kernel_rfl); (case ho_485 => (simp only [List.getElem?_toArray, List.getElem?_cons_succ, List.getElem?_cons_zero]; rfl)); (case hS_485 => assumption); (case hQ_485 => exact fun _ _ _ h => h); (case hy_485 => (refine Or.inl ⟨by rfl, ?_⟩; (intro w hSw; (try dsimp only at hSw); go_simp) <;> with_reducible rfl)); (try simp only [Act.put, List.setIfInBounds_toArray, List.set_cons_zero, List.set_cons_succ]))
              (refine wpAnyH_take (i := 18) (oi := ?oi_486) (v := ?v_486) ?ho_486 ?hs_486 ?hf_486 ?hr_486 ?hQ_486 ?hy_486 ?hS_486 ?rest_486; (case hr_486 => kernel_rfl); (case hf_486 => kernel_rfl); (case hs_486 => kernel_rfl); (case ho_486 => (simp only [List.getElem?_toArray, List.getElem?_cons_succ, List.getElem?_cons_zero]; rfl)); (case hS_486 => assumption); (case hQ_486 => exact fun _ _ _ h => h); (case hy_486 => (refine Or.inl ⟨by rfl, ?_⟩; (intro w hSw; (try dsimp only at hSw); go_simp) <;> with_reducible rfl)); (try simp only [Act.put, List.setIfInBounds_toArray, List.set_cons_zero, List.set_cons_succ]))
              (refine wpAnyH_take (i := 25) (oi := ?oi_487) (v := ?v_487) ?ho_487 ?hs_487 ?hf_487 ?hr_487 ?hQ_487 ?hy_487 ?hS_487 ?rest_487; (case hr_487 => kernel_rfl); (case hf_487 => kernel_rfl); (case hs_487 => kernel_rfl); (case ho_487 => (simp only [List.getElem?_toArray, List.getElem?_cons_succ, List.getElem?_cons_zero]; rfl)); (case hS_487 => assumption); (case hQ_487 => exact fun _ _ _ h => h); (case hy_487 => (refine Or.inl ⟨by rfl, ?_⟩; (intro w hSw; (try dsimp only at hSw); go_simp) <;> with_reducible rfl)); (try simp only [Act.put, List.setIfInBounds_toArray, List.set_cons_zero, List.set_cons_succ]))
              (refine wpAnyH_take (i := 26) (oi := ?oi_488) (v := ?v_488) ?ho_488 ?hs_488 ?hf_488 ?hr_488 ?hQ_488 ?hy_488 ?hS_488 ?rest_488; (case hr_488 => kernel_rfl); (case hf_488 => kernel_rfl); (case hs_488 => kernel_rfl); (case ho_488 => (simp only [List.getElem?_toArray, List.getElem?_cons_succ, List.getElem?_cons_zero]; rfl)); (case hS_488 => assumption); (case hQ_488 => exact fun _ _ _ h => h); (case hy_488 => (refine Or.inl ⟨by rfl, ?_⟩; (intro w hSw; (try dsimp only at hSw); go_simp) <;> with_reducible rfl)); (try simp only [Act.put, List.setIfInBounds_toArray, List.set_cons_zero, List.set_cons_succ]))
              refine wpAnyH_done (by kernel_rfl) ?_ _
              try rw [hstr]
              go_wp2_with fail
              refine (refSum BB _ (by have := hBBl.out; omega)).mono ?_
              rintro en wa ⟨rfl, hua⟩
              rw [hsm.out]
              go_wp2_with fail
              refine (refField (sm : Int) 4 _ (by omega) (by omega) (by decide)).mono ?_
              rintro en wb ⟨rfl, hub⟩
              have hUb := (hU.trans hua fun _ _ h => h).trans hub fun _ _ h => h
              go_wp2_with fail
              go_ret
              refine ⟨?_, hUb⟩
              rw [app_str, hslot.out]
              simp
  case hs414_1 =>
    intro K hK; have hmk := hmk0; go_simp; clear hmk
    try go_wp2_with fail
    refine hK.out _ _ ?_ (fun hHeld => ?_)
    · (try dsimp only); exact ⟨(Upd.alloc Non _ _).cell x0 fun h => h, (Upd.alloc Non _ _).cell x1 fun h => h, (Upd.alloc Non _ _).cell x4 fun h => h⟩
    clear hK K
    try simp only [Act.put, List.setIfInBounds_toArray, List.set_cons_zero, List.set_cons_succ]
    obtain ⟨hB, hU, x0, x1, x4⟩ := made_noughts hU x0 x1 x4 5 (108 - d.length) (by omega)
    rw [show (World.drew (w.alloc (.cells #[.int .i64 e, .int .i64 q, .bool true, .bool true, .string ⟨d.toArray⟩] 41))).heap.size = w.heap.size + 1 by simp] at hB
    refine wpAnyH_ready (rs := [1, 24]) (by kernel_rfl) (by simp) ?_
    refine AllReadyH.cons (o := ?oo489_0) ?ho489_0 ?hs489_0 (AllReadyH.cons (o := ?oo489_1) ?ho489_1 ?hs489_1 AllReadyH.nil)
    case ho489_0 => (simp only [List.getElem?_toArray, List.getElem?_cons_succ, List.getElem?_cons_zero]; rfl)
    case ho489_1 => (simp only [List.getElem?_toArray, List.getElem?_cons_succ, List.getElem?_cons_zero]; rfl)
    case hs489_0 =>
      intro K hK; go_simp; go_at_call 42; refine (refField 3 1 _ (by omega) (by omega) (by decide)).mono ?_; rintro en wn ⟨rfl, hu⟩
      have x0 := hu.cell x0 fun h => h; have x1 := hu.cell x1 fun h => h; have x4 := hu.cell x4 fun h => h
      have hU := (by first | exact hU.trans hu fun _ _ h => h | exact (hU.then_drew).trans hu fun _ _ h => h : Upd Non w wn)
      try have hB := hB.non hu
      clear hu
      try go_wp2_with fail
      refine hK.out _ _ ?_ (fun hHeld => ?_)
      · (try dsimp only); first | exact ⟨x0, x1, x4⟩ | exact ⟨(Upd.alloc Non _ _).cell x0 fun h => h, (Upd.alloc Non _ _).cell x1 fun h => h, (Upd.alloc Non _ _).cell x4 fun h => h⟩
      clear hK K
      try simp only [Act.put, List.setIfInBounds_toArray, List.set_cons_zero, List.set_cons_succ]
      (refine wpAnyH_take (i := 2) (oi := ?oi_490) (v := ?v_490) ?ho_490 ?hs_490 ?hf_490 ?hr_490 ?hQ_490 ?hy_490 ?hS_490 ?rest_490; (case hr_490 => kernel_rfl); (case hf_490 => kernel_rfl); (case hs_490 => kernel_rfl); (case ho_490 => (simp only [List.getElem?_toArray, List.getElem?_cons_succ, List.getElem?_cons_zero]; rfl)); (case hS_490 => assumption); (case hQ_490 => exact fun _ _ _ h => h); (case hy_490 => (refine Or.inl ⟨by rfl, ?_⟩; (intro w hSw; (try dsimp only at hSw); go_simp) <;> with_reducible rfl)); (try simp only [Act.put, List.setIfInBounds_toArray, List.set_cons_zero, List.set_cons_succ]))
      refine wpAnyH_ready (rs := [5, 24]) (by kernel_rfl) (by simp) ?_
      refine AllReadyH.cons (o := ?oo491_0) ?ho491_0 ?hs491_0 (AllReadyH.cons (o := ?oo491_1) ?ho491_1 ?hs491_1 AllReadyH.nil)
      case ho491_0 => (simp only [List.getElem?_toArray, List.getElem?_cons_succ, List.getElem?_cons_zero]; rfl)
      case ho491_1 => (simp only [List.getElem?_toArray, List.getElem?_cons_succ, List.getElem?_cons_zero]; rfl)
      case hs491_0 =>
        intro K hK; go_simp; go_at_call 42; refine (refField e 4 _ (by omega) (by omega) (by decide)).mono ?_; rintro en wn ⟨rfl, hu⟩
        have x0 := hu.cell x0 fun h => h; have x1 := hu.cell x1 fun h => h; have x4 := hu.cell x4 fun h => h
        have hU := (by first | exact hU.trans hu fun _ _ h => h | exact (hU.then_drew).trans hu fun _ _ h => h : Upd Non w wn)
        try have hB := hB.non hu
        clear hu
        try go_wp2_with fail
        refine hK.out _ _ ?_ (fun hHeld => ?_)
        · (try dsimp only); first | exact ⟨x0, x1, x4⟩ | exact ⟨(Upd.alloc Non _ _).cell x0 fun h => h, (Upd.alloc Non _ _).cell x1 fun h => h, (Upd.alloc Non _ _).cell x4 fun h => h⟩
        clear hK K
        try simp only [Act.put, List.setIfInBounds_toArray, List.set_cons_zero, List.set_cons_succ]
        (refine wpAnyH_take (i := 6) (oi := ?oi_492) (v := ?v_492) ?ho_492 ?hs_492 ?hf_492 ?hr_492 ?hQ_492 ?hy_492 ?hS_492 ?rest_492; (case hr_492 => kernel_rfl); (case hf_492 => kernel_rfl); (case hs_492 => kernel_rfl); (case ho_492 => (simp only [List.getElem?_toArray, List.getElem?_cons_succ, List.getElem?_cons_zero]; rfl)); (case hS_492 => assumption); (case hQ_492 => exact fun _ _ _ h => h); (case hy_492 => (refine Or.inl ⟨by rfl, ?_⟩; (intro w hSw; (try dsimp only at hSw); go_simp) <;> with_reducible rfl)); (try simp only [Act.put, List.setIfInBounds_toArray, List.set_cons_zero, List.set_cons_succ]))
        refine wpAnyH_ready (rs := [9, 24]) (by kernel_rfl) (by simp) ?_
        refine AllReadyH.cons (o := ?oo493_0) ?ho493_0 ?hs493_0 (AllReadyH.cons (o := ?oo493_1) ?ho493_1 ?hs493_1 AllReadyH.nil)
        case ho493_0 => (simp only [List.getElem?_toArray, List.getElem?_cons_succ, List.getElem?_cons_zero]; rfl)
        case ho493_1 => (simp only [List.getElem?_toArray, List.getElem?_cons_succ, List.getElem?_cons_zero]; rfl)
        case hs493_0 =>
          intro K hK; go_simp; go_at_call 42; refine (refField q 8 _ (by omega) (by omega) (by decide)).mono ?_; rintro en wn ⟨rfl, hu⟩
          have x0 := hu.cell x0 fun h => h; have x1 := hu.cell x1 fun h => h; have x4 := hu.cell x4 fun h => h
          have hU := (by first | exact hU.trans hu fun _ _ h => h | exact (hU.then_drew).trans hu fun _ _ h => h : Upd Non w wn)
          try have hB := hB.non hu
          clear hu
          try go_wp2_with fail
          refine hK.out _ _ ?_ (fun hHeld => ?_)
          · (try dsimp only); first | exact ⟨x0, x1, x4⟩ | exact ⟨(Upd.alloc Non _ _).cell x0 fun h => h, (Upd.alloc Non _ _).cell x1 fun h => h, (Upd.alloc Non _ _).cell x4 fun h => h⟩
          clear hK K
          try simp only [Act.put, List.setIfInBounds_toArray, List.set_cons_zero, List.set_cons_succ]
          (refine wpAnyH_take (i := 10) (oi := ?oi_494) (v := ?v_494) ?ho_494 ?hs_494 ?hf_494 ?hr_494 ?hQ_494 ?hy_494 ?hS_494 ?rest_494; (case hr_494 => kernel_rfl); (case hf_494 => kernel_rfl); (case hs_494 => kernel_rfl); (case ho_494 => (simp only [List.getElem?_toArray, List.getElem?_cons_succ, List.getElem?_cons_zero]; rfl)); (case hS_494 => assumption); (case hQ_494 => exact fun _ _ _ h => h); (case hy_494 => (refine Or.inl ⟨by rfl, ?_⟩; (intro w hSw; (try dsimp only at hSw); go_simp) <;> with_reducible rfl)); (try simp only [Act.put, List.setIfInBounds_toArray, List.set_cons_zero, List.set_cons_succ]))
          refine wpAnyH_ready (rs := [14, 24]) (by kernel_rfl) (by simp) ?_
          refine AllReadyH.cons (o := ?oo495_0) ?ho495_0 ?hs495_0 (AllReadyH.cons (o := ?oo495_1) ?ho495_1 ?hs495_1 AllReadyH.nil)
          case ho495_0 => (simp only [List.getElem?_toArray, List.getElem?_cons_succ, List.getElem?_cons_zero]; rfl)
          case ho495_1 => (simp only [List.getElem?_toArray, List.getElem?_cons_succ, List.getElem?_cons_zero]; rfl)
          case hs495_0 =>
            intro K hK; go_simp; go_at_call 42; refine (refField (d.length : Int) 2 _ (by omega) (by omega) (by decide)).mono ?_; rintro en wn ⟨rfl, hu⟩
            have x0 := hu.cell x0 fun h => h; have x1 := hu.cell x1 fun h => h; have x4 := hu.cell x4 fun h => h
            have hU := (by first | exact hU.trans hu fun _ _ h => h | exact (hU.then_drew).trans hu fun _ _ h => h : Upd Non w wn)
            try have hB := hB.non hu
            clear hu
            try go_wp2_with fail
            refine hK.out _ _ ?_ (fun hHeld => ?_)
            · (try dsimp only); first | exact ⟨x0, x1, x4⟩ | exact ⟨(Upd.alloc Non _ _).cell x0 fun h => h, (Upd.alloc Non _ _).cell x1 fun h => h, (Upd.alloc Non _ _).cell x4 fun h => h⟩
            clear hK K
            try simp only [Act.put, List.setIfInBounds_toArray, List.set_cons_zero, List.set_cons_succ]
            (refine wpAnyH_take (i := 15) (oi := ?oi_496) (v := ?v_496) ?ho_496 ?hs_496 ?hf_496 ?hr_496 ?hQ_496 ?hy_496 ?hS_496 ?rest_496; (case hr_496 => kernel_rfl); (case hf_496 => kernel_rfl); (case hs_496 => kernel_rfl); (case ho_496 => (simp only [List.getElem?_toArray, List.getElem?_cons_succ, List.getElem?_cons_zero]; rfl)); (case hS_496 => assumption); (case hQ_496 => exact fun _ _ _ h => h); (case hy_496 => (refine Or.inl ⟨by rfl, ?_⟩; (intro w hSw; (try dsimp only at hSw); go_simp) <;> with_reducible rfl)); (try simp only [Act.put, List.setIfInBounds_toArray, List.set_cons_zero, List.set_cons_succ]))
            (refine wpAnyH_take (i := 18) (oi := ?oi_497) (v := ?v_497) ?ho_497 ?hs_497 ?hf_497 ?hr_497 ?hQ_497 ?hy_497 ?hS_497 ?rest_497; (case hr_497 => kernel_rfl); (case hf_497 => kernel_rfl); (case hs_497 => kernel_rfl); (case ho_497 => (simp only [List.getElem?_toArray, List.getElem?_cons_succ, List.getElem?_cons_zero]; rfl)); (case hS_497 => assumption); (case hQ_497 => exact fun _ _ _ h => h); (case hy_497 => (refine Or.inl ⟨by rfl, ?_⟩; (intro w hSw; (try dsimp only at hSw); go_simp) <;> with_reducible rfl)); (try simp only [Act.put, List.setIfInBounds_toArray, List.set_cons_zero, List.set_cons_succ]))
            refine wpAnyH_ready (rs := [24]) (by kernel_rfl) (by simp) ?_
            refine AllReadyH.cons (o := ?oo498_0) ?ho498_0 ?hs498_0 AllReadyH.nil
            case ho498_0 => (simp only [List.getElem?_toArray, List.getElem?_cons_succ, List.getElem?_cons_zero]; rfl)
            case hs498_0 =>
              intro K hK; have hst := run_str (P := Try.prog) _ 42 9 5 Try.underlying42 Try.underlying5 Try.underlying9 _ _ hB; go_simp; clear hst
              try go_wp2_with fail
              refine hK.out _ _ ?_ (fun hHeld => ?_)
              · (try dsimp only); first | exact ⟨x0, x1, x4⟩ | exact ⟨(Upd.alloc Non _ _).cell x0 fun h => h, (Upd.alloc Non _ _).cell x1 fun h => h, (Upd.alloc Non _ _).cell x4 fun h => h⟩
              clear hK K
              try simp only [Act.put, List.setIfInBounds_toArray, List.set_cons_zero, List.set_cons_succ]
              (refine wpAnyH_take (i := 25) (oi := ?oi_499) (v := ?v_499) ?ho_499 ?hs_499 ?hf_499 ?hr_499 ?hQ_499 ?hy_499 ?hS_499 ?rest_499; (case hr_499 => kernel_rfl); (case hf_499 => kernel_rfl); (case hs_499 => kernel_rfl); (case ho_499 => (simp only [List.getElem?_toArray, List.getElem?_cons_succ, List.getElem?_cons_zero]; rfl)); (case hS_499 => assumption); (case hQ_499 => exact fun _ _ _ h => h); (case hy_499 => (refine Or.inl ⟨by rfl, ?_⟩; (intro w hSw; (try dsimp only at hSw); go_simp) <;> with_reducible rfl)); (try simp only [Act.put, List.setIfInBounds_toArray, List.set_cons_zero, List.set_cons_succ]))
              (refine wpAnyH_take (i := 26) (oi := ?oi_500) (v := ?v_500) ?ho_500 ?hs_500 ?hf_500 ?hr_500 ?hQ_500 ?hy_500 ?hS_500 ?rest_500; (case hr_500 => kernel_rfl); (case hf_500 => kernel_rfl); (case hs_500 => kernel_rfl); (case ho_500 => (simp only [List.getElem?_toArray, List.getElem?_cons_succ, List.getElem?_cons_zero]; rfl)); (case hS_500 => assumption); (case hQ_500 => exact fun _ _ _ h => h); (case hy_500 => (refine Or.inl ⟨by rfl, ?_⟩; (intro w hSw; (try dsimp only at hSw); go_simp) <;> with_reducible rfl)); (try simp only [Act.put, List.setIfInBounds_toArray, List.set_cons_zero, List.set_cons_succ]))
              refine wpAnyH_done (by kernel_rfl) ?_ _
              try rw [hstr]
              go_wp2_with fail
              refine (refSum BB _ (by have := hBBl.out; omega)).mono ?_
              rintro en wa ⟨rfl, hua⟩
              rw [hsm.out]
              go_wp2_with fail
              refine (refField (sm : Int) 4 _ (by omega) (by omega) (by decide)).mono ?_
              rintro en wb ⟨rfl, hub⟩
              have hUb := (hU.trans hua fun _ _ h => h).trans hub fun _ _ h => h
              go_wp2_with fail
              go_ret
              refine ⟨?_, hUb⟩
              rw [app_str, hslot.out]
              simp
          case hs495_1 =>
            intro K hK; have hst := run_str (P := Try.prog) _ 42 9 5 Try.underlying42 Try.underlying5 Try.underlying9 _ _ hB; go_simp; clear hst
            try go_wp2_with fail
            refine hK.out _ _ ?_ (fun hHeld => ?_)
            · (try dsimp only); first | exact ⟨x0, x1, x4⟩ | exact ⟨(Upd.alloc Non _ _).cell x0 fun h => h, (Upd.alloc Non _ _).cell x1 fun h => h, (Upd.alloc Non _ _).cell x4 fun h => h⟩
            clear hK K
            try simp only [Act.put, List.setIfInBounds_toArray, List.set_cons_zero, List.set_cons_succ]
            refine wpAnyH_ready (rs := [14]) (by kernel_rfl) (by simp) ?_
            refine AllReadyH.cons (o := ?oo501_0) ?ho501_0 ?hs501_0 AllReadyH.nil
            case ho501_0 => (simp only [List.getElem?_toArray, List.getElem?_cons_succ, List.getElem?_cons_zero]; rfl)
            case hs501_0 =>
              intro K hK; go_simp; go_at_call 42; refine (refField (d.length : Int) 2 _ (by omega) (by omega) (by decide)).mono ?_; rintro en wn ⟨rfl, hu⟩
              have x0 := hu.cell x0 fun h => h; have x1 := hu.cell x1 fun h => h; have x4 := hu.cell x4 fun h => h
              have hU := (by first | exact hU.trans hu fun _ _ h => h | exact (hU.then_drew).trans hu fun _ _ h => h : Upd Non w wn)
              try have hB := hB.non hu
              clear hu
              try go_wp2_with fail
              refine hK.out _ _ ?_ (fun hHeld => ?_)
              · (try dsimp only); first | exact ⟨x0, x1, x4⟩ | exact ⟨(Upd.alloc Non _ _).cell x0 fun h => h, (Upd.alloc Non _ _).cell x1 fun h => h, (Upd.alloc Non _ _).cell x4 fun h => h⟩
              clear hK K
              try simp only [Act.put, List.setIfInBounds_toArray, List.set_cons_zero, List.set_cons_succ]
              (refine wpAnyH_take (i := 15) (oi := ?oi_502) (v := ?v_502) ?ho_502 ?hs_502 ?hf_502 ?hr_502 ?hQ_502 ?hy_502 ?hS_502 ?rest_502; (case hr_502 => kernel_rfl); (case hf_502 => kernel_rfl); (case hs_502 => kernel_rfl); (case ho_502 => (simp only [List.getElem?_toArray, List.getElem?_cons_succ, List.getElem?_cons_zero]; rfl)); (case hS_502 => assumption); (case hQ_502 => exact fun _ _ _ h => h); (case hy_502 => (refine Or.inl ⟨by rfl, ?_⟩; (intro w hSw; (try dsimp only at hSw); go_simp) <;> with_reducible rfl)); (try simp only [Act.put, List.setIfInBounds_toArray, List.set_cons_zero, List.set_cons_succ]))
              (refine wpAnyH_take (i := 18) (oi := ?oi_503) (v := ?v_503) ?ho_503 ?hs_503 ?hf_503 ?hr_503 ?hQ_503 ?hy_503 ?hS_503 ?rest_503; (case hr_503 => kernel_rfl); (case hf_503 => kernel_rfl); (case hs_503 => kernel_rfl); (case ho_503 => (simp only [List.getElem?_toArray, List.getElem?_cons_succ, List.getElem?_cons_zero]; rfl)); (case hS_503 => assumption); (case hQ_503 => exact fun _ _ _ h => h); (case hy_503 => (refine Or.inl ⟨by rfl, ?_⟩; (intro w hSw; (try dsimp only at hSw); go_simp) <;> with_reducible rfl)); (try simp only [Act.put, List.setIfInBounds_toArray, List.set_cons_zero, List.set_cons_succ]))
              (refine wpAnyH_take (i := 25) (oi := ?oi_504) (v := ?v_504) ?ho_504 ?hs_504 ?hf_504 ?hr_504 ?hQ_504 ?hy_504 ?hS_504 ?rest_504; (case hr_504 => kernel_rfl); (case hf_504 => kernel_rfl); (case hs_504 => kernel_rfl); (case ho_504 => (simp only [List.getElem?_toArray, List.getElem?_cons_succ, List.getElem?_cons_zero]; rfl)); (case hS_504 => assumption); (case hQ_504 => exact fun _ _ _ h => h); (case hy_504 => (refine Or.inl ⟨by rfl, ?_⟩; (intro w hSw; (try dsimp only at hSw); go_simp) <;> with_reducible rfl)); (try simp only [Act.put, List.setIfInBounds_toArray, List.set_cons_zero, List.set_cons_succ]))
              (refine wpAnyH_take (i := 26) (oi := ?oi_505) (v := ?v_505) ?ho_505 ?hs_505 ?hf_505 ?hr_505 ?hQ_505 ?hy_505 ?hS_505 ?rest_505; (case hr_505 => kernel_rfl); (case hf_505 => kernel_rfl); (case hs_505 => kernel_rfl); (case ho_505 => (simp only [List.getElem?_toArray, List.getElem?_cons_succ, List.getElem?_cons_zero]; rfl)); (case hS_505 => assumption); (case hQ_505 => exact fun _ _ _ h => h); (case hy_505 => (refine Or.inl ⟨by rfl, ?_⟩; (intro w hSw; (try dsimp only at hSw); go_simp) <;> with_reducible rfl)); (try simp only [Act.put, List.setIfInBounds_toArray, List.set_cons_zero, List.set_cons_succ]))
              refine wpAnyH_done (by kernel_rfl) ?_ _
              try rw [hstr]
              go_wp2_with fail
              refine (refSum BB _ (by have := hBBl.out; omega)).mono ?_
              rintro en wa ⟨rfl, hua⟩
              rw [hsm.out]
              go_wp2_with fail
              refine (refField (sm : Int) 4 _ (by omega) (by omega) (by decide)).mono ?_
              rintro en wb ⟨rfl, hub⟩
              have hUb := (hU.trans hua fun _ _ h => h).trans hub fun _ _ h => h
              go_wp2_with fail
              go_ret
              refine ⟨?_, hUb⟩
              rw [app_str, hslot.out]
              simp
        case hs493_1 =>
          intro K hK; have hst := run_str (P := Try.prog) _ 42 9 5 Try.underlying42 Try.underlying5 Try.underlying9 _ _ hB; go_simp; clear hst
          try go_wp2_with fail
          refine hK.out _ _ ?_ (fun hHeld => ?_)
          · (try dsimp only); first | exact ⟨x0, x1, x4⟩ | exact ⟨(Upd.alloc Non _ _).cell x0 fun h => h, (Upd.alloc Non _ _).cell x1 fun h => h, (Upd.alloc Non _ _).cell x4 fun h => h⟩
          clear hK K
          try simp only [Act.put, List.setIfInBounds_toArray, List.set_cons_zero, List.set_cons_succ]
          refine wpAnyH_ready (rs := [9]) (by kernel_rfl) (by simp) ?_
          refine AllReadyH.cons (o := ?oo506_0) ?ho506_0 ?hs506_0 AllReadyH.nil
          case ho506_0 => (simp only [List.getElem?_toArray, List.getElem?_cons_succ, List.getElem?_cons_zero]; rfl)
          case hs506_0 =>
            intro K hK; go_simp; go_at_call 42; refine (refField q 8 _ (by omega) (by omega) (by decide)).mono ?_; rintro en wn ⟨rfl, hu⟩
            have x0 := hu.cell x0 fun h => h; have x1 := hu.cell x1 fun h => h; have x4 := hu.cell x4 fun h => h
            have hU := (by first | exact hU.trans hu fun _ _ h => h | exact (hU.then_drew).trans hu fun _ _ h => h : Upd Non w wn)
            try have hB := hB.non hu
            clear hu
            try go_wp2_with fail
            refine hK.out _ _ ?_ (fun hHeld => ?_)
            · (try dsimp only); first | exact ⟨x0, x1, x4⟩ | exact ⟨(Upd.alloc Non _ _).cell x0 fun h => h, (Upd.alloc Non _ _).cell x1 fun h => h, (Upd.alloc Non _ _).cell x4 fun h => h⟩
            clear hK K
            try simp only [Act.put, List.setIfInBounds_toArray, List.set_cons_zero, List.set_cons_succ]
            (refine wpAnyH_take (i := 10) (oi := ?oi_507) (v := ?v_507) ?ho_507 ?hs_507 ?hf_507 ?hr_507 ?hQ_507 ?hy_507 ?hS_507 ?rest_507; (case hr_507 => kernel_rfl); (case hf_507 => kernel_rfl); (case hs_507 => kernel_rfl); (case ho_507 => (simp only [List.getElem?_toArray, List.getElem?_cons_succ, List.getElem?_cons_zero]; rfl)); (case hS_507 => assumption); (case hQ_507 => exact fun _ _ _ h => h); (case hy_507 => (refine Or.inl ⟨by rfl, ?_⟩; (intro w hSw; (try dsimp only at hSw); go_simp) <;> with_reducible rfl)); (try simp only [Act.put, List.setIfInBounds_toArray, List.set_cons_zero, List.set_cons_succ]))
            refine wpAnyH_ready (rs := [14]) (by kernel_rfl) (by simp) ?_
            refine AllReadyH.cons (o := ?oo508_0) ?ho508_0 ?hs508_0 AllReadyH.nil
            case ho508_0 => (simp only [List.getElem?_toArray, List.getElem?_cons_succ, List.getElem?_cons_zero]; rfl)
            case hs508_0 =>
              intro K hK; go_simp; go_at_call 42; refine (refField (d.length : Int) 2 _ (by omega) (by omega) (by decide)).mono ?_; rintro en wn ⟨rfl, hu⟩
              have x0 := hu.cell x0 fun h => h; have x1 := hu.cell x1 fun h => h; have x4 := hu.cell x4 fun h => h
              have hU := (by first | exact hU.trans hu fun _ _ h => h | exact (hU.then_drew).trans hu fun _ _ h => h : Upd Non w wn)
              try have hB := hB.non hu
              clear hu
              try go_wp2_with fail
              refine hK.out _ _ ?_ (fun hHeld => ?_)
              · (try dsimp only); first | exact ⟨x0, x1, x4⟩ | exact ⟨(Upd.alloc Non _ _).cell x0 fun h => h, (Upd.alloc Non _ _).cell x1 fun h => h, (Upd.alloc Non _ _).cell x4 fun h => h⟩
              clear hK K
              try simp only [Act.put, List.setIfInBounds_toArray, List.set_cons_zero, List.set_cons_succ]
              (refine wpAnyH_take (i := 15) (oi := ?oi_509) (v := ?v_509) ?ho_509 ?hs_509 ?hf_509 ?hr_509 ?hQ_509 ?hy_509 ?hS_509 ?rest_509; (case hr_509 => kernel_rfl); (case hf_509 => kernel_rfl); (case hs_509 => kernel_rfl); (case ho_509 => (simp only [List.getElem?_toArray, List.getElem?_cons_succ, List.getElem?_cons_zero]; rfl)); (case hS_509 => assumption); (case hQ_509 => exact fun _ _ _ h => h); (case hy_509 => (refine Or.inl ⟨by rfl, ?_⟩; (intro w hSw; (try dsimp only at hSw); go_simp) <;> with_reducible rfl)); (try simp only [Act.put, List.setIfInBounds_toArray, List.set_cons_zero, List.set_cons_succ]))
              (refine wpAnyH_take (i := 18) (oi := ?oi_510) (v := ?v_510) ?ho_510 ?hs_510 ?hf_510 ?hr_510 ?hQ_510 ?hy_510 ?hS_510 ?rest_510; (case hr_510 => kernel_rfl); (case hf_510 => kernel_rfl); (case hs_510 => kernel_rfl); (case ho_510 => (simp only [List.getElem?_toArray, List.getElem?_cons_succ, List.getElem?_cons_zero]; rfl)); (case hS_510 => assumption); (case hQ_510 => exact fun _ _ _ h => h); (case hy_510 => (refine Or.inl ⟨by rfl, ?_⟩; (intro w hSw; (try dsimp only at hSw); go_simp) <;> with_reducible rfl)); (try simp only [Act.put, List.setIfInBounds_toArray, List.set_cons_zero, List.set_cons_succ]))
              (refine wpAnyH_take (i := 25) (oi := ?oi_511) (v := ?v_511) ?ho_511 ?hs_511 ?hf_511 ?hr_511 ?hQ_511 ?hy_511 ?hS_511 ?rest_511; (case hr_511 => kernel_rfl); (case hf_511 => kernel_rfl); (case hs_511 => kernel_rfl); (case ho_511 => (simp only [List.getElem?_toArray, List.getElem?_cons_succ, List.getElem?_cons_zero]; rfl)); (case hS_511 => assumption); (case hQ_511 => exact fun _ _ _ h => h); (case hy_511 => (refine Or.inl ⟨by rfl, ?_⟩; (intro w hSw; (try dsimp only at hSw); go_simp) <;> with_reducible rfl)); (try simp only [Act.put, List.setIfInBounds_toArray, List.set_cons_zero, List.set_cons_succ]))
              (refine wpAnyH_take (i := 26) (oi := ?oi_512) (v := ?v_512) ?ho_512 ?hs_512 ?hf_512 ?hr_512 ?hQ_512 ?hy_512 ?hS_512 ?rest_512; (case hr_512 => kernel_rfl); (case hf_512 => kernel_rfl); (case hs_512 => kernel_rfl); (case ho_512 => (simp only [List.getElem?_toArray, List.getElem?_cons_succ, List.getElem?_cons_zero]; rfl)); (case hS_512 => assumption); (case hQ_512 => exact fun _ _ _ h => h); (case hy_512 => (refine Or.inl ⟨by rfl, ?_⟩; (intro w hSw; (try dsimp only at hSw); go_simp) <;> with_reducible rfl)); (try simp only [Act.put, List.setIfInBounds_toArray, List.set_cons_zero, List.set_cons_succ]))
              refine wpAnyH_done (by kernel_rfl) ?_ _
              try rw [hstr]
              go_wp2_with fail
              refine (refSum BB _ (by have := hBBl.out; omega)).mono ?_
              rintro en wa ⟨rfl, hua⟩
              rw [hsm.out]
              go_wp2_with fail
              refine (refField (sm : Int) 4 _ (by omega) (by omega) (by decide)).mono ?_
              rintro en wb ⟨rfl, hub⟩
              have hUb := (hU.trans hua fun _ _ h => h).trans hub fun _ _ h => h
              go_wp2_with fail
              go_ret
              refine ⟨?_, hUb⟩
              rw [app_str, hslot.out]
              simp
      case hs491_1 =>
        intro K hK; have hst := run_str (P := Try.prog) _ 42 9 5 Try.underlying42 Try.underlying5 Try.underlying9 _ _ hB; go_simp; clear hst
        try go_wp2_with fail
        refine hK.out _ _ ?_ (fun hHeld => ?_)
        · (try dsimp only); first | exact ⟨x0, x1, x4⟩ | exact ⟨(Upd.alloc Non _ _).cell x0 fun h => h, (Upd.alloc Non _ _).cell x1 fun h => h, (Upd.alloc Non _ _).cell x4 fun h => h⟩
        clear hK K
        try simp only [Act.put, List.setIfInBounds_toArray, List.set_cons_zero, List.set_cons_succ]
        refine wpAnyH_ready (rs := [5]) (by kernel_rfl) (by simp) ?_
        refine AllReadyH.cons (o := ?oo513_0) ?ho513_0 ?hs513_0 AllReadyH.nil
        case ho513_0 => (simp only [List.getElem?_toArray, List.getElem?_cons_succ, List.getElem?_cons_zero]; rfl)
        case hs513_0 =>
          intro K hK; go_simp; go_at_call 42; refine (refField e 4 _ (by omega) (by omega) (by decide)).mono ?_; rintro en wn ⟨rfl, hu⟩
          have x0 := hu.cell x0 fun h => h; have x1 := hu.cell x1 fun h => h; have x4 := hu.cell x4 fun h => h
          have hU := (by first | exact hU.trans hu fun _ _ h => h | exact (hU.then_drew).trans hu fun _ _ h => h : Upd Non w wn)
          try have hB := hB.non hu
          clear hu
          try go_wp2_with fail
          refine hK.out _ _ ?_ (fun hHeld => ?_)
          · (try dsimp only); first | exact ⟨x0, x1, x4⟩ | exact ⟨(Upd.alloc Non _ _).cell x0 fun h => h, (Upd.alloc Non _ _).cell x1 fun h => h, (Upd.alloc Non _ _).cell x4 fun h => h⟩
          clear hK K
          try simp only [Act.put, List.setIfInBounds_toArray, List.set_cons_zero, List.set_cons_succ]
          (refine wpAnyH_take (i := 6) (oi := ?oi_514) (v := ?v_514) ?ho_514 ?hs_514 ?hf_514 ?hr_514 ?hQ_514 ?hy_514 ?hS_514 ?rest_514; (case hr_514 => kernel_rfl); (case hf_514 => kernel_rfl); (case hs_514 => kernel_rfl); (case ho_514 => (simp only [List.getElem?_toArray, List.getElem?_cons_succ, List.getElem?_cons_zero]; rfl)); (case hS_514 => assumption); (case hQ_514 => exact fun _ _ _ h => h); (case hy_514 => (refine Or.inl ⟨by rfl, ?_⟩; (intro w hSw; (try dsimp only at hSw); go_simp) <;> with_reducible rfl)); (try simp only [Act.put, List.setIfInBounds_toArray, List.set_cons_zero, List.set_cons_succ]))
          refine wpAnyH_ready (rs := [9]) (by kernel_rfl) (by simp) ?_
          refine AllReadyH.cons (o := ?oo515_0) ?ho515_0 ?hs515_0 AllReadyH.nil
          case ho515_0 => (simp only [List.getElem?_toArray, List.getElem?_cons_succ, List.getElem?_cons_zero]; rfl)
          case hs515_0 =>
            intro K hK; go_simp; go_at_call 42; refine (refField q 8 _ (by omega) (by omega) (by decide)).mono ?_; rintro en wn ⟨rfl, hu⟩
            have x0 := hu.cell x0 fun h => h; have x1 := hu.cell x1 fun h => h; have x4 := hu.cell x4 fun h => h
            have hU := (by first | exact hU.trans hu fun _ _ h => h | exact (hU.then_drew).trans hu fun _ _ h => h : Upd Non w wn)
            try have hB := hB.non hu
            clear hu
            try go_wp2_with fail
            refine hK.out _ _ ?_ (fun hHeld => ?_)
            · (try dsimp only); first | exact ⟨x0, x1, x4⟩ | exact ⟨(Upd.alloc Non _ _).cell x0 fun h => h, (Upd.alloc Non _ _).cell x1 fun h => h, (Upd.alloc Non _ _).cell x4 fun h => h⟩
            clear hK K
            try simp only [Act.put, List.setIfInBounds_toArray, List.set_cons_zero, List.set_cons_succ]
            (refine wpAnyH_take (i := 10) (oi := ?oi_516) (v := ?v_516) ?ho_516 ?hs_516 ?hf_516 ?hr_516 ?hQ_516 ?hy_516 ?hS_516 ?rest_516; (case hr_516 => kernel_rfl); (case hf_516 => kernel_rfl); (case hs_516 => kernel_rfl); (case ho_516 => (simp only [List.getElem?_toArray, List.getElem?_cons_succ, List.getElem?_cons_zero]; rfl)); (case hS_516 => assumption); (case hQ_516 => exact fun _ _ _ h => h); (case hy_516 => (refine Or.inl ⟨by rfl, ?_⟩; (intro w hSw; (try dsimp only at hSw); go_simp) <;> with_reducible rfl)); (try simp only [Act.put, List.setIfInBounds_toArray, List.set_cons_zero, List.set_cons_succ]))
            refine wpAnyH_ready (rs := [14]) (by kernel_rfl) (by simp) ?_
            refine AllReadyH.cons (o := ?oo517_0) ?ho517_0 ?hs517_0 AllReadyH.nil
            case ho517_0 => (simp only [List.getElem?_toArray, List.getElem?_cons_succ, List.getElem?_cons_zero]; rfl)
            case hs517_0 =>
              intro K hK; go_simp; go_at_call 42; refine (refField (d.length : Int) 2 _ (by omega) (by omega) (by decide)).mono ?_; rintro en wn ⟨rfl, hu⟩
              have x0 := hu.cell x0 fun h => h; have x1 := hu.cell x1 fun h => h; have x4 := hu.cell x4 fun h => h
              have hU := (by first | exact hU.trans hu fun _ _ h => h | exact (hU.then_drew).trans hu fun _ _ h => h : Upd Non w wn)
              try have hB := hB.non hu
              clear hu
              try go_wp2_with fail
              refine hK.out _ _ ?_ (fun hHeld => ?_)
              · (try dsimp only); first | exact ⟨x0, x1, x4⟩ | exact ⟨(Upd.alloc Non _ _).cell x0 fun h => h, (Upd.alloc Non _ _).cell x1 fun h => h, (Upd.alloc Non _ _).cell x4 fun h => h⟩
              clear hK K
              try simp only [Act.put, List.setIfInBounds_toArray, List.set_cons_zero, List.set_cons_succ]
              (refine wpAnyH_take (i := 15) (oi := ?oi_518) (v := ?v_518) ?ho_518 ?hs_518 ?hf_518 ?hr_518 ?hQ_518 ?hy_518 ?hS_518 ?rest_518; (case hr_518 => kernel_rfl); (case hf_518 => kernel_rfl); (case hs_518 => kernel_rfl); (case ho_518 => (simp only [List.getElem?_toArray, List.getElem?_cons_succ, List.getElem?_cons_zero]; rfl)); (case hS_518 => assumption); (case hQ_518 => exact fun _ _ _ h => h); (case hy_518 => (refine Or.inl ⟨by rfl, ?_⟩; (intro w hSw; (try dsimp only at hSw); go_simp) <;> with_reducible rfl)); (try simp only [Act.put, List.setIfInBounds_toArray, List.set_cons_zero, List.set_cons_succ]))
              (refine wpAnyH_take (i := 18) (oi := ?oi_519) (v := ?v_519) ?ho_519 ?hs_519 ?hf_519 ?hr_519 ?hQ_519 ?hy_519 ?hS_519 ?rest_519; (case hr_519 => kernel_rfl); (case hf_519 => kernel_rfl); (case hs_519 => kernel_rfl); (case ho_519 => (simp only [List.getElem?_toArray, List.getElem?_cons_succ, List.getElem?_cons_zero]; rfl)); (case hS_519 => assumption); (case hQ_519 => exact fun _ _ _ h => h); (case hy_519 => (refine Or.inl ⟨by rfl, ?_⟩; (intro w hSw; (try dsimp only at hSw); go_simp) <;> with_reducible rfl)); (try simp only [Act.put, List.setIfInBounds_toArray, List.set_cons_zero, List.set_cons_succ]))
              (refine wpAnyH_take (i := 25) (oi := ?oi_520) (v := ?v_520) ?ho_520 ?hs_520 ?hf_520 ?hr_520 ?hQ_520 ?hy_520 ?hS_520 ?rest_520; (case hr_520 => kernel_rfl); (case hf_520 => kernel_rfl); (case hs_520 => kernel_rfl); (case ho_520 => (simp only [List.getElem?_toArray, List.getElem?_cons_succ, List.getElem?_cons_zero]; rfl)); (case hS_520 => assumption); (case hQ_520 => exact fun _ _ _ h => h); (case hy_520 => (refine Or.inl ⟨by rfl, ?_⟩; (intro w hSw; (try dsimp only at hSw); go_simp) <;> with_reducible rfl)); (try simp only [Act.put, List.setIfInBounds_toArray, List.set_cons_zero, List.set_cons_succ]))
              (refine wpAnyH_take (i := 26) (oi := ?oi_521) (v := ?v_521) ?ho_521 ?hs_521 ?hf_521 ?hr_521 ?hQ_521 ?hy_521 ?hS_521 ?rest_521; (case hr_521 => kernel_rfl); (case hf_521 => kernel_rfl); (case hs_521 => kernel_rfl); (case ho_521 => (simp only [List.getElem?_toArray, List.getElem?_cons_succ, List.getElem?_cons_zero]; rfl)); (case hS_521 => assumption); (case hQ_521 => exact fun _ _ _ h => h); (case hy_521 => (refine Or.inl ⟨by rfl, ?_⟩; (intro w hSw; (try dsimp only at hSw); go_simp) <;> with_reducible rfl)); (try simp only [Act.put, List.setIfInBounds_toArray, List.set_cons_zero, List.set_cons_succ]))
              refine wpAnyH_done (by kernel_rfl) ?_ _
              try rw [hstr]
              go_wp2_with fail
              refine (refSum BB _ (by have := hBBl.out; omega)).mono ?_
              rintro en wa ⟨rfl, hua⟩
              rw [hsm.out]
              go_wp2_with fail
              refine (refField (sm : Int) 4 _ (by omega) (by omega) (by decide)).mono ?_
              rintro en wb ⟨rfl, hub⟩
              have hUb := (hU.trans hua fun _ _ h => h).trans hub fun _ _ h => h
              go_wp2_with fail
              go_ret
              refine ⟨?_, hUb⟩
              rw [app_str, hslot.out]
              simp
    case hs489_1 =>
      intro K hK; have hst := run_str (P := Try.prog) _ 42 9 5 Try.underlying42 Try.underlying5 Try.underlying9 _ _ (show Bytes (((w.alloc (.cells #[.int .i64 e, .int .i64 q, .bool true, .bool true, .string ⟨d.toArray⟩] 41)).alloc (.cells (Array.replicate (108 - d.length) (.int .u8 0)) 5)).drew) (.slice (some ⟨w.heap.size + 1, 0, none⟩) (108 - d.length) (108 - d.length)) (List.replicate (108 - d.length) 0) from hB); go_simp; clear hst
      try go_wp2_with fail
      refine hK.out _ _ ?_ (fun hHeld => ?_)
      · (try dsimp only); first | exact ⟨x0, x1, x4⟩ | exact ⟨(Upd.alloc Non _ _).cell x0 fun h => h, (Upd.alloc Non _ _).cell x1 fun h => h, (Upd.alloc Non _ _).cell x4 fun h => h⟩
      clear hK K
      try simp only [Act.put, List.setIfInBounds_toArray, List.set_cons_zero, List.set_cons_succ]
      refine wpAnyH_ready (rs := [1]) (by kernel_rfl) (by simp) ?_
      refine AllReadyH.cons (o := ?oo522_0) ?ho522_0 ?hs522_0 AllReadyH.nil
      case ho522_0 => (simp only [List.getElem?_toArray, List.getElem?_cons_succ, List.getElem?_cons_zero]; rfl)
      case hs522_0 =>
        intro K hK; go_simp; go_at_call 42; refine (refField 3 1 _ (by omega) (by omega) (by decide)).mono ?_; rintro en wn ⟨rfl, hu⟩
        have x0 := hu.cell x0 fun h => h; have x1 := hu.cell x1 fun h => h; have x4 := hu.cell x4 fun h => h
        have hU := (by first | exact hU.trans hu fun _ _ h => h | exact (hU.then_drew).trans hu fun _ _ h => h : Upd Non w wn)
        try have hB := hB.non hu
        clear hu
        try go_wp2_with fail
        refine hK.out _ _ ?_ (fun hHeld => ?_)
        · (try dsimp only); first | exact ⟨x0, x1, x4⟩ | exact ⟨(Upd.alloc Non _ _).cell x0 fun h => h, (Upd.alloc Non _ _).cell x1 fun h => h, (Upd.alloc Non _ _).cell x4 fun h => h⟩
        clear hK K
        try simp only [Act.put, List.setIfInBounds_toArray, List.set_cons_zero, List.set_cons_succ]
        (refine wpAnyH_take (i := 2) (oi := ?oi_523) (v := ?v_523) ?ho_523 ?hs_523 ?hf_523 ?hr_523 ?hQ_523 ?hy_523 ?hS_523 ?rest_523; (case hr_523 => kernel_rfl); (case hf_523 => kernel_rfl); (case hs_523 => kernel_rfl); (case ho_523 => (simp only [List.getElem?_toArray, List.getElem?_cons_succ, List.getElem?_cons_zero]; rfl)); (case hS_523 => assumption); (case hQ_523 => exact fun _ _ _ h => h); (case hy_523 => (refine Or.inl ⟨by rfl, ?_⟩; (intro w hSw; (try dsimp only at hSw); go_simp) <;> with_reducible rfl)); (try simp only [Act.put, List.setIfInBounds_toArray, List.set_cons_zero, List.set_cons_succ]))
        refine wpAnyH_ready (rs := [5]) (by kernel_rfl) (by simp) ?_
        refine AllReadyH.cons (o := ?oo524_0) ?ho524_0 ?hs524_0 AllReadyH.nil
        case ho524_0 => (simp only [List.getElem?_toArray, List.getElem?_cons_succ, List.getElem?_cons_zero]; rfl)
        case hs524_0 =>
          intro K hK; go_simp; go_at_call 42; refine (refField e 4 _ (by omega) (by omega) (by decide)).mono ?_; rintro en wn ⟨rfl, hu⟩
          have x0 := hu.cell x0 fun h => h; have x1 := hu.cell x1 fun h => h; have x4 := hu.cell x4 fun h => h
          have hU := (by first | exact hU.trans hu fun _ _ h => h | exact (hU.then_drew).trans hu fun _ _ h => h : Upd Non w wn)
          try have hB := hB.non hu
          clear hu
          try go_wp2_with fail
          refine hK.out _ _ ?_ (fun hHeld => ?_)
          · (try dsimp only); first | exact ⟨x0, x1, x4⟩ | exact ⟨(Upd.alloc Non _ _).cell x0 fun h => h, (Upd.alloc Non _ _).cell x1 fun h => h, (Upd.alloc Non _ _).cell x4 fun h => h⟩
          clear hK K
          try simp only [Act.put, List.setIfInBounds_toArray, List.set_cons_zero, List.set_cons_succ]
          (refine wpAnyH_take (i := 6) (oi := ?oi_525) (v := ?v_525) ?ho_525 ?hs_525 ?hf_525 ?hr_525 ?hQ_525 ?hy_525 ?hS_525 ?rest_525; (case hr_525 => kernel_rfl); (case hf_525 => kernel_rfl); (case hs_525 => kernel_rfl); (case ho_525 => (simp only [List.getElem?_toArray, List.getElem?_cons_succ, List.getElem?_cons_zero]; rfl)); (case hS_525 => assumption); (case hQ_525 => exact fun _ _ _ h => h); (case hy_525 => (refine Or.inl ⟨by rfl, ?_⟩; (intro w hSw; (try dsimp only at hSw); go_simp) <;> with_reducible rfl)); (try simp only [Act.put, List.setIfInBounds_toArray, List.set_cons_zero, List.set_cons_succ]))
          refine wpAnyH_ready (rs := [9]) (by kernel_rfl) (by simp) ?_
          refine AllReadyH.cons (o := ?oo526_0) ?ho526_0 ?hs526_0 AllReadyH.nil
          case ho526_0 => (simp only [List.getElem?_toArray, List.getElem?_cons_succ, List.getElem?_cons_zero]; rfl)
          case hs526_0 =>
            intro K hK; go_simp; go_at_call 42; refine (refField q 8 _ (by omega) (by omega) (by decide)).mono ?_; rintro en wn ⟨rfl, hu⟩
            have x0 := hu.cell x0 fun h => h; have x1 := hu.cell x1 fun h => h; have x4 := hu.cell x4 fun h => h
            have hU := (by first | exact hU.trans hu fun _ _ h => h | exact (hU.then_drew).trans hu fun _ _ h => h : Upd Non w wn)
            try have hB := hB.non hu
            clear hu
            try go_wp2_with fail
            refine hK.out _ _ ?_ (fun hHeld => ?_)
            · (try dsimp only); first | exact ⟨x0, x1, x4⟩ | exact ⟨(Upd.alloc Non _ _).cell x0 fun h => h, (Upd.alloc Non _ _).cell x1 fun h => h, (Upd.alloc Non _ _).cell x4 fun h => h⟩
            clear hK K
            try simp only [Act.put, List.setIfInBounds_toArray, List.set_cons_zero, List.set_cons_succ]
            (refine wpAnyH_take (i := 10) (oi := ?oi_527) (v := ?v_527) ?ho_527 ?hs_527 ?hf_527 ?hr_527 ?hQ_527 ?hy_527 ?hS_527 ?rest_527; (case hr_527 => kernel_rfl); (case hf_527 => kernel_rfl); (case hs_527 => kernel_rfl); (case ho_527 => (simp only [List.getElem?_toArray, List.getElem?_cons_succ, List.getElem?_cons_zero]; rfl)); (case hS_527 => assumption); (case hQ_527 => exact fun _ _ _ h => h); (case hy_527 => (refine Or.inl ⟨by rfl, ?_⟩; (intro w hSw; (try dsimp only at hSw); go_simp) <;> with_reducible rfl)); (try simp only [Act.put, List.setIfInBounds_toArray, List.set_cons_zero, List.set_cons_succ]))
            refine wpAnyH_ready (rs := [14]) (by kernel_rfl) (by simp) ?_
            refine AllReadyH.cons (o := ?oo528_0) ?ho528_0 ?hs528_0 AllReadyH.nil
            case ho528_0 => (simp only [List.getElem?_toArray, List.getElem?_cons_succ, List.getElem?_cons_zero]; rfl)
            case hs528_0 =>
              intro K hK; go_simp; go_at_call 42; refine (refField (d.length : Int) 2 _ (by omega) (by omega) (by decide)).mono ?_; rintro en wn ⟨rfl, hu⟩
              have x0 := hu.cell x0 fun h => h; have x1 := hu.cell x1 fun h => h; have x4 := hu.cell x4 fun h => h
              have hU := (by first | exact hU.trans hu fun _ _ h => h | exact (hU.then_drew).trans hu fun _ _ h => h : Upd Non w wn)
              try have hB := hB.non hu
              clear hu
              try go_wp2_with fail
              refine hK.out _ _ ?_ (fun hHeld => ?_)
              · (try dsimp only); first | exact ⟨x0, x1, x4⟩ | exact ⟨(Upd.alloc Non _ _).cell x0 fun h => h, (Upd.alloc Non _ _).cell x1 fun h => h, (Upd.alloc Non _ _).cell x4 fun h => h⟩
              clear hK K
              try simp only [Act.put, List.setIfInBounds_toArray, List.set_cons_zero, List.set_cons_succ]
              (refine wpAnyH_take (i := 15) (oi := ?oi_529) (v := ?v_529) ?ho_529 ?hs_529 ?hf_529 ?hr_529 ?hQ_529 ?hy_529 ?hS_529 ?rest_529; (case hr_529 => kernel_rfl); (case hf_529 => kernel_rfl); (case hs_529 => kernel_rfl); (case ho_529 => (simp only [List.getElem?_toArray, List.getElem?_cons_succ, List.getElem?_cons_zero]; rfl)); (case hS_529 => assumption); (case hQ_529 => exact fun _ _ _ h => h); (case hy_529 => (refine Or.inl ⟨by rfl, ?_⟩; (intro w hSw; (try dsimp only at hSw); go_simp) <;> with_reducible rfl)); (try simp only [Act.put, List.setIfInBounds_toArray, List.set_cons_zero, List.set_cons_succ]))
              (refine wpAnyH_take (i := 18) (oi := ?oi_530) (v := ?v_530) ?ho_530 ?hs_530 ?hf_530 ?hr_530 ?hQ_530 ?hy_530 ?hS_530 ?rest_530; (case hr_530 => kernel_rfl); (case hf_530 => kernel_rfl); (case hs_530 => kernel_rfl); (case ho_530 => (simp only [List.getElem?_toArray, List.getElem?_cons_succ, List.getElem?_cons_zero]; rfl)); (case hS_530 => assumption); (case hQ_530 => exact fun _ _ _ h => h); (case hy_530 => (refine Or.inl ⟨by rfl, ?_⟩; (intro w hSw; (try dsimp only at hSw); go_simp) <;> with_reducible rfl)); (try simp only [Act.put, List.setIfInBounds_toArray, List.set_cons_zero, List.set_cons_succ]))
              (refine wpAnyH_take (i := 25) (oi := ?oi_531) (v := ?v_531) ?ho_531 ?hs_531 ?hf_531 ?hr_531 ?hQ_531 ?hy_531 ?hS_531 ?rest_531; (case hr_531 => kernel_rfl); (case hf_531 => kernel_rfl); (case hs_531 => kernel_rfl); (case ho_531 => (simp only [List.getElem?_toArray, List.getElem?_cons_succ, List.getElem?_cons_zero]; rfl)); (case hS_531 => assumption); (case hQ_531 => exact fun _ _ _ h => h); (case hy_531 => (refine Or.inl ⟨by rfl, ?_⟩; (intro w hSw; (try dsimp only at hSw); go_simp) <;> with_reducible rfl)); (try simp only [Act.put, List.setIfInBounds_toArray, List.set_cons_zero, List.set_cons_succ]))
              (refine wpAnyH_take (i := 26) (oi := ?oi_532) (v := ?v_532) ?ho_532 ?hs_532 ?hf_532 ?hr_532 ?hQ_532 ?hy_532 ?hS_532 ?rest_532; (case hr_532 => kernel_rfl); (case hf_532 => kernel_rfl); (case hs_532 => kernel_rfl); (case ho_532 => (simp only [List.getElem?_toArray, List.getElem?_cons_succ, List.getElem?_cons_zero]; rfl)); (case hS_532 => assumption); (case hQ_532 => exact fun _ _ _ h => h); (case hy_532 => (refine Or.inl ⟨by rfl, ?_⟩; (intro w hSw; (try dsimp only at hSw); go_simp) <;> with_reducible rfl)); (try simp only [Act.put, List.setIfInBounds_toArray, List.set_cons_zero, List.set_cons_succ]))
              refine wpAnyH_done (by kernel_rfl) ?_ _
              try rw [hstr]
              go_wp2_with fail
              refine (refSum BB _ (by have := hBBl.out; omega)).mono ?_
              rintro en wa ⟨rfl, hua⟩
              rw [hsm.out]
              go_wp2_with fail
              refine (refField (sm : Int) 4 _ (by omega) (by omega) (by decide)).mono ?_
              rintro en wb ⟨rfl, hub⟩
              have hUb := (hU.trans hua fun _ _ h => h).trans hub fun _ _ h => h
              go_wp2_with fail
              go_ret
              refine ⟨?_, hUb⟩
              rw [app_str, hslot.out]
              simp
end Go.Proofs.Ytiadbijholnbjaa
