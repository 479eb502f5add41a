/- The reference's put. -/
import Derived.Test.YtiadbijholnbjaaSlM
import Derived.Test.YtiadbijholnbjaaTagB
import Derived.Test.YtiadbijholnbjaaRefA
import Derived.Test.YtiadbijholnbjaaSlI
namespace Go.Proofs.Ytiadbijholnbjaa
open Go.RowKit Go.Amb Go.Shelf
set_option linter.unusedVariables false
set_option linter.unusedSimpArgs false
theorem made_noughts {w W : World} {b : Nat} {v0 v1 v4 : Value} (hU : Upd Non w W) (x0 : W.cell? ⟨b, 0, none⟩ = some v0) (x1 : W.cell? ⟨b, 1, none⟩ = some v1) (x4 : W.cell? ⟨b, 4, none⟩ = some v4) (T : TypeId) (m : Nat) (hm : m ≤ 1000) :
    Bytes (W.alloc (.cells (Array.replicate m (.int .u8 0)) T)) (.slice (some ⟨W.heap.size, 0, none⟩) m m) (List.replicate m 0) ∧ Upd Non w (W.alloc (.cells (Array.replicate m (.int .u8 0)) T)) ∧
    (W.alloc (.cells (Array.replicate m (.int .u8 0)) T)).cell? ⟨b, 0, none⟩ = some v0 ∧ (W.alloc (.cells (Array.replicate m (.int .u8 0)) T)).cell? ⟨b, 1, none⟩ = some v1 ∧ (W.alloc (.cells (Array.replicate m (.int .u8 0)) T)).cell? ⟨b, 4, none⟩ = some v4 := by
  have hA := Upd.alloc Non W (.cells (Array.replicate m (.int .u8 0)) T)
  refine ⟨?_, hU.trans hA fun _ _ h => h, hA.cell x0 fun h => h, hA.cell x1 fun h => h, hA.cell x4 fun h => h⟩
  have := has_new W (bc (List.replicate m 0)) T 1 m (by simp [bc_length]) (by unfold maxLen; omega)
  rw [bc_rep] at this
  unfold Bytes
  rw [List.length_replicate]
  exact this
theorem app_str (a b : Array UInt8) : (⟨a⟩ : ByteArray) ++ ⟨b⟩ = ⟨a ++ b⟩ := by
  apply ByteArray.ext
  simp
theorem body_str (x e q n : Int) (d : List UInt8) (m : Nat) : ((⟨#[83]⟩ : ByteArray) ++ ⟨(fld x 1).toArray⟩ ++ ⟨(fld e 4).toArray⟩ ++ ⟨(fld q 8).toArray⟩ ++ ⟨(fld n 2).toArray⟩ ++ ⟨d.toArray⟩ ++ ⟨Array.replicate m 0⟩) =
    ⟨([83] ++ fld x 1 ++ fld e 4 ++ fld q 8 ++ fld n 2 ++ d ++ List.replicate m 0).toArray⟩ := by
  simp only [app_str]
  congr 1
  simp
attribute [local go_sem] Go.Amb.fld_length
set_option maxRecDepth 100000
set_option maxHeartbeats 8000000 in
theorem refPut0 (e q : Int) (d : List UInt8) (w : World) (hR : rightS ⟨e, q, false, false, d⟩ = true) : Calls Try.prog 29 #[(⟨e, q, false, false, d⟩ : S5).v] w (Ret (.string ⟨(slotB ⟨e, q, false, false, d⟩).toArray⟩) w) := by
  have hRR := of_decide_eq_true hR
  simp only at hRR
  have hd : d.length ≤ 108 := hRR.2.2
  have he1 := hRR.1.1
  have he2 := hRR.1.2
  have hq1 := hRR.2.1.1
  have hq2 := hRR.2.1.2
  clear hRR
  have hmk0 := fun w => run_make1 Try.underlying42 (show (Try.prog.info? 5).map (fun i => (i.zero, i.size, i.bytes)) = some (some (.int .u8 0), 1, 1) from rfl) rfl (108 - d.length) (by omega) (by omega) w
  have hm : (108 : Int) - (d.length : Int) = ((108 - d.length : Nat) : Int) := by omega
  have hmw : IntKind.i64.wrap ((108 - d.length : Nat) : Int) = ((108 - d.length : Nat) : Int) := IntWalk.i64_in _ ⟨by omega, by omega⟩
  have h16 : ¬ 9223372036854775807 < 16 + d.length := by omega
  have h124 : ¬ 9223372036854775807 < 16 + d.length + (108 - d.length) := by omega
  have hbx := cells_of (heap_alloc_new w (.cells #[.int .i64 e, .int .i64 q, .bool false, .bool false, .string ⟨d.toArray⟩] 41))
  have x0 := hbx.1 0
  have x1 := hbx.1 1
  have x4 := hbx.1 4
  have hU := Upd.alloc Non w (.cells #[.int .i64 e, .int .i64 q, .bool false, .bool false, .string ⟨d.toArray⟩] 41)
  clear hbx
  replace hR := Lib.hid hR
  have hslot0 : slotB ⟨e, q, false, false, d⟩ = slotBody ⟨e, q, false, false, d⟩ ++ fld (sumC (slotBody ⟨e, q, false, false, d⟩) : Nat) 4 := rfl
  have hstr0 := body_str (flagS false false : Nat) e q (d.length : Int) d (108 - d.length)
  rw [show [83] ++ fld (flagS false false : Nat) 1 ++ fld e 4 ++ fld q 8 ++ fld (d.length : Int) 2 ++ d ++ List.replicate (108 - d.length) 0 = slotBody ⟨e, q, false, false, d⟩ from rfl] at hstr0
  have hlen0 : (slotBody ⟨e, q, false, false, d⟩).length = 124 := by
    unfold slotBody
    simp only [List.length_append, fld_length, List.length_replicate, List.length_cons, List.length_nil]
    omega
  obtain ⟨BB, hBB⟩ : ∃ BB, slotBody ⟨e, q, false, false, d⟩ = BB := ⟨_, rfl⟩
  rw [hBB] at hslot0 hstr0 hlen0
  have hsl := sumC_lt BB
  obtain ⟨sm, hsm⟩ : ∃ sm, sumC BB = sm := ⟨_, rfl⟩
  rw [hsm] at hslot0 hsl
  have h128 : ¬ 9223372036854775807 < BB.length + 4 := by omega
  have hsl2 : (sm : Int) < 4294967296 := by omega
  clear hsl
  replace hsm := Lib.hid hsm
  have hBBl := Lib.hid hlen0
  clear hlen0 hBB
  have hslot := Lib.hid hslot0
  have hstr : _ = _ := hstr0
  rw [show ((flagS false false : Nat) : Int) = 0 from rfl] at hstr
  clear hslot0 hstr0
  go_enter Try.func29, Try.ntmps29
  go_wp2_with fail
  refine wp_region_held_drew (S := (fun w' => w'.cell? ⟨w.heap.size, 0, none⟩ = some (.int .i64 e) ∧ w'.cell? ⟨w.heap.size, 1, none⟩ = some (.int .i64 q) ∧ w'.cell? ⟨w.heap.size, 4, none⟩ = some (.string ⟨d.toArray⟩))) (by kernel_rfl) (by (try dsimp only); exact ⟨x0, x1, x4⟩) (fun hHeld => ?_)
  replace hU := hU.then_drew
  (refine wpAnyH_take (i := 0) (oi := ?oi_1) (v := ?v_1) ?ho_1 ?hs_1 ?hf_1 ?hr_1 ?hQ_1 ?hy_1 ?hS_1 ?rest_1; (case hr_1 => kernel_rfl); (case hf_1 => kernel_rfl); (case hs_1 => kernel_rfl); (case ho_1 => (simp only [List.getElem?_toArray, List.getElem?_cons_succ, List.getElem?_cons_zero]; rfl)); (case hS_1 => assumption); (case hQ_1 => exact fun _ _ _ h => h); (case hy_1 => (refine Or.inl ⟨by rfl, ?_⟩; (intro w hSw; (try dsimp only at hSw); go_simp) <;> with_reducible rfl)); (try simp only [Act.put, List.setIfInBounds_toArray, List.set_cons_zero, List.set_cons_succ]))
  (refine wpAnyH_take (i := 3) (oi := ?oi_2) (v := ?v_2) ?ho_2 ?hs_2 ?hf_2 ?hr_2 ?hQ_2 ?hy_2 ?hS_2 ?rest_2; (case hr_2 => kernel_rfl); (case hf_2 => kernel_rfl); (case hs_2 => kernel_rfl); (case ho_2 => (simp only [List.getElem?_toArray, List.getElem?_cons_succ, List.getElem?_cons_zero]; rfl)); (case hS_2 => assumption); (case hQ_2 => exact fun _ _ _ h => h); (case hy_2 => (refine Or.inl ⟨by rfl, ?_⟩; (intro w hSw; (try dsimp only at hSw); go_simp) <;> with_reducible rfl)); (try simp only [Act.put, List.setIfInBounds_toArray, List.set_cons_zero, List.set_cons_succ]))
  (refine wpAnyH_take (i := 4) (oi := ?oi_3) (v := ?v_3) ?ho_3 ?hs_3 ?hf_3 ?hr_3 ?hQ_3 ?hy_3 ?hS_3 ?rest_3; (case hr_3 => kernel_rfl); (case hf_3 => kernel_rfl); (case hs_3 => kernel_rfl); (case ho_3 => (simp only [List.getElem?_toArray, List.getElem?_cons_succ, List.getElem?_cons_zero]; rfl)); (case hS_3 => assumption); (case hQ_3 => exact fun _ _ _ h => h); (case hy_3 => (refine Or.inl ⟨by rfl, ?_⟩; (intro w hSw; (try dsimp only at hSw); go_simp) <;> with_reducible rfl)); (try simp only [Act.put, List.setIfInBounds_toArray, List.set_cons_zero, List.set_cons_succ]))
  (refine wpAnyH_take (i := 7) (oi := ?oi_4) (v := ?v_4) ?ho_4 ?hs_4 ?hf_4 ?hr_4 ?hQ_4 ?hy_4 ?hS_4 ?rest_4; (case hr_4 => kernel_rfl); (case hf_4 => kernel_rfl); (case hs_4 => kernel_rfl); (case ho_4 => (simp only [List.getElem?_toArray, List.getElem?_cons_succ, List.getElem?_cons_zero]; rfl)); (case hS_4 => assumption); (case hQ_4 => exact fun _ _ _ h => h); (case hy_4 => (refine Or.inl ⟨by rfl, ?_⟩; (intro w hSw; (try dsimp only at hSw); go_simp) <;> with_reducible rfl)); (try simp only [Act.put, List.setIfInBounds_toArray, List.set_cons_zero, List.set_cons_succ]))
  (refine wpAnyH_take (i := 8) (oi := ?oi_5) (v := ?v_5) ?ho_5 ?hs_5 ?hf_5 ?hr_5 ?hQ_5 ?hy_5 ?hS_5 ?rest_5; (case hr_5 => kernel_rfl); (case hf_5 => kernel_rfl); (case hs_5 => kernel_rfl); (case ho_5 => (simp only [List.getElem?_toArray, List.getElem?_cons_succ, List.getElem?_cons_zero]; rfl)); (case hS_5 => assumption); (case hQ_5 => exact fun _ _ _ h => h); (case hy_5 => (refine Or.inl ⟨by rfl, ?_⟩; (intro w hSw; (try dsimp only at hSw); go_simp) <;> with_reducible rfl)); (try simp only [Act.put, List.setIfInBounds_toArray, List.set_cons_zero, List.set_cons_succ]))
  (refine wpAnyH_take (i := 11) (oi := ?oi_6) (v := ?v_6) ?ho_6 ?hs_6 ?hf_6 ?hr_6 ?hQ_6 ?hy_6 ?hS_6 ?rest_6; (case hr_6 => kernel_rfl); (case hf_6 => kernel_rfl); (case hs_6 => kernel_rfl); (case ho_6 => (simp only [List.getElem?_toArray, List.getElem?_cons_succ, List.getElem?_cons_zero]; rfl)); (case hS_6 => assumption); (case hQ_6 => exact fun _ _ _ h => h); (case hy_6 => (refine Or.inl ⟨by rfl, ?_⟩; (intro w hSw; (try dsimp only at hSw); go_simp) <;> with_reducible rfl)); (try simp only [Act.put, List.setIfInBounds_toArray, List.set_cons_zero, List.set_cons_succ]))
  (refine wpAnyH_take (i := 12) (oi := ?oi_7) (v := ?v_7) ?ho_7 ?hs_7 ?hf_7 ?hr_7 ?hQ_7 ?hy_7 ?hS_7 ?rest_7; (case hr_7 => kernel_rfl); (case hf_7 => kernel_rfl); (case hs_7 => kernel_rfl); (case ho_7 => (simp only [List.getElem?_toArray, List.getElem?_cons_succ, List.getElem?_cons_zero]; rfl)); (case hS_7 => assumption); (case hQ_7 => exact fun _ _ _ h => h); (case hy_7 => (refine Or.inl ⟨by rfl, ?_⟩; (intro w hSw; (try dsimp only at hSw); go_simp) <;> with_reducible rfl)); (try simp only [Act.put, List.setIfInBounds_toArray, List.set_cons_zero, List.set_cons_succ]))
  (refine wpAnyH_take (i := 13) (oi := ?oi_8) (v := ?v_8) ?ho_8 ?hs_8 ?hf_8 ?hr_8 ?hQ_8 ?hy_8 ?hS_8 ?rest_8; (case hr_8 => kernel_rfl); (case hf_8 => kernel_rfl); (case hs_8 => kernel_rfl); (case ho_8 => (simp only [List.getElem?_toArray, List.getElem?_cons_succ, List.getElem?_cons_zero]; rfl)); (case hS_8 => assumption); (case hQ_8 => exact fun _ _ _ h => h); (case hy_8 => (refine Or.inl ⟨by rfl, ?_⟩; (intro w hSw; (try dsimp only at hSw); go_simp) <;> with_reducible rfl)); (try simp only [Act.put, List.setIfInBounds_toArray, List.set_cons_zero, List.set_cons_succ]))
  (refine wpAnyH_take (i := 16) (oi := ?oi_9) (v := ?v_9) ?ho_9 ?hs_9 ?hf_9 ?hr_9 ?hQ_9 ?hy_9 ?hS_9 ?rest_9; (case hr_9 => kernel_rfl); (case hf_9 => kernel_rfl); (case hs_9 => kernel_rfl); (case ho_9 => (simp only [List.getElem?_toArray, List.getElem?_cons_succ, List.getElem?_cons_zero]; rfl)); (case hS_9 => assumption); (case hQ_9 => exact fun _ _ _ h => h); (case hy_9 => (refine Or.inl ⟨by rfl, ?_⟩; (intro w hSw; (try dsimp only at hSw); go_simp) <;> with_reducible rfl)); (try simp only [Act.put, List.setIfInBounds_toArray, List.set_cons_zero, List.set_cons_succ]))
  (refine wpAnyH_take (i := 17) (oi := ?oi_10) (v := ?v_10) ?ho_10 ?hs_10 ?hf_10 ?hr_10 ?hQ_10 ?hy_10 ?hS_10 ?rest_10; (case hr_10 => kernel_rfl); (case hf_10 => kernel_rfl); (case hs_10 => kernel_rfl); (case ho_10 => (simp only [List.getElem?_toArray, List.getElem?_cons_succ, List.getElem?_cons_zero]; rfl)); (case hS_10 => assumption); (case hQ_10 => exact fun _ _ _ h => h); (case hy_10 => (refine Or.inl ⟨by rfl, ?_⟩; (intro w hSw; (try dsimp only at hSw); go_simp) <;> with_reducible rfl)); (try simp only [Act.put, List.setIfInBounds_toArray, List.set_cons_zero, List.set_cons_succ]))
  (refine wpAnyH_take (i := 19) (oi := ?oi_11) (v := ?v_11) ?ho_11 ?hs_11 ?hf_11 ?hr_11 ?hQ_11 ?hy_11 ?hS_11 ?rest_11; (case hr_11 => kernel_rfl); (case hf_11 => kernel_rfl); (case hs_11 => kernel_rfl); (case ho_11 => (simp only [List.getElem?_toArray, List.getElem?_cons_succ, List.getElem?_cons_zero]; rfl)); (case hS_11 => assumption); (case hQ_11 => exact fun _ _ _ h => h); (case hy_11 => (refine Or.inl ⟨by rfl, ?_⟩; (intro w hSw; (try dsimp only at hSw); go_simp) <;> with_reducible rfl)); (try simp only [Act.put, List.setIfInBounds_toArray, List.set_cons_zero, List.set_cons_succ]))
  (refine wpAnyH_take (i := 20) (oi := ?oi_12) (v := ?v_12) ?ho_12 ?hs_12 ?hf_12 ?hr_12 ?hQ_12 ?hy_12 ?hS_12 ?rest_12; (case hr_12 => kernel_rfl); (case hf_12 => kernel_rfl); (case hs_12 => kernel_rfl); (case ho_12 => (simp only [List.getElem?_toArray, List.getElem?_cons_succ, List.getElem?_cons_zero]; rfl)); (case hS_12 => assumption); (case hQ_12 => exact fun _ _ _ h => h); (case hy_12 => (refine Or.inl ⟨by rfl, ?_⟩; (intro w hSw; (try dsimp only at hSw); go_simp) <;> with_reducible rfl)); (try simp only [Act.put, List.setIfInBounds_toArray, List.set_cons_zero, List.set_cons_succ]))
  (refine wpAnyH_take (i := 21) (oi := ?oi_13) (v := ?v_13) ?ho_13 ?hs_13 ?hf_13 ?hr_13 ?hQ_13 ?hy_13 ?hS_13 ?rest_13; (case hr_13 => kernel_rfl); (case hf_13 => kernel_rfl); (case hs_13 => kernel_rfl); (case ho_13 => (simp only [List.getElem?_toArray, List.getElem?_cons_succ, List.getElem?_cons_zero]; rfl)); (case hS_13 => assumption); (case hQ_13 => exact fun _ _ _ h => h); (case hy_13 => (refine Or.inl ⟨by rfl, ?_⟩; (intro w hSw; (try dsimp only at hSw); go_simp) <;> with_reducible rfl)); (try simp only [Act.put, List.setIfInBounds_toArray, List.set_cons_zero, List.set_cons_succ]))
  (refine wpAnyH_take (i := 22) (oi := ?oi_14) (v := ?v_14) ?ho_14 ?hs_14 ?hf_14 ?hr_14 ?hQ_14 ?hy_14 ?hS_14 ?rest_14; (case hr_14 => kernel_rfl); (case hf_14 => kernel_rfl); (case hs_14 => kernel_rfl); (case ho_14 => (simp only [List.getElem?_toArray, List.getElem?_cons_succ, List.getElem?_cons_zero]; rfl)); (case hS_14 => assumption); (case hQ_14 => exact fun _ _ _ h => h); (case hy_14 => (refine Or.inl ⟨by rfl, ?_⟩; (intro w hSw; (try dsimp only at hSw); go_simp) <;> with_reducible rfl)); (try simp only [Act.put, List.setIfInBounds_toArray, List.set_cons_zero, List.set_cons_succ]))
  refine wpAnyH_ready (rs := [1, 23]) (by kernel_rfl) (by simp) ?_
  refine AllReadyH.cons (o := ?oo15_0) ?ho15_0 ?hs15_0 (AllReadyH.cons (o := ?oo15_1) ?ho15_1 ?hs15_1 AllReadyH.nil)
  case ho15_0 => (simp only [List.getElem?_toArray, List.getElem?_cons_succ, List.getElem?_cons_zero]; rfl)
  case ho15_1 => (simp only [List.getElem?_toArray, List.getElem?_cons_succ, List.getElem?_cons_zero]; rfl)
  case hs15_0 =>
    intro K hK; go_simp; go_at_call 42; refine (refField 0 1 _ (by omega) (by omega) (by decide)).mono ?_; rintro en wn ⟨rfl, hu⟩
    have x0 := hu.cell x0 fun h => h; have x1 := hu.cell x1 fun h => h; have x4 := hu.cell x4 fun h => h
    have hU := (by first | exact hU.trans hu fun _ _ h => h | exact (hU.then_drew).trans hu fun _ _ h => h : Upd Non w wn)
    try have hB := hB.non hu
    clear hu
    try go_wp2_with fail
    refine hK.out _ _ ?_ (fun hHeld => ?_)
    · (try dsimp only); first | exact ⟨x0, x1, x4⟩ | exact ⟨(Upd.alloc Non _ _).cell x0 fun h => h, (Upd.alloc Non _ _).cell x1 fun h => h, (Upd.alloc Non _ _).cell x4 fun h => h⟩
    clear hK K
    try simp only [Act.put, List.setIfInBounds_toArray, List.set_cons_zero, List.set_cons_succ]
    (refine wpAnyH_take (i := 2) (oi := ?oi_16) (v := ?v_16) ?ho_16 ?hs_16 ?hf_16 ?hr_16 ?hQ_16 ?hy_16 ?hS_16 ?rest_16; (case hr_16 => kernel_rfl); (case hf_16 => kernel_rfl); (case hs_16 => kernel_rfl); (case ho_16 => (simp only [List.getElem?_toArray, List.getElem?_cons_succ, List.getElem?_cons_zero]; rfl)); (case hS_16 => assumption); (case hQ_16 => exact fun _ _ _ h => h); (case hy_16 => (refine Or.inl ⟨by rfl, ?_⟩; (intro w hSw; (try dsimp only at hSw); go_simp) <;> with_reducible rfl)); (try simp only [Act.put, List.setIfInBounds_toArray, List.set_cons_zero, List.set_cons_succ]))
    refine wpAnyH_ready (rs := [5, 23]) (by kernel_rfl) (by simp) ?_
    refine AllReadyH.cons (o := ?oo17_0) ?ho17_0 ?hs17_0 (AllReadyH.cons (o := ?oo17_1) ?ho17_1 ?hs17_1 AllReadyH.nil)
    case ho17_0 => (simp only [List.getElem?_toArray, List.getElem?_cons_succ, List.getElem?_cons_zero]; rfl)
    case ho17_1 => (simp only [List.getElem?_toArray, List.getElem?_cons_succ, List.getElem?_cons_zero]; rfl)
    case hs17_0 =>
      intro K hK; go_simp; go_at_call 42; refine (refField e 4 _ (by omega) (by omega) (by decide)).mono ?_; rintro en wn ⟨rfl, hu⟩
      have x0 := hu.cell x0 fun h => h; have x1 := hu.cell x1 fun h => h; have x4 := hu.cell x4 fun h => h
      have hU := (by first | exact hU.trans hu fun _ _ h => h | exact (hU.then_drew).trans hu fun _ _ h => h : Upd Non w wn)
      try have hB := hB.non hu
      clear hu
      try go_wp2_with fail
      refine hK.out _ _ ?_ (fun hHeld => ?_)
      · (try dsimp only); first | exact ⟨x0, x1, x4⟩ | exact ⟨(Upd.alloc Non _ _).cell x0 fun h => h, (Upd.alloc Non _ _).cell x1 fun h => h, (Upd.alloc Non _ _).cell x4 fun h => h⟩
      clear hK K
      try simp only [Act.put, List.setIfInBounds_toArray, List.set_cons_zero, List.set_cons_succ]
      (refine wpAnyH_take (i := 6) (oi := ?oi_18) (v := ?v_18) ?ho_18 ?hs_18 ?hf_18 ?hr_18 ?hQ_18 ?hy_18 ?hS_18 ?rest_18; (case hr_18 => kernel_rfl); (case hf_18 => kernel_rfl); (case hs_18 => kernel_rfl); (case ho_18 => (simp only [List.getElem?_toArray, List.getElem?_cons_succ, List.getElem?_cons_zero]; rfl)); (case hS_18 => assumption); (case hQ_18 => exact fun _ _ _ h => h); (case hy_18 => (refine Or.inl ⟨by rfl, ?_⟩; (intro w hSw; (try dsimp only at hSw); go_simp) <;> with_reducible rfl)); (try simp only [Act.put, List.setIfInBounds_toArray, List.set_cons_zero, List.set_cons_succ]))
      refine wpAnyH_ready (rs := [9, 23]) (by kernel_rfl) (by simp) ?_
      refine AllReadyH.cons (o := ?oo19_0) ?ho19_0 ?hs19_0 (AllReadyH.cons (o := ?oo19_1) ?ho19_1 ?hs19_1 AllReadyH.nil)
      case ho19_0 => (simp only [List.getElem?_toArray, List.getElem?_cons_succ, List.getElem?_cons_zero]; rfl)
      case ho19_1 => (simp only [List.getElem?_toArray, List.getElem?_cons_succ, List.getElem?_cons_zero]; rfl)
      case hs19_0 =>
        intro K hK; go_simp; go_at_call 42; refine (refField q 8 _ (by omega) (by omega) (by decide)).mono ?_; rintro en wn ⟨rfl, hu⟩
        have x0 := hu.cell x0 fun h => h; have x1 := hu.cell x1 fun h => h; have x4 := hu.cell x4 fun h => h
        have hU := (by first | exact hU.trans hu fun _ _ h => h | exact (hU.then_drew).trans hu fun _ _ h => h : Upd Non w wn)
        try have hB := hB.non hu
        clear hu
        try go_wp2_with fail
        refine hK.out _ _ ?_ (fun hHeld => ?_)
        · (try dsimp only); first | exact ⟨x0, x1, x4⟩ | exact ⟨(Upd.alloc Non _ _).cell x0 fun h => h, (Upd.alloc Non _ _).cell x1 fun h => h, (Upd.alloc Non _ _).cell x4 fun h => h⟩
        clear hK K
        try simp only [Act.put, List.setIfInBounds_toArray, List.set_cons_zero, List.set_cons_succ]
        (refine wpAnyH_take (i := 10) (oi := ?oi_20) (v := ?v_20) ?ho_20 ?hs_20 ?hf_20 ?hr_20 ?hQ_20 ?hy_20 ?hS_20 ?rest_20; (case hr_20 => kernel_rfl); (case hf_20 => kernel_rfl); (case hs_20 => kernel_rfl); (case ho_20 => (simp only [List.getElem?_toArray, List.getElem?_cons_succ, List.getElem?_cons_zero]; rfl)); (case hS_20 => assumption); (case hQ_20 => exact fun _ _ _ h => h); (case hy_20 => (refine Or.inl ⟨by rfl, ?_⟩; (intro w hSw; (try dsimp only at hSw); go_simp) <;> with_reducible rfl)); (try simp only [Act.put, List.setIfInBounds_toArray, List.set_cons_zero, List.set_cons_succ]))
        refine wpAnyH_ready (rs := [14, 23]) (by kernel_rfl) (by simp) ?_
        refine AllReadyH.cons (o := ?oo21_0) ?ho21_0 ?hs21_0 (AllReadyH.cons (o := ?oo21_1) ?ho21_1 ?hs21_1 AllReadyH.nil)
        case ho21_0 => (simp only [List.getElem?_toArray, List.getElem?_cons_succ, List.getElem?_cons_zero]; rfl)
        case ho21_1 => (simp only [List.getElem?_toArray, List.getElem?_cons_succ, List.getElem?_cons_zero]; rfl)
        case hs21_0 =>
          intro K hK; go_simp; go_at_call 42; refine (refField (d.length : Int) 2 _ (by omega) (by omega) (by decide)).mono ?_; rintro en wn ⟨rfl, hu⟩
          have x0 := hu.cell x0 fun h => h; have x1 := hu.cell x1 fun h => h; have x4 := hu.cell x4 fun h => h
          have hU := (by first | exact hU.trans hu fun _ _ h => h | exact (hU.then_drew).trans hu fun _ _ h => h : Upd Non w wn)
          try have hB := hB.non hu
          clear hu
          try go_wp2_with fail
          refine hK.out _ _ ?_ (fun hHeld => ?_)
          · (try dsimp only); first | exact ⟨x0, x1, x4⟩ | exact ⟨(Upd.alloc Non _ _).cell x0 fun h => h, (Upd.alloc Non _ _).cell x1 fun h => h, (Upd.alloc Non _ _).cell x4 fun h => h⟩
          clear hK K
          try simp only [Act.put, List.setIfInBounds_toArray, List.set_cons_zero, List.set_cons_succ]
          (refine wpAnyH_take (i := 15) (oi := ?oi_22) (v := ?v_22) ?ho_22 ?hs_22 ?hf_22 ?hr_22 ?hQ_22 ?hy_22 ?hS_22 ?rest_22; (case hr_22 => kernel_rfl); (case hf_22 => kernel_rfl); (case hs_22 => kernel_rfl); (case ho_22 => (simp only [List.getElem?_toArray, List.getElem?_cons_succ, List.getElem?_cons_zero]; rfl)); (case hS_22 => assumption); (case hQ_22 => exact fun _ _ _ h => h); (case hy_22 => (refine Or.inl ⟨by rfl, ?_⟩; (intro w hSw; (try dsimp only at hSw); go_simp) <;> with_reducible rfl)); (try simp only [Act.put, List.setIfInBounds_toArray, List.set_cons_zero, List.set_cons_succ]))
          (refine wpAnyH_take (i := 18) (oi := ?oi_23) (v := ?v_23) ?ho_23 ?hs_23 ?hf_23 ?hr_23 ?hQ_23 ?hy_23 ?hS_23 ?rest_23; (case hr_23 => kernel_rfl); (case hf_23 => kernel_rfl); (case hs_23 => kernel_rfl); (case ho_23 => (simp only [List.getElem?_toArray, List.getElem?_cons_succ, List.getElem?_cons_zero]; rfl)); (case hS_23 => assumption); (case hQ_23 => exact fun _ _ _ h => h); (case hy_23 => (refine Or.inl ⟨by rfl, ?_⟩; (intro w hSw; (try dsimp only at hSw); go_simp) <;> with_reducible rfl)); (try simp only [Act.put, List.setIfInBounds_toArray, List.set_cons_zero, List.set_cons_succ]))
          refine wpAnyH_ready (rs := [23]) (by kernel_rfl) (by simp) ?_
          refine AllReadyH.cons (o := ?oo24_0) ?ho24_0 ?hs24_0 AllReadyH.nil
          case ho24_0 => (simp only [List.getElem?_toArray, List.getElem?_cons_succ, List.getElem?_cons_zero]; rfl)
          case hs24_0 =>
            intro K hK; have hmk := hmk0; go_simp; clear hmk
            try go_wp2_with fail
            refine hK.out _ _ ?_ (fun hHeld => ?_)
            · (try dsimp only); exact ⟨(Upd.alloc Non _ _).cell x0 fun h => h, (Upd.alloc Non _ _).cell x1 fun h => h, (Upd.alloc Non _ _).cell x4 fun h => h⟩
            clear hK K
            try simp only [Act.put, List.setIfInBounds_toArray, List.set_cons_zero, List.set_cons_succ]
            obtain ⟨hB, hU, x0, x1, x4⟩ := made_noughts hU x0 x1 x4 5 (108 - d.length) (by omega)
            refine wpAnyH_ready (rs := [24]) (by kernel_rfl) (by simp) ?_
            refine AllReadyH.cons (o := ?oo25_0) ?ho25_0 ?hs25_0 AllReadyH.nil
            case ho25_0 => (simp only [List.getElem?_toArray, List.getElem?_cons_succ, List.getElem?_cons_zero]; rfl)
            case hs25_0 =>
              intro K hK; have hst := run_str (P := Try.prog) _ 42 9 5 Try.underlying42 Try.underlying5 Try.underlying9 _ _ hB; go_simp; clear hst
              try go_wp2_with fail
              refine hK.out _ _ ?_ (fun hHeld => ?_)
              · (try dsimp only); first | exact ⟨x0, x1, x4⟩ | exact ⟨(Upd.alloc Non _ _).cell x0 fun h => h, (Upd.alloc Non _ _).cell x1 fun h => h, (Upd.alloc Non _ _).cell x4 fun h => h⟩
              clear hK K
              try simp only [Act.put, List.setIfInBounds_toArray, List.set_cons_zero, List.set_cons_succ]
              (refine wpAnyH_take (i := 25) (oi := ?oi_26) (v := ?v_26) ?ho_26 ?hs_26 ?hf_26 ?hr_26 ?hQ_26 ?hy_26 ?hS_26 ?rest_26; (case hr_26 => kernel_rfl); (case hf_26 => kernel_rfl); (case hs_26 => kernel_rfl); (case ho_26 => (simp only [List.getElem?_toArray, List.getElem?_cons_succ, List.getElem?_cons_zero]; rfl)); (case hS_26 => assumption); (case hQ_26 => exact fun _ _ _ h => h); (case hy_26 => (refine Or.inl ⟨by rfl, ?_⟩; (intro w hSw; (try dsimp only at hSw); go_simp) <;> with_reducible rfl)); (try simp only [Act.put, List.setIfInBounds_toArray, List.set_cons_zero, List.set_cons_succ]))
              (refine wpAnyH_take (i := 26) (oi := ?oi_27) (v := ?v_27) ?ho_27 ?hs_27 ?hf_27 ?hr_27 ?hQ_27 ?hy_27 ?hS_27 ?rest_27; (case hr_27 => kernel_rfl); (case hf_27 => kernel_rfl); (case hs_27 => kernel_rfl); (case ho_27 => (simp only [List.getElem?_toArray, List.getElem?_cons_succ, List.getElem?_cons_zero]; rfl)); (case hS_27 => assumption); (case hQ_27 => exact fun _ _ _ h => h); (case hy_27 => (refine Or.inl ⟨by rfl, ?_⟩; (intro w hSw; (try dsimp only at hSw); go_simp) <;> with_reducible rfl)); (try simp only [Act.put, List.setIfInBounds_toArray, List.set_cons_zero, List.set_cons_succ]))
              refine wpAnyH_done (by kernel_rfl) ?_ _
              try rw [hstr]
              go_wp2_with fail
              refine (refSum BB _ (by have := hBBl.out; omega)).mono ?_
              rintro en wa ⟨rfl, hua⟩
              rw [hsm.out]
              go_wp2_with fail
              refine (refField (sm : Int) 4 _ (by omega) (by omega) (by decide)).mono ?_
              rintro en wb ⟨rfl, hub⟩
              have hUb := (hU.trans hua fun _ _ h => h).trans hub fun _ _ h => h
              go_wp2_with fail
              go_ret
              refine ⟨?_, hUb⟩
              rw [app_str, hslot.out]
              simp
        case hs21_1 =>
          intro K hK; have hmk := hmk0; go_simp; clear hmk
          try go_wp2_with fail
          refine hK.out _ _ ?_ (fun hHeld => ?_)
          · (try dsimp only); exact ⟨(Upd.alloc Non _ _).cell x0 fun h => h, (Upd.alloc Non _ _).cell x1 fun h => h, (Upd.alloc Non _ _).cell x4 fun h => h⟩
          clear hK K
          try simp only [Act.put, List.setIfInBounds_toArray, List.set_cons_zero, List.set_cons_succ]
          obtain ⟨hB, hU, x0, x1, x4⟩ := made_noughts hU x0 x1 x4 5 (108 - d.length) (by omega)
          refine wpAnyH_ready (rs := [14, 24]) (by kernel_rfl) (by simp) ?_
          refine AllReadyH.cons (o := ?oo28_0) ?ho28_0 ?hs28_0 (AllReadyH.cons (o := ?oo28_1) ?ho28_1 ?hs28_1 AllReadyH.nil)
          case ho28_0 => (simp only [List.getElem?_toArray, List.getElem?_cons_succ, List.getElem?_cons_zero]; rfl)
          case ho28_1 => (simp only [List.getElem?_toArray, List.getElem?_cons_succ, List.getElem?_cons_zero]; rfl)
          case hs28_0 =>
            intro K hK; go_simp; go_at_call 42; refine (refField (d.length : Int) 2 _ (by omega) (by omega) (by decide)).mono ?_; rintro en wn ⟨rfl, hu⟩
            have x0 := hu.cell x0 fun h => h; have x1 := hu.cell x1 fun h => h; have x4 := hu.cell x4 fun h => h
            have hU := (by first | exact hU.trans hu fun _ _ h => h | exact (hU.then_drew).trans hu fun _ _ h => h : Upd Non w wn)
            try have hB := hB.non hu
            clear hu
            try go_wp2_with fail
            refine hK.out _ _ ?_ (fun hHeld => ?_)
            · (try dsimp only); first | exact ⟨x0, x1, x4⟩ | exact ⟨(Upd.alloc Non _ _).cell x0 fun h => h, (Upd.alloc Non _ _).cell x1 fun h => h, (Upd.alloc Non _ _).cell x4 fun h => h⟩
            clear hK K
            try simp only [Act.put, List.setIfInBounds_toArray, List.set_cons_zero, List.set_cons_succ]
            (refine wpAnyH_take (i := 15) (oi := ?oi_29) (v := ?v_29) ?ho_29 ?hs_29 ?hf_29 ?hr_29 ?hQ_29 ?hy_29 ?hS_29 ?rest_29; (case hr_29 => kernel_rfl); (case hf_29 => kernel_rfl); (case hs_29 => kernel_rfl); (case ho_29 => (simp only [List.getElem?_toArray, List.getElem?_cons_succ, List.getElem?_cons_zero]; rfl)); (case hS_29 => assumption); (case hQ_29 => exact fun _ _ _ h => h); (case hy_29 => (refine Or.inl ⟨by rfl, ?_⟩; (intro w hSw; (try dsimp only at hSw); go_simp) <;> with_reducible rfl)); (try simp only [Act.put, List.setIfInBounds_toArray, List.set_cons_zero, List.set_cons_succ]))
            (refine wpAnyH_take (i := 18) (oi := ?oi_30) (v := ?v_30) ?ho_30 ?hs_30 ?hf_30 ?hr_30 ?hQ_30 ?hy_30 ?hS_30 ?rest_30; (case hr_30 => kernel_rfl); (case hf_30 => kernel_rfl); (case hs_30 => kernel_rfl); (case ho_30 => (simp only [List.getElem?_toArray, List.getElem?_cons_succ, List.getElem?_cons_zero]; rfl)); (case hS_30 => assumption); (case hQ_30 => exact fun _ _ _ h => h); (case hy_30 => (refine Or.inl ⟨by rfl, ?_⟩; (intro w hSw; (try dsimp only at hSw); go_simp) <;> with_reducible rfl)); (try simp only [Act.put, List.setIfInBounds_toArray, List.set_cons_zero, List.set_cons_succ]))
            refine wpAnyH_ready (rs := [24]) (by kernel_rfl) (by simp) ?_
            refine AllReadyH.cons (o := ?oo31_0) ?ho31_0 ?hs31_0 AllReadyH.nil
            case ho31_0 => (simp only [List.getElem?_toArray, List.getElem?_cons_succ, List.getElem?_cons_zero]; rfl)
            case hs31_0 =>
              intro K hK; have hst := run_str (P := Try.prog) _ 42 9 5 Try.underlying42 Try.underlying5 Try.underlying9 _ _ hB; go_simp; clear hst
              try go_wp2_with fail
              refine hK.out _ _ ?_ (fun hHeld => ?_)
              · (try dsimp only); first | exact ⟨x0, x1, x4⟩ | exact ⟨(Upd.alloc Non _ _).cell x0 fun h => h, (Upd.alloc Non _ _).cell x1 fun h => h, (Upd.alloc Non _ _).cell x4 fun h => h⟩
              clear hK K
              try simp only [Act.put, List.setIfInBounds_toArray, List.set_cons_zero, List.set_cons_succ]
              (refine wpAnyH_take (i := 25) (oi := ?oi_32) (v := ?v_32) ?ho_32 ?hs_32 ?hf_32 ?hr_32 ?hQ_32 ?hy_32 ?hS_32 ?rest_32; (case hr_32 => kernel_rfl); (case hf_32 => kernel_rfl); (case hs_32 => kernel_rfl); (case ho_32 => (simp only [List.getElem?_toArray, List.getElem?_cons_succ, List.getElem?_cons_zero]; rfl)); (case hS_32 => assumption); (case hQ_32 => exact fun _ _ _ h => h); (case hy_32 => (refine Or.inl ⟨by rfl, ?_⟩; (intro w hSw; (try dsimp only at hSw); go_simp) <;> with_reducible rfl)); (try simp only [Act.put, List.setIfInBounds_toArray, List.set_cons_zero, List.set_cons_succ]))
              (refine wpAnyH_take (i := 26) (oi := ?oi_33) (v := ?v_33) ?ho_33 ?hs_33 ?hf_33 ?hr_33 ?hQ_33 ?hy_33 ?hS_33 ?rest_33; (case hr_33 => kernel_rfl); (case hf_33 => kernel_rfl); (case hs_33 => kernel_rfl); (case ho_33 => (simp only [List.getElem?_toArray, List.getElem?_cons_succ, List.getElem?_cons_zero]; rfl)); (case hS_33 => assumption); (case hQ_33 => exact fun _ _ _ h => h); (case hy_33 => (refine Or.inl ⟨by rfl, ?_⟩; (intro w hSw; (try dsimp only at hSw); go_simp) <;> with_reducible rfl)); (try simp only [Act.put, List.setIfInBounds_toArray, List.set_cons_zero, List.set_cons_succ]))
              refine wpAnyH_done (by kernel_rfl) ?_ _
              try rw [hstr]
              go_wp2_with fail
              refine (refSum BB _ (by have := hBBl.out; omega)).mono ?_
              rintro en wa ⟨rfl, hua⟩
              rw [hsm.out]
              go_wp2_with fail
              refine (refField (sm : Int) 4 _ (by omega) (by omega) (by decide)).mono ?_
              rintro en wb ⟨rfl, hub⟩
              have hUb := (hU.trans hua fun _ _ h => h).trans hub fun _ _ h => h
              go_wp2_with fail
              go_ret
              refine ⟨?_, hUb⟩
              rw [app_str, hslot.out]
              simp
          case hs28_1 =>
            intro K hK; have hst := run_str (P := Try.prog) _ 42 9 5 Try.underlying42 Try.underlying5 Try.underlying9 _ _ hB; go_simp; clear hst
            try go_wp2_with fail
            refine hK.out _ _ ?_ (fun hHeld => ?_)
            · (try dsimp only); first | exact ⟨x0, x1, x4⟩ | exact ⟨(Upd.alloc Non _ _).cell x0 fun h => h, (Upd.alloc Non _ _).cell x1 fun h => h, (Upd.alloc Non _ _).cell x4 fun h => h⟩
            clear hK K
            try simp only [Act.put, List.setIfInBounds_toArray, List.set_cons_zero, List.set_cons_succ]
            refine wpAnyH_ready (rs := [14]) (by kernel_rfl) (by simp) ?_
            refine AllReadyH.cons (o := ?oo34_0) ?ho34_0 ?hs34_0 AllReadyH.nil
            case ho34_0 => (simp only [List.getElem?_toArray, List.getElem?_cons_succ, List.getElem?_cons_zero]; rfl)
            case hs34_0 =>
              intro K hK; go_simp; go_at_call 42; refine (refField (d.length : Int) 2 _ (by omega) (by omega) (by decide)).mono ?_; rintro en wn ⟨rfl, hu⟩
              have x0 := hu.cell x0 fun h => h; have x1 := hu.cell x1 fun h => h; have x4 := hu.cell x4 fun h => h
              have hU := (by first | exact hU.trans hu fun _ _ h => h | exact (hU.then_drew).trans hu fun _ _ h => h : Upd Non w wn)
              try have hB := hB.non hu
              clear hu
              try go_wp2_with fail
              refine hK.out _ _ ?_ (fun hHeld => ?_)
              · (try dsimp only); first | exact ⟨x0, x1, x4⟩ | exact ⟨(Upd.alloc Non _ _).cell x0 fun h => h, (Upd.alloc Non _ _).cell x1 fun h => h, (Upd.alloc Non _ _).cell x4 fun h => h⟩
              clear hK K
              try simp only [Act.put, List.setIfInBounds_toArray, List.set_cons_zero, List.set_cons_succ]
              (refine wpAnyH_take (i := 15) (oi := ?oi_35) (v := ?v_35) ?ho_35 ?hs_35 ?hf_35 ?hr_35 ?hQ_35 ?hy_35 ?hS_35 ?rest_35; (case hr_35 => kernel_rfl); (case hf_35 => kernel_rfl); (case hs_35 => kernel_rfl); (case ho_35 => (simp only [List.getElem?_toArray, List.getElem?_cons_succ, List.getElem?_cons_zero]; rfl)); (case hS_35 => assumption); (case hQ_35 => exact fun _ _ _ h => h); (case hy_35 => (refine Or.inl ⟨by rfl, ?_⟩; (intro w hSw; (try dsimp only at hSw); go_simp) <;> with_reducible rfl)); (try simp only [Act.put, List.setIfInBounds_toArray, List.set_cons_zero, List.set_cons_succ]))
              (refine wpAnyH_take (i := 18) (oi := ?oi_36) (v := ?v_36) ?ho_36 ?hs_36 ?hf_36 ?hr_36 ?hQ_36 ?hy_36 ?hS_36 ?rest_36; (case hr_36 => kernel_rfl); (case hf_36 => kernel_rfl); (case hs_36 => kernel_rfl); (case ho_36 => (simp only [List.getElem?_toArray, List.getElem?_cons_succ, List.getElem?_cons_zero]; rfl)); (case hS_36 => assumption); (case hQ_36 => exact fun _ _ _ h => h); (case hy_36 => (refine Or.inl ⟨by rfl, ?_⟩; (intro w hSw; (try dsimp only at hSw); go_simp) <;> with_reducible rfl)); (try simp only [Act.put, List.setIfInBounds_toArray, List.set_cons_zero, List.set_cons_succ]))
              (refine wpAnyH_take (i := 25) (oi := ?oi_37) (v := ?v_37) ?ho_37 ?hs_37 ?hf_37 ?hr_37 ?hQ_37 ?hy_37 ?hS_37 ?rest_37; (case hr_37 => kernel_rfl); (case hf_37 => kernel_rfl); (case hs_37 => kernel_rfl); (case ho_37 => (simp only [List.getElem?_toArray, List.getElem?_cons_succ, List.getElem?_cons_zero]; rfl)); (case hS_37 => assumption); (case hQ_37 => exact fun _ _ _ h => h); (case hy_37 => (refine Or.inl ⟨by rfl, ?_⟩; (intro w hSw; (try dsimp only at hSw); go_simp) <;> with_reducible rfl)); (try simp only [Act.put, List.setIfInBounds_toArray, List.set_cons_zero, List.set_cons_succ]))
              (refine wpAnyH_take (i := 26) (oi := ?oi_38) (v := ?v_38) ?ho_38 ?hs_38 ?hf_38 ?hr_38 ?hQ_38 ?hy_38 ?hS_38 ?rest_38; (case hr_38 => kernel_rfl); (case hf_38 => kernel_rfl); (case hs_38 => kernel_rfl); (case ho_38 => (simp only [List.getElem?_toArray, List.getElem?_cons_succ, List.getElem?_cons_zero]; rfl)); (case hS_38 => assumption); (case hQ_38 => exact fun _ _ _ h => h); (case hy_38 => (refine Or.inl ⟨by rfl, ?_⟩; (intro w hSw; (try dsimp only at hSw); go_simp) <;> with_reducible rfl)); (try simp only [Act.put, List.setIfInBounds_toArray, List.set_cons_zero, List.set_cons_succ]))
              refine wpAnyH_done (by kernel_rfl) ?_ _
              try rw [hstr]
              go_wp2_with fail
              refine (refSum BB _ (by have := hBBl.out; omega)).mono ?_
              rintro en wa ⟨rfl, hua⟩
              rw [hsm.out]
              go_wp2_with fail
              refine (refField (sm : Int) 4 _ (by omega) (by omega) (by decide)).mono ?_
              rintro en wb ⟨rfl, hub⟩
              have hUb := (hU.trans hua fun _ _ h => h).trans hub fun _ _ h => h
              go_wp2_with fail
              go_ret
              refine ⟨?_, hUb⟩
              rw [app_str, hslot.out]
              simp
      case hs19_1 =>
        intro K hK; have hmk := hmk0; go_simp; clear hmk
        try go_wp2_with fail
        refine hK.out _ _ ?_ (fun hHeld => ?_)
        · (try dsimp only); exact ⟨(Upd.alloc Non _ _).cell x0 fun h => h, (Upd.alloc Non _ _).cell x1 fun h => h, (Upd.alloc Non _ _).cell x4 fun h => h⟩
        clear hK K
        try simp only [Act.put, List.setIfInBounds_toArray, List.set_cons_zero, List.set_cons_succ]
        obtain ⟨hB, hU, x0, x1, x4⟩ := made_noughts hU x0 x1 x4 5 (108 - d.length) (by omega)
        refine wpAnyH_ready (rs := [9, 24]) (by kernel_rfl) (by simp) ?_
        refine AllReadyH.cons (o := ?oo39_0) ?ho39_0 ?hs39_0 (AllReadyH.cons (o := ?oo39_1) ?ho39_1 ?hs39_1 AllReadyH.nil)
        case ho39_0 => (simp only [List.getElem?_toArray, List.getElem?_cons_succ, List.getElem?_cons_zero]; rfl)
        case ho39_1 => (simp only [List.getElem?_toArray, List.getElem?_cons_succ, List.getElem?_cons_zero]; rfl)
        case hs39_0 =>
          intro K hK; go_simp; go_at_call 42; refine (refField q 8 _ (by omega) (by omega) (by decide)).mono ?_; rintro en wn ⟨rfl, hu⟩
          have x0 := hu.cell x0 fun h => h; have x1 := hu.cell x1 fun h => h; have x4 := hu.cell x4 fun h => h
          have hU := (by first | exact hU.trans hu fun _ _ h => h | exact (hU.then_drew).trans hu fun _ _ h => h : Upd Non w wn)
          try have hB := hB.non hu
          clear hu
          try go_wp2_with fail
          refine hK.out _ _ ?_ (fun hHeld => ?_)
          · (try dsimp only); first | exact ⟨x0, x1, x4⟩ | exact ⟨(Upd.alloc Non _ _).cell x0 fun h => h, (Upd.alloc Non _ _).cell x1 fun h => h, (Upd.alloc Non _ _).cell x4 fun h => h⟩
          clear hK K
          try simp only [Act.put, List.setIfInBounds_toArray, List.set_cons_zero, List.set_cons_succ]
          (refine wpAnyH_take (i := 10) (oi := ?oi_40) (v := ?v_40) ?ho_40 ?hs_40 ?hf_40 ?hr_40 ?hQ_40 ?hy_40 ?hS_40 ?rest_40; (case hr_40 => kernel_rfl); (case hf_40 => kernel_rfl); (case hs_40 => kernel_rfl); (case ho_40 => (simp only [List.getElem?_toArray, List.getElem?_cons_succ, List.getElem?_cons_zero]; rfl)); (case hS_40 => assumption); (case hQ_40 => exact fun _ _ _ h => h); (case hy_40 => (refine Or.inl ⟨by rfl, ?_⟩; (intro w hSw; (try dsimp only at hSw); go_simp) <;> with_reducible rfl)); (try simp only [Act.put, List.setIfInBounds_toArray, List.set_cons_zero, List.set_cons_succ]))
          refine wpAnyH_ready (rs := [14, 24]) (by kernel_rfl) (by simp) ?_
          refine AllReadyH.cons (o := ?oo41_0) ?ho41_0 ?hs41_0 (AllReadyH.cons (o := ?oo41_1) ?ho41_1 ?hs41_1 AllReadyH.nil)
          case ho41_0 => (simp only [List.getElem?_toArray, List.getElem?_cons_succ, List.getElem?_cons_zero]; rfl)
          case ho41_1 => (simp only [List.getElem?_toArray, List.getElem?_cons_succ, List.getElem?_cons_zero]; rfl)
          case hs41_0 =>
            intro K hK; go_simp; go_at_call 42; refine (refField (d.length : Int) 2 _ (by omega) (by omega) (by decide)).mono ?_; rintro en wn ⟨rfl, hu⟩
            have x0 := hu.cell x0 fun h => h; have x1 := hu.cell x1 fun h => h; have x4 := hu.cell x4 fun h => h
            have hU := (by first | exact hU.trans hu fun _ _ h => h | exact (hU.then_drew).trans hu fun _ _ h => h : Upd Non w wn)
            try have hB := hB.non hu
            clear hu
            try go_wp2_with fail
            refine hK.out _ _ ?_ (fun hHeld => ?_)
            · (try dsimp only); first | exact ⟨x0, x1, x4⟩ | exact ⟨(Upd.alloc Non _ _).cell x0 fun h => h, (Upd.alloc Non _ _).cell x1 fun h => h, (Upd.alloc Non _ _).cell x4 fun h => h⟩
            clear hK K
            try simp only [Act.put, List.setIfInBounds_toArray, List.set_cons_zero, List.set_cons_succ]
            (refine wpAnyH_take (i := 15) (oi := ?oi_42) (v := ?v_42) ?ho_42 ?hs_42 ?hf_42 ?hr_42 ?hQ_42 ?hy_42 ?hS_42 ?rest_42; (case hr_42 => kernel_rfl); (case hf_42 => kernel_rfl); (case hs_42 => kernel_rfl); (case ho_42 => (simp only [List.getElem?_toArray, List.getElem?_cons_succ, List.getElem?_cons_zero]; rfl)); (case hS_42 => assumption); (case hQ_42 => exact fun _ _ _ h => h); (case hy_42 => (refine Or.inl ⟨by rfl, ?_⟩; (intro w hSw; (try dsimp only at hSw); go_simp) <;> with_reducible rfl)); (try simp only [Act.put, List.setIfInBounds_toArray, List.set_cons_zero, List.set_cons_succ]))
            (refine wpAnyH_take (i := 18) (oi := ?oi_43) (v := ?v_43) ?ho_43 ?hs_43 ?hf_43 ?hr_43 ?hQ_43 ?hy_43 ?hS_43 ?rest_43; (case hr_43 => kernel_rfl); (case hf_43 => kernel_rfl); (case hs_43 => kernel_rfl); (case ho_43 => (simp only [List.getElem?_toArray, List.getElem?_cons_succ, List.getElem?_cons_zero]; rfl)); (case hS_43 => assumption); (case hQ_43 => exact fun _ _ _ h => h); (case hy_43 => (refine Or.inl ⟨by rfl, ?_⟩; (intro w hSw; (try dsimp only at hSw); go_simp) <;> with_reducible rfl)); (try simp only [Act.put, List.setIfInBounds_toArray, List.set_cons_zero, List.set_cons_succ]))
            refine wpAnyH_ready (rs := [24]) (by kernel_rfl) (by simp) ?_
            refine AllReadyH.cons (o := ?oo44_0) ?ho44_0 ?hs44_0 AllReadyH.nil
            case ho44_0 => (simp only [List.getElem?_toArray, List.getElem?_cons_succ, List.getElem?_cons_zero]; rfl)
            case hs44_0 =>
              intro K hK; have hst := run_str (P := Try.prog) _ 42 9 5 Try.underlying42 Try.underlying5 Try.underlying9 _ _ hB; go_simp; clear hst
              try go_wp2_with fail
              refine hK.out _ _ ?_ (fun hHeld => ?_)
              · (try dsimp only); first | exact ⟨x0, x1, x4⟩ | exact ⟨(Upd.alloc Non _ _).cell x0 fun h => h, (Upd.alloc Non _ _).cell x1 fun h => h, (Upd.alloc Non _ _).cell x4 fun h => h⟩
              clear hK K
              try simp only [Act.put, List.setIfInBounds_toArray, List.set_cons_zero, List.set_cons_succ]
              (refine wpAnyH_take (i := 25) (oi := ?oi_45) (v := ?v_45) ?ho_45 ?hs_45 ?hf_45 ?hr_45 ?hQ_45 ?hy_45 ?hS_45 ?rest_45; (case hr_45 => kernel_rfl); (case hf_45 => kernel_rfl); (case hs_45 => kernel_rfl); (case ho_45 => (simp only [List.getElem?_toArray, List.getElem?_cons_succ, List.getElem?_cons_zero]; rfl)); (case hS_45 => assumption); (case hQ_45 => exact fun _ _ _ h => h); (case hy_45 => (refine Or.inl ⟨by rfl, ?_⟩; (intro w hSw; (try dsimp only at hSw); go_simp) <;> with_reducible rfl)); (try simp only [Act.put, List.setIfInBounds_toArray, List.set_cons_zero, List.set_cons_succ]))
              (refine wpAnyH_take (i := 26) (oi := ?oi_46) (v := ?v_46) ?ho_46 ?hs_46 ?hf_46 ?hr_46 ?hQ_46 ?hy_46 ?hS_46 ?rest_46; (case hr_46 => kernel_rfl); (case hf_46 => kernel_rfl); (case hs_46 => kernel_rfl); (case ho_46 => (simp only [List.getElem?_toArray, List.getElem?_cons_succ, List.getElem?_cons_zero]; rfl)); (case hS_46 => assumption); (case hQ_46 => exact fun _ _ _ h => h); (case hy_46 => (refine Or.inl ⟨by rfl, ?_⟩; (intro w hSw; (try dsimp only at hSw); go_simp) <;> with_reducible rfl)); (try simp only [Act.put, List.setIfInBounds_toArray, List.set_cons_zero, List.set_cons_succ]))
              refine wpAnyH_done (by kernel_rfl) ?_ _
              try rw [hstr]
              go_wp2_with fail
              refine (refSum BB _ (by have := hBBl.out; omega)).mono ?_
              rintro en wa ⟨rfl, hua⟩
              rw [hsm.out]
              go_wp2_with fail
              refine (refField (sm : Int) 4 _ (by omega) (by omega) (by decide)).mono ?_
              rintro en wb ⟨rfl, hub⟩
              have hUb := (hU.trans hua fun _ _ h => h).trans hub fun _ _ h => h
              go_wp2_with fail
              go_ret
              refine ⟨?_, hUb⟩
              rw [app_str, hslot.out]
              simp
          case hs41_1 =>
            intro K hK; have hst := run_str (P := Try.prog) _ 42 9 5 Try.underlying42 Try.underlying5 Try.underlying9 _ _ hB; go_simp; clear hst
            try go_wp2_with fail
            refine hK.out _ _ ?_ (fun hHeld => ?_)
            · (try dsimp only); first | exact ⟨x0, x1, x4⟩ | exact ⟨(Upd.alloc Non _ _).cell x0 fun h => h, (Upd.alloc Non _ _).cell x1 fun h => h, (Upd.alloc Non _ _).cell x4 fun h => h⟩
            clear hK K
            try simp only [Act.put, List.setIfInBounds_toArray, List.set_cons_zero, List.set_cons_succ]
            refine wpAnyH_ready (rs := [14]) (by kernel_rfl) (by simp) ?_
            refine AllReadyH.cons (o := ?oo47_0) ?ho47_0 ?hs47_0 AllReadyH.nil
            case ho47_0 => (simp only [List.getElem?_toArray, List.getElem?_cons_succ, List.getElem?_cons_zero]; rfl)
            case hs47_0 =>
              intro K hK; go_simp; go_at_call 42; refine (refField (d.length : Int) 2 _ (by omega) (by omega) (by decide)).mono ?_; rintro en wn ⟨rfl, hu⟩
              have x0 := hu.cell x0 fun h => h; have x1 := hu.cell x1 fun h => h; have x4 := hu.cell x4 fun h => h
              have hU := (by first | exact hU.trans hu fun _ _ h => h | exact (hU.then_drew).trans hu fun _ _ h => h : Upd Non w wn)
              try have hB := hB.non hu
              clear hu
              try go_wp2_with fail
              refine hK.out _ _ ?_ (fun hHeld => ?_)
              · (try dsimp only); first | exact ⟨x0, x1, x4⟩ | exact ⟨(Upd.alloc Non _ _).cell x0 fun h => h, (Upd.alloc Non _ _).cell x1 fun h => h, (Upd.alloc Non _ _).cell x4 fun h => h⟩
              clear hK K
              try simp only [Act.put, List.setIfInBounds_toArray, List.set_cons_zero, List.set_cons_succ]
              (refine wpAnyH_take (i := 15) (oi := ?oi_48) (v := ?v_48) ?ho_48 ?hs_48 ?hf_48 ?hr_48 ?hQ_48 ?hy_48 ?hS_48 ?rest_48; (case hr_48 => kernel_rfl); (case hf_48 => kernel_rfl); (case hs_48 => kernel_rfl); (case ho_48 => (simp only [List.getElem?_toArray, List.getElem?_cons_succ, List.getElem?_cons_zero]; rfl)); (case hS_48 => assumption); (case hQ_48 => exact fun _ _ _ h => h); (case hy_48 => (refine Or.inl ⟨by rfl, ?_⟩; (intro w hSw; (try dsimp only at hSw); go_simp) <;> with_reducible rfl)); (try simp only [Act.put, List.setIfInBounds_toArray, List.set_cons_zero, List.set_cons_succ]))
              (refine wpAnyH_take (i := 18) (oi := ?oi_49) (v := ?v_49) ?ho_49 ?hs_49 ?hf_49 ?hr_49 ?hQ_49 ?hy_49 ?hS_49 ?rest_49; (case hr_49 => kernel_rfl); (case hf_49 => kernel_rfl); (case hs_49 => kernel_rfl); (case ho_49 => (simp only [List.getElem?_toArray, List.getElem?_cons_succ, List.getElem?_cons_zero]; rfl)); (case hS_49 => assumption); (case hQ_49 => exact fun _ _ _ h => h); (case hy_49 => (refine Or.inl ⟨by rfl, ?_⟩; (intro w hSw; (try dsimp only at hSw); go_simp) <;> with_reducible rfl)); (try simp only [Act.put, List.setIfInBounds_toArray, List.set_cons_zero, List.set_cons_succ]))
              (refine wpAnyH_take (i := 25) (oi := ?oi_50) (v := ?v_50) ?ho_50 ?hs_50 ?hf_50 ?hr_50 ?hQ_50 ?hy_50 ?hS_50 ?rest_50; (case hr_50 => kernel_rfl); (case hf_50 => kernel_rfl); (case hs_50 => kernel_rfl); (case ho_50 => (simp only [List.getElem?_toArray, List.getElem?_cons_succ, List.getElem?_cons_zero]; rfl)); (case hS_50 => assumption); (case hQ_50 => exact fun _ _ _ h => h); (case hy_50 => (refine Or.inl ⟨by rfl, ?_⟩; (intro w hSw; (try dsimp only at hSw); go_simp) <;> with_reducible rfl)); (try simp only [Act.put, List.setIfInBounds_toArray, List.set_cons_zero, List.set_cons_succ]))
              (refine wpAnyH_take (i := 26) (oi := ?oi_51) (v := ?v_51) ?ho_51 ?hs_51 ?hf_51 ?hr_51 ?hQ_51 ?hy_51 ?hS_51 ?rest_51; (case hr_51 => kernel_rfl); (case hf_51 => kernel_rfl); (case hs_51 => kernel_rfl); (case ho_51 => (simp only [List.getElem?_toArray, List.getElem?_cons_succ, List.getElem?_cons_zero]; rfl)); (case hS_51 => assumption); (case hQ_51 => exact fun _ _ _ h => h); (case hy_51 => (refine Or.inl ⟨by rfl, ?_⟩; (intro w hSw; (try dsimp only at hSw); go_simp) <;> with_reducible rfl)); (try simp only [Act.put, List.setIfInBounds_toArray, List.set_cons_zero, List.set_cons_succ]))
              refine wpAnyH_done (by kernel_rfl) ?_ _
              try rw [hstr]
              go_wp2_with fail
              refine (refSum BB _ (by have := hBBl.out; omega)).mono ?_
              rintro en wa ⟨rfl, hua⟩
              rw [hsm.out]
              go_wp2_with fail
              refine (refField (sm : Int) 4 _ (by omega) (by omega) (by decide)).mono ?_
              rintro en wb ⟨rfl, hub⟩
              have hUb := (hU.trans hua fun _ _ h => h).trans hub fun _ _ h => h
              go_wp2_with fail
              go_ret
              refine ⟨?_, hUb⟩
              rw [app_str, hslot.out]
              simp
        case hs39_1 =>
          intro K hK; have hst := run_str (P := Try.prog) _ 42 9 5 Try.underlying42 Try.underlying5 Try.underlying9 _ _ hB; go_simp; clear hst
          try go_wp2_with fail
          refine hK.out _ _ ?_ (fun hHeld => ?_)
          · (try dsimp only); first | exact ⟨x0, x1, x4⟩ | exact ⟨(Upd.alloc Non _ _).cell x0 fun h => h, (Upd.alloc Non _ _).cell x1 fun h => h, (Upd.alloc Non _ _).cell x4 fun h => h⟩
          clear hK K
          try simp only [Act.put, List.setIfInBounds_toArray, List.set_cons_zero, List.set_cons_succ]
          refine wpAnyH_ready (rs := [9]) (by kernel_rfl) (by simp) ?_
          refine AllReadyH.cons (o := ?oo52_0) ?ho52_0 ?hs52_0 AllReadyH.nil
          case ho52_0 => (simp only [List.getElem?_toArray, List.getElem?_cons_succ, List.getElem?_cons_zero]; rfl)
          case hs52_0 =>
            intro K hK; go_simp; go_at_call 42; refine (refField q 8 _ (by omega) (by omega) (by decide)).mono ?_; rintro en wn ⟨rfl, hu⟩
            have x0 := hu.cell x0 fun h => h; have x1 := hu.cell x1 fun h => h; have x4 := hu.cell x4 fun h => h
            have hU := (by first | exact hU.trans hu fun _ _ h => h | exact (hU.then_drew).trans hu fun _ _ h => h : Upd Non w wn)
            try have hB := hB.non hu
            clear hu
            try go_wp2_with fail
            refine hK.out _ _ ?_ (fun hHeld => ?_)
            · (try dsimp only); first | exact ⟨x0, x1, x4⟩ | exact ⟨(Upd.alloc Non _ _).cell x0 fun h => h, (Upd.alloc Non _ _).cell x1 fun h => h, (Upd.alloc Non _ _).cell x4 fun h => h⟩
            clear hK K
            try simp only [Act.put, List.setIfInBounds_toArray, List.set_cons_zero, List.set_cons_succ]
            (refine wpAnyH_take (i := 10) (oi := ?oi_53) (v := ?v_53) ?ho_53 ?hs_53 ?hf_53 ?hr_53 ?hQ_53 ?hy_53 ?hS_53 ?rest_53; (case hr_53 => kernel_rfl); (case hf_53 => kernel_rfl); (case hs_53 => kernel_rfl); (case ho_53 => (simp only [List.getElem?_toArray, List.getElem?_cons_succ, List.getElem?_cons_zero]; rfl)); (case hS_53 => assumption); (case hQ_53 => exact fun _ _ _ h => h); (case hy_53 => (refine Or.inl ⟨by rfl, ?_⟩; (intro w hSw; (try dsimp only at hSw); go_simp) <;> with_reducible rfl)); (try simp only [Act.put, List.setIfInBounds_toArray, List.set_cons_zero, List.set_cons_succ]))
            refine wpAnyH_ready (rs := [14]) (by kernel_rfl) (by simp) ?_
            refine AllReadyH.cons (o := ?oo54_0) ?ho54_0 ?hs54_0 AllReadyH.nil
            case ho54_0 => (simp only [List.getElem?_toArray, List.getElem?_cons_succ, List.getElem?_cons_zero]; rfl)
            case hs54_0 =>
              intro K hK; go_simp; go_at_call 42; refine (refField (d.length : Int) 2 _ (by omega) (by omega) (by decide)).mono ?_; rintro en wn ⟨rfl, hu⟩
              have x0 := hu.cell x0 fun h => h; have x1 := hu.cell x1 fun h => h; have x4 := hu.cell x4 fun h => h
              have hU := (by first | exact hU.trans hu fun _ _ h => h | exact (hU.then_drew).trans hu fun _ _ h => h : Upd Non w wn)
              try have hB := hB.non hu
              clear hu
              try go_wp2_with fail
              refine hK.out _ _ ?_ (fun hHeld => ?_)
              · (try dsimp only); first | exact ⟨x0, x1, x4⟩ | exact ⟨(Upd.alloc Non _ _).cell x0 fun h => h, (Upd.alloc Non _ _).cell x1 fun h => h, (Upd.alloc Non _ _).cell x4 fun h => h⟩
              clear hK K
              try simp only [Act.put, List.setIfInBounds_toArray, List.set_cons_zero, List.set_cons_succ]
              (refine wpAnyH_take (i := 15) (oi := ?oi_55) (v := ?v_55) ?ho_55 ?hs_55 ?hf_55 ?hr_55 ?hQ_55 ?hy_55 ?hS_55 ?rest_55; (case hr_55 => kernel_rfl); (case hf_55 => kernel_rfl); (case hs_55 => kernel_rfl); (case ho_55 => (simp only [List.getElem?_toArray, List.getElem?_cons_succ, List.getElem?_cons_zero]; rfl)); (case hS_55 => assumption); (case hQ_55 => exact fun _ _ _ h => h); (case hy_55 => (refine Or.inl ⟨by rfl, ?_⟩; (intro w hSw; (try dsimp only at hSw); go_simp) <;> with_reducible rfl)); (try simp only [Act.put, List.setIfInBounds_toArray, List.set_cons_zero, List.set_cons_succ]))
              (refine wpAnyH_take (i := 18) (oi := ?oi_56) (v := ?v_56) ?ho_56 ?hs_56 ?hf_56 ?hr_56 ?hQ_56 ?hy_56 ?hS_56 ?rest_56; (case hr_56 => kernel_rfl); (case hf_56 => kernel_rfl); (case hs_56 => kernel_rfl); (case ho_56 => (simp only [List.getElem?_toArray, List.getElem?_cons_succ, List.getElem?_cons_zero]; rfl)); (case hS_56 => assumption); (case hQ_56 => exact fun _ _ _ h => h); (case hy_56 => (refine Or.inl ⟨by rfl, ?_⟩; (intro w hSw; (try dsimp only at hSw); go_simp) <;> with_reducible rfl)); (try simp only [Act.put, List.setIfInBounds_toArray, List.set_cons_zero, List.set_cons_succ]))
              (refine wpAnyH_take (i := 25) (oi := ?oi_57) (v := ?v_57) ?ho_57 ?hs_57 ?hf_57 ?hr_57 ?hQ_57 ?hy_57 ?hS_57 ?rest_57; (case hr_57 => kernel_rfl); (case hf_57 => kernel_rfl); (case hs_57 => kernel_rfl); (case ho_57 => (simp only [List.getElem?_toArray, List.getElem?_cons_succ, List.getElem?_cons_zero]; rfl)); (case hS_57 => assumption); (case hQ_57 => exact fun _ _ _ h => h); (case hy_57 => (refine Or.inl ⟨by rfl, ?_⟩; (intro w hSw; (try dsimp only at hSw); go_simp) <;> with_reducible rfl)); (try simp only [Act.put, List.setIfInBounds_toArray, List.set_cons_zero, List.set_cons_succ]))
              (refine wpAnyH_take (i := 26) (oi := ?oi_58) (v := ?v_58) ?ho_58 ?hs_58 ?hf_58 ?hr_58 ?hQ_58 ?hy_58 ?hS_58 ?rest_58; (case hr_58 => kernel_rfl); (case hf_58 => kernel_rfl); (case hs_58 => kernel_rfl); (case ho_58 => (simp only [List.getElem?_toArray, List.getElem?_cons_succ, List.getElem?_cons_zero]; rfl)); (case hS_58 => assumption); (case hQ_58 => exact fun _ _ _ h => h); (case hy_58 => (refine Or.inl ⟨by rfl, ?_⟩; (intro w hSw; (try dsimp only at hSw); go_simp) <;> with_reducible rfl)); (try simp only [Act.put, List.setIfInBounds_toArray, List.set_cons_zero, List.set_cons_succ]))
              refine wpAnyH_done (by kernel_rfl) ?_ _
              try rw [hstr]
              go_wp2_with fail
              refine (refSum BB _ (by have := hBBl.out; omega)).mono ?_
              rintro en wa ⟨rfl, hua⟩
              rw [hsm.out]
              go_wp2_with fail
              refine (refField (sm : Int) 4 _ (by omega) (by omega) (by decide)).mono ?_
              rintro en wb ⟨rfl, hub⟩
              have hUb := (hU.trans hua fun _ _ h => h).trans hub fun _ _ h => h
              go_wp2_with fail
              go_ret
              refine ⟨?_, hUb⟩
              rw [app_str, hslot.out]
              simp
    case hs17_1 =>
      intro K hK; have hmk := hmk0; go_simp; clear hmk
      try go_wp2_with fail
      refine hK.out _ _ ?_ (fun hHeld => ?_)
      · (try dsimp only); exact ⟨(Upd.alloc Non _ _).cell x0 fun h => h, (Upd.alloc Non _ _).cell x1 fun h => h, (Upd.alloc Non _ _).cell x4 fun h => h⟩
      clear hK K
      try simp only [Act.put, List.setIfInBounds_toArray, List.set_cons_zero, List.set_cons_succ]
      obtain ⟨hB, hU, x0, x1, x4⟩ := made_noughts hU x0 x1 x4 5 (108 - d.length) (by omega)
      refine wpAnyH_ready (rs := [5, 24]) (by kernel_rfl) (by simp) ?_
      refine AllReadyH.cons (o := ?oo59_0) ?ho59_0 ?hs59_0 (AllReadyH.cons (o := ?oo59_1) ?ho59_1 ?hs59_1 AllReadyH.nil)
      case ho59_0 => (simp only [List.getElem?_toArray, List.getElem?_cons_succ, List.getElem?_cons_zero]; rfl)
      case ho59_1 => (simp only [List.getElem?_toArray, List.getElem?_cons_succ, List.getElem?_cons_zero]; rfl)
      case hs59_0 =>
        intro K hK; go_simp; go_at_call 42; refine (refField e 4 _ (by omega) (by omega) (by decide)).mono ?_; rintro en wn ⟨rfl, hu⟩
        have x0 := hu.cell x0 fun h => h; have x1 := hu.cell x1 fun h => h; have x4 := hu.cell x4 fun h => h
        have hU := (by first | exact hU.trans hu fun _ _ h => h | exact (hU.then_drew).trans hu fun _ _ h => h : Upd Non w wn)
        try have hB := hB.non hu
        clear hu
        try go_wp2_with fail
        refine hK.out _ _ ?_ (fun hHeld => ?_)
        · (try dsimp only); first | exact ⟨x0, x1, x4⟩ | exact ⟨(Upd.alloc Non _ _).cell x0 fun h => h, (Upd.alloc Non _ _).cell x1 fun h => h, (Upd.alloc Non _ _).cell x4 fun h => h⟩
        clear hK K
        try simp only [Act.put, List.setIfInBounds_toArray, List.set_cons_zero, List.set_cons_succ]
        (refine wpAnyH_take (i := 6) (oi := ?oi_60) (v := ?v_60) ?ho_60 ?hs_60 ?hf_60 ?hr_60 ?hQ_60 ?hy_60 ?hS_60 ?rest_60; (case hr_60 => kernel_rfl); (case hf_60 => kernel_rfl); (case hs_60 => kernel_rfl); (case ho_60 => (simp only [List.getElem?_toArray, List.getElem?_cons_succ, List.getElem?_cons_zero]; rfl)); (case hS_60 => assumption); (case hQ_60 => exact fun _ _ _ h => h); (case hy_60 => (refine Or.inl ⟨by rfl, ?_⟩; (intro w hSw; (try dsimp only at hSw); go_simp) <;> with_reducible rfl)); (try simp only [Act.put, List.setIfInBounds_toArray, List.set_cons_zero, List.set_cons_succ]))
        refine wpAnyH_ready (rs := [9, 24]) (by kernel_rfl) (by simp) ?_
        refine AllReadyH.cons (o := ?oo61_0) ?ho61_0 ?hs61_0 (AllReadyH.cons (o := ?oo61_1) ?ho61_1 ?hs61_1 AllReadyH.nil)
        case ho61_0 => (simp only [List.getElem?_toArray, List.getElem?_cons_succ, List.getElem?_cons_zero]; rfl)
        case ho61_1 => (simp only [List.getElem?_toArray, List.getElem?_cons_succ, List.getElem?_cons_zero]; rfl)
        case hs61_0 =>
          intro K hK; go_simp; go_at_call 42; refine (refField q 8 _ (by omega) (by omega) (by decide)).mono ?_; rintro en wn ⟨rfl, hu⟩
          have x0 := hu.cell x0 fun h => h; have x1 := hu.cell x1 fun h => h; have x4 := hu.cell x4 fun h => h
          have hU := (by first | exact hU.trans hu fun _ _ h => h | exact (hU.then_drew).trans hu fun _ _ h => h : Upd Non w wn)
          try have hB := hB.non hu
          clear hu
          try go_wp2_with fail
          refine hK.out _ _ ?_ (fun hHeld => ?_)
          · (try dsimp only); first | exact ⟨x0, x1, x4⟩ | exact ⟨(Upd.alloc Non _ _).cell x0 fun h => h, (Upd.alloc Non _ _).cell x1 fun h => h, (Upd.alloc Non _ _).cell x4 fun h => h⟩
          clear hK K
          try simp only [Act.put, List.setIfInBounds_toArray, List.set_cons_zero, List.set_cons_succ]
          (refine wpAnyH_take (i := 10) (oi := ?oi_62) (v := ?v_62) ?ho_62 ?hs_62 ?hf_62 ?hr_62 ?hQ_62 ?hy_62 ?hS_62 ?rest_62; (case hr_62 => kernel_rfl); (case hf_62 => kernel_rfl); (case hs_62 => kernel_rfl); (case ho_62 => (simp only [List.getElem?_toArray, List.getElem?_cons_succ, List.getElem?_cons_zero]; rfl)); (case hS_62 => assumption); (case hQ_62 => exact fun _ _ _ h => h); (case hy_62 => (refine Or.inl ⟨by rfl, ?_⟩; (intro w hSw; (try dsimp only at hSw); go_simp) <;> with_reducible rfl)); (try simp only [Act.put, List.setIfInBounds_toArray, List.set_cons_zero, List.set_cons_succ]))
          refine wpAnyH_ready (rs := [14, 24]) (by kernel_rfl) (by simp) ?_
          refine AllReadyH.cons (o := ?oo63_0) ?ho63_0 ?hs63_0 (AllReadyH.cons (o := ?oo63_1) ?ho63_1 ?hs63_1 AllReadyH.nil)
          case ho63_0 => (simp only [List.getElem?_toArray, List.getElem?_cons_succ, List.getElem?_cons_zero]; rfl)
          case ho63_1 => (simp only [List.getElem?_toArray, List.getElem?_cons_succ, List.getElem?_cons_zero]; rfl)
          case hs63_0 =>
            intro K hK; go_simp; go_at_call 42; refine (refField (d.length : Int) 2 _ (by omega) (by omega) (by decide)).mono ?_; rintro en wn ⟨rfl, hu⟩
            have x0 := hu.cell x0 fun h => h; have x1 := hu.cell x1 fun h => h; have x4 := hu.cell x4 fun h => h
            have hU := (by first | exact hU.trans hu fun _ _ h => h | exact (hU.then_drew).trans hu fun _ _ h => h : Upd Non w wn)
            try have hB := hB.non hu
            clear hu
            try go_wp2_with fail
            refine hK.out _ _ ?_ (fun hHeld => ?_)
            · (try dsimp only); first | exact ⟨x0, x1, x4⟩ | exact ⟨(Upd.alloc Non _ _).cell x0 fun h => h, (Upd.alloc Non _ _).cell x1 fun h => h, (Upd.alloc Non _ _).cell x4 fun h => h⟩
            clear hK K
            try simp only [Act.put, List.setIfInBounds_toArray, List.set_cons_zero, List.set_cons_succ]
            (refine wpAnyH_take (i := 15) (oi := ?oi_64) (v := ?v_64) ?ho_64 ?hs_64 ?hf_64 ?hr_64 ?hQ_64 ?hy_64 ?hS_64 ?rest_64; (case hr_64 => kernel_rfl); (case hf_64 => kernel_rfl); (case hs_64 => kernel_rfl); (case ho_64 => (simp only [List.getElem?_toArray, List.getElem?_cons_succ, List.getElem?_cons_zero]; rfl)); (case hS_64 => assumption); (case hQ_64 => exact fun _ _ _ h => h); (case hy_64 => (refine Or.inl ⟨by rfl, ?_⟩; (intro w hSw; (try dsimp only at hSw); go_simp) <;> with_reducible rfl)); (try simp only [Act.put, List.setIfInBounds_toArray, List.set_cons_zero, List.set_cons_succ]))
            (refine wpAnyH_take (i := 18) (oi := ?oi_65) (v := ?v_65) ?ho_65 ?hs_65 ?hf_65 ?hr_65 ?hQ_65 ?hy_65 ?hS_65 ?rest_65; (case hr_65 => kernel_rfl); (case hf_65 => kernel_rfl); (case hs_65 => kernel_rfl); (case ho_65 => (simp only [List.getElem?_toArray, List.getElem?_cons_succ, List.getElem?_cons_zero]; rfl)); (case hS_65 => assumption); (case hQ_65 => exact fun _ _ _ h => h); (case hy_65 => (refine Or.inl ⟨by rfl, ?_⟩; (intro w hSw; (try dsimp only at hSw); go_simp) <;> with_reducible rfl)); (try simp only [Act.put, List.setIfInBounds_toArray, List.set_cons_zero, List.set_cons_succ]))
            refine wpAnyH_ready (rs := [24]) (by kernel_rfl) (by simp) ?_
            refine AllReadyH.cons (o := ?oo66_0) ?ho66_0 ?hs66_0 AllReadyH.nil
            case ho66_0 => (simp only [List.getElem?_toArray, List.getElem?_cons_succ, List.getElem?_cons_zero]; rfl)
            case hs66_0 =>
              intro K hK; have hst := run_str (P := Try.prog) _ 42 9 5 Try.underlying42 Try.underlying5 Try.underlying9 _ _ hB; go_simp; clear hst
              try go_wp2_with fail
              refine hK.out _ _ ?_ (fun hHeld => ?_)
              · (try dsimp only); first | exact ⟨x0, x1, x4⟩ | exact ⟨(Upd.alloc Non _ _).cell x0 fun h => h, (Upd.alloc Non _ _).cell x1 fun h => h, (Upd.alloc Non _ _).cell x4 fun h => h⟩
              clear hK K
              try simp only [Act.put, List.setIfInBounds_toArray, List.set_cons_zero, List.set_cons_succ]
              (refine wpAnyH_take (i := 25) (oi := ?oi_67) (v := ?v_67) ?ho_67 ?hs_67 ?hf_67 ?hr_67 ?hQ_67 ?hy_67 ?hS_67 ?rest_67; (case hr_67 => kernel_rfl); (case hf_67 => kernel_rfl); (case hs_67 => kernel_rfl); (case ho_67 => (simp only [List.getElem?_toArray, List.getElem?_cons_succ, List.getElem?_cons_zero]; rfl)); (case hS_67 => assumption); (case hQ_67 => exact fun _ _ _ h => h); (case hy_67 => (refine Or.inl ⟨by rfl, ?_⟩; (intro w hSw; (try dsimp only at hSw); go_simp) <;> with_reducible rfl)); (try simp only [Act.put, List.setIfInBounds_toArray, List.set_cons_zero, List.set_cons_succ]))
              (refine wpAnyH_take (i := 26) (oi := ?oi_68) (v := ?v_68) ?ho_68 ?hs_68 ?hf_68 ?hr_68 ?hQ_68 ?hy_68 ?hS_68 ?rest_68; (case hr_68 => kernel_rfl); (case hf_68 => kernel_rfl); (case hs_68 => kernel_rfl); (case ho_68 => (simp only [List.getElem?_toArray, List.getElem?_cons_succ, List.getElem?_cons_zero]; rfl)); (case hS_68 => assumption); (case hQ_68 => exact fun _ _ _ h => h); (case hy_68 => (refine Or.inl ⟨by rfl, ?_⟩; (intro w hSw; (try dsimp only at hSw); go_simp) <;> with_reducible rfl)); (try simp only [Act.put, List.setIfInBounds_toArray, List.set_cons_zero, List.set_cons_succ]))
              refine wpAnyH_done (by kernel_rfl) ?_ _
              try rw [hstr]
              go_wp2_with fail
              refine (refSum BB _ (by have := hBBl.out; omega)).mono ?_
              rintro en wa ⟨rfl, hua⟩
              rw [hsm.out]
              go_wp2_with fail
              refine (refField (sm : Int) 4 _ (by omega) (by omega) (by decide)).mono ?_
              rintro en wb ⟨rfl, hub⟩
              have hUb := (hU.trans hua fun _ _ h => h).trans hub fun _ _ h => h
              go_wp2_with fail
              go_ret
              refine ⟨?_, hUb⟩
              rw [app_str, hslot.out]
              simp
          case hs63_1 =>
            intro K hK; have hst := run_str (P := Try.prog) _ 42 9 5 Try.underlying42 Try.underlying5 Try.underlying9 _ _ hB; go_simp; clear hst
            try go_wp2_with fail
            refine hK.out _ _ ?_ (fun hHeld => ?_)
            · (try dsimp only); first | exact ⟨x0, x1, x4⟩ | exact ⟨(Upd.alloc Non _ _).cell x0 fun h => h, (Upd.alloc Non _ _).cell x1 fun h => h, (Upd.alloc Non _ _).cell x4 fun h => h⟩
            clear hK K
            try simp only [Act.put, List.setIfInBounds_toArray, List.set_cons_zero, List.set_cons_succ]
            refine wpAnyH_ready (rs := [14]) (by kernel_rfl) (by simp) ?_
            refine AllReadyH.cons (o := ?oo69_0) ?ho69_0 ?hs69_0 AllReadyH.nil
            case ho69_0 => (simp only [List.getElem?_toArray, List.getElem?_cons_succ, List.getElem?_cons_zero]; rfl)
            case hs69_0 =>
              intro K hK; go_simp; go_at_call 42; refine (refField (d.length : Int) 2 _ (by omega) (by omega) (by decide)).mono ?_; rintro en wn ⟨rfl, hu⟩
              have x0 := hu.cell x0 fun h => h; have x1 := hu.cell x1 fun h => h; have x4 := hu.cell x4 fun h => h
              have hU := (by first | exact hU.trans hu fun _ _ h => h | exact (hU.then_drew).trans hu fun _ _ h => h : Upd Non w wn)
              try have hB := hB.non hu
              clear hu
              try go_wp2_with fail
              refine hK.out _ _ ?_ (fun hHeld => ?_)
              · (try dsimp only); first | exact ⟨x0, x1, x4⟩ | exact ⟨(Upd.alloc Non _ _).cell x0 fun h => h, (Upd.alloc Non _ _).cell x1 fun h => h, (Upd.alloc Non _ _).cell x4 fun h => h⟩
              clear hK K
              try simp only [Act.put, List.setIfInBounds_toArray, List.set_cons_zero, List.set_cons_succ]
              (refine wpAnyH_take (i := 15) (oi := ?oi_70) (v := ?v_70) ?ho_70 ?hs_70 ?hf_70 ?hr_70 ?hQ_70 ?hy_70 ?hS_70 ?rest_70; (case hr_70 => kernel_rfl); (case hf_70 => kernel_rfl); (case hs_70 => kernel_rfl); (case ho_70 => (simp only [List.getElem?_toArray, List.getElem?_cons_succ, List.getElem?_cons_zero]; rfl)); (case hS_70 => assumption); (case hQ_70 => exact fun _ _ _ h => h); (case hy_70 => (refine Or.inl ⟨by rfl, ?_⟩; (intro w hSw; (try dsimp only at hSw); go_simp) <;> with_reducible rfl)); (try simp only [Act.put, List.setIfInBounds_toArray, List.set_cons_zero, List.set_cons_succ]))
              (refine wpAnyH_take (i := 18) (oi := ?oi_71) (v := ?v_71) ?ho_71 ?hs_71 ?hf_71 ?hr_71 ?hQ_71 ?hy_71 ?hS_71 ?rest_71; (case hr_71 => kernel_rfl); (case hf_71 => kernel_rfl); (case hs_71 => kernel_rfl); (case ho_71 => (simp only [List.getElem?_toArray, List.getElem?_cons_succ, List.getElem?_cons_zero]; rfl)); (case hS_71 => assumption); (case hQ_71 => exact fun _ _ _ h => h); (case hy_71 => (refine Or.inl ⟨by rfl, ?_⟩; (intro w hSw; (try dsimp only at hSw); go_simp) <;> with_reducible rfl)); (try simp only [Act.put, List.setIfInBounds_toArray, List.set_cons_zero, List.set_cons_succ]))
              (refine wpAnyH_take (i := 25) (oi := ?oi_72) (v := ?v_72) ?ho_72 ?hs_72 ?hf_72 ?hr_72 ?hQ_72 ?hy_72 ?hS_72 ?rest_72; (case hr_72 => kernel_rfl); (case hf_72 => kernel_rfl); (case hs_72 => kernel_rfl); (case ho_72 => (simp only [List.getElem?_toArray, List.getElem?_cons_succ, List.getElem?_cons_zero]; rfl)); (case hS_72 => assumption); (case hQ_72 => exact fun _ _ _ h => h); (case hy_72 => (refine Or.inl ⟨by rfl, ?_⟩; (intro w hSw; (try dsimp only at hSw); go_simp) <;> with_reducible rfl)); (try simp only [Act.put, List.setIfInBounds_toArray, List.set_cons_zero, List.set_cons_succ]))
              (refine wpAnyH_take (i := 26) (oi := ?oi_73) (v := ?v_73) ?ho_73 ?hs_73 ?hf_73 ?hr_73 ?hQ_73 ?hy_73 ?hS_73 ?rest_73; (case hr_73 => kernel_rfl); (case hf_73 => kernel_rfl); (case hs_73 => kernel_rfl); (case ho_73 => (simp only [List.getElem?_toArray, List.getElem?_cons_succ, List.getElem?_cons_zero]; rfl)); (case hS_73 => assumption); (case hQ_73 => exact fun _ _ _ h => h); (case hy_73 => (refine Or.inl ⟨by rfl, ?_⟩; (intro w hSw; (try dsimp only at hSw); go_simp) <;> with_reducible rfl)); (try simp only [Act.put, List.setIfInBounds_toArray, List.set_cons_zero, List.set_cons_succ]))
              refine wpAnyH_done (by kernel_rfl) ?_ _
              try rw [hstr]
              go_wp2_with fail
              refine (refSum BB _ (by have := hBBl.out; omega)).mono ?_
              rintro en wa ⟨rfl, hua⟩
              rw [hsm.out]
              go_wp2_with fail
              refine (refField (sm : Int) 4 _ (by omega) (by omega) (by decide)).mono ?_
              rintro en wb ⟨rfl, hub⟩
              have hUb := (hU.trans hua fun _ _ h => h).trans hub fun _ _ h => h
              go_wp2_with fail
              go_ret
              refine ⟨?_, hUb⟩
              rw [app_str, hslot.out]
              simp
        case hs61_1 =>
          intro K hK; have hst := run_str (P := Try.prog) _ 42 9 5 Try.underlying42 Try.underlying5 Try.underlying9 _ _ hB; go_simp; clear hst
          try go_wp2_with fail
          refine hK.out _ _ ?_ (fun hHeld => ?_)
          · (try dsimp only); first | exact ⟨x0, x1, x4⟩ | exact ⟨(Upd.alloc Non _ _).cell x0 fun h => h, (Upd.alloc Non _ _).cell x1 fun h => h, (Upd.alloc Non _ _).cell x4 fun h => h⟩
          clear hK K
          try simp only [Act.put, List.setIfInBounds_toArray, List.set_cons_zero, List.set_cons_succ]
          refine wpAnyH_ready (rs := [9]) (by kernel_rfl) (by simp) ?_
          refine AllReadyH.cons (o := ?oo74_0) ?ho74_0 ?hs74_0 AllReadyH.nil
          case ho74_0 => (simp only [List.getElem?_toArray, List.getElem?_cons_succ, List.getElem?_cons_zero]; rfl)
          case hs74_0 =>
            intro K hK; go_simp; go_at_call 42; refine (refField q 8 _ (by omega) (by omega) (by decide)).mono ?_; rintro en wn ⟨rfl, hu⟩
            have x0 := hu.cell x0 fun h => h; have x1 := hu.cell x1 fun h => h; have x4 := hu.cell x4 fun h => h
            have hU := (by first | exact hU.trans hu fun _ _ h => h | exact (hU.then_drew).trans hu fun _ _ h => h : Upd Non w wn)
            try have hB := hB.non hu
            clear hu
            try go_wp2_with fail
            refine hK.out _ _ ?_ (fun hHeld => ?_)
            · (try dsimp only); first | exact ⟨x0, x1, x4⟩ | exact ⟨(Upd.alloc Non _ _).cell x0 fun h => h, (Upd.alloc Non _ _).cell x1 fun h => h, (Upd.alloc Non _ _).cell x4 fun h => h⟩
            clear hK K
            try simp only [Act.put, List.setIfInBounds_toArray, List.set_cons_zero, List.set_cons_succ]
            (refine wpAnyH_take (i := 10) (oi := ?oi_75) (v := ?v_75) ?ho_75 ?hs_75 ?hf_75 ?hr_75 ?hQ_75 ?hy_75 ?hS_75 ?rest_75; (case hr_75 => kernel_rfl); (case hf_75 => kernel_rfl); (case hs_75 => kernel_rfl); (case ho_75 => (simp only [List.getElem?_toArray, List.getElem?_cons_succ, List.getElem?_cons_zero]; rfl)); (case hS_75 => assumption); (case hQ_75 => exact fun _ _ _ h => h); (case hy_75 => (refine Or.inl ⟨by rfl, ?_⟩; (intro w hSw; (try dsimp only at hSw); go_simp) <;> with_reducible rfl)); (try simp only [Act.put, List.setIfInBounds_toArray, List.set_cons_zero, List.set_cons_succ]))
            refine wpAnyH_ready (rs := [14]) (by kernel_rfl) (by simp) ?_
            refine AllReadyH.cons (o := ?oo76_0) ?ho76_0 ?hs76_0 AllReadyH.nil
            case ho76_0 => (simp only [List.getElem?_toArray, List.getElem?_cons_succ, List.getElem?_cons_zero]; rfl)
            case hs76_0 =>
              intro K hK; go_simp; go_at_call 42; refine (refField (d.length : Int) 2 _ (by omega) (by omega) (by decide)).mono ?_; rintro en wn ⟨rfl, hu⟩
              have x0 := hu.cell x0 fun h => h; have x1 := hu.cell x1 fun h => h; have x4 := hu.cell x4 fun h => h
              have hU := (by first | exact hU.trans hu fun _ _ h => h | exact (hU.then_drew).trans hu fun _ _ h => h : Upd Non w wn)
              try have hB := hB.non hu
              clear hu
              try go_wp2_with fail
              refine hK.out _ _ ?_ (fun hHeld => ?_)
              · (try dsimp only); first | exact ⟨x0, x1, x4⟩ | exact ⟨(Upd.alloc Non _ _).cell x0 fun h => h, (Upd.alloc Non _ _).cell x1 fun h => h, (Upd.alloc Non _ _).cell x4 fun h => h⟩
              clear hK K
              try simp only [Act.put, List.setIfInBounds_toArray, List.set_cons_zero, List.set_cons_succ]
              (refine wpAnyH_take (i := 15) (oi := ?oi_77) (v := ?v_77) ?ho_77 ?hs_77 ?hf_77 ?hr_77 ?hQ_77 ?hy_77 ?hS_77 ?rest_77; (case hr_77 => kernel_rfl); (case hf_77 => kernel_rfl); (case hs_77 => kernel_rfl); (case ho_77 => (simp only [List.getElem?_toArray, List.getElem?_cons_succ, List.getElem?_cons_zero]; rfl)); (case hS_77 => assumption); (case hQ_77 => exact fun _ _ _ h => h); (case hy_77 => (refine Or.inl ⟨by rfl, ?_⟩; (intro w hSw; (try dsimp only at hSw); go_simp) <;> with_reducible rfl)); (try simp only [Act.put, List.setIfInBounds_toArray, List.set_cons_zero, List.set_cons_succ]))
              (refine wpAnyH_take (i := 18) (oi := ?oi_78) (v := ?v_78) ?ho_78 ?hs_78 ?hf_78 ?hr_78 ?hQ_78 ?hy_78 ?hS_78 ?rest_78; (case hr_78 => kernel_rfl); (case hf_78 => kernel_rfl); (case hs_78 => kernel_rfl); (case ho_78 => (simp only [List.getElem?_toArray, List.getElem?_cons_succ, List.getElem?_cons_zero]; rfl)); (case hS_78 => assumption); (case hQ_78 => exact fun _ _ _ h => h); (case hy_78 => (refine Or.inl ⟨by rfl, ?_⟩; (intro w hSw; (try dsimp only at hSw); go_simp) <;> with_reducible rfl)); (try simp only [Act.put, List.setIfInBounds_toArray, List.set_cons_zero, List.set_cons_succ]))
              (refine wpAnyH_take (i := 25) (oi := ?oi_79) (v := ?v_79) ?ho_79 ?hs_79 ?hf_79 ?hr_79 ?hQ_79 ?hy_79 ?hS_79 ?rest_79; (case hr_79 => kernel_rfl); (case hf_79 => kernel_rfl); (case hs_79 => kernel_rfl); (case ho_79 => (simp only [List.getElem?_toArray, List.getElem?_cons_succ, List.getElem?_cons_zero]; rfl)); (case hS_79 => assumption); (case hQ_79 => exact fun _ _ _ h => h); (case hy_79 => (refine Or.inl ⟨by rfl, ?_⟩; (intro w hSw; (try dsimp only at hSw); go_simp) <;> with_reducible rfl)); (try simp only [Act.put, List.setIfInBounds_toArray, List.set_cons_zero, List.set_cons_succ]))
              (refine wpAnyH_take (i := 26) (oi := ?oi_80) (v := ?v_80) ?ho_80 ?hs_80 ?hf_80 ?hr_80 ?hQ_80 ?hy_80 ?hS_80 ?rest_80; (case hr_80 => kernel_rfl); (case hf_80 => kernel_rfl); (case hs_80 => kernel_rfl); (case ho_80 => (simp only [List.getElem?_toArray, List.getElem?_cons_succ, List.getElem?_cons_zero]; rfl)); (case hS_80 => assumption); (case hQ_80 => exact fun _ _ _ h => h); (case hy_80 => (refine Or.inl ⟨by rfl, ?_⟩; (intro w hSw; (try dsimp only at hSw); go_simp) <;> with_reducible rfl)); (try simp only [Act.put, List.setIfInBounds_toArray, List.set_cons_zero, List.set_cons_succ]))
              refine wpAnyH_done (by kernel_rfl) ?_ _
              try rw [hstr]
              go_wp2_with fail
              refine (refSum BB _ (by have := hBBl.out; omega)).mono ?_
              rintro en wa ⟨rfl, hua⟩
              rw [hsm.out]
              go_wp2_with fail
              refine (refField (sm : Int) 4 _ (by omega) (by omega) (by decide)).mono ?_
              rintro en wb ⟨rfl, hub⟩
              have hUb := (hU.trans hua fun _ _ h => h).trans hub fun _ _ h => h
              go_wp2_with fail
              go_ret
              refine ⟨?_, hUb⟩
              rw [app_str, hslot.out]
              simp
      case hs59_1 =>
        intro K hK; have hst := run_str (P := Try.prog) _ 42 9 5 Try.underlying42 Try.underlying5 Try.underlying9 _ _ hB; go_simp; clear hst
        try go_wp2_with fail
        refine hK.out _ _ ?_ (fun hHeld => ?_)
        · (try dsimp only); first | exact ⟨x0, x1, x4⟩ | exact ⟨(Upd.alloc Non _ _).cell x0 fun h => h, (Upd.alloc Non _ _).cell x1 fun h => h, (Upd.alloc Non _ _).cell x4 fun h => h⟩
        clear hK K
        try simp only [Act.put, List.setIfInBounds_toArray, List.set_cons_zero, List.set_cons_succ]
        refine wpAnyH_ready (rs := [5]) (by kernel_rfl) (by simp) ?_
        refine AllReadyH.cons (o := ?oo81_0) ?ho81_0 ?hs81_0 AllReadyH.nil
        case ho81_0 => (simp only [List.getElem?_toArray, List.getElem?_cons_succ, List.getElem?_cons_zero]; rfl)
        case hs81_0 =>
          intro K hK; go_simp; go_at_call 42; refine (refField e 4 _ (by omega) (by omega) (by decide)).mono ?_; rintro en wn ⟨rfl, hu⟩
          have x0 := hu.cell x0 fun h => h; have x1 := hu.cell x1 fun h => h; have x4 := hu.cell x4 fun h => h
          have hU := (by first | exact hU.trans hu fun _ _ h => h | exact (hU.then_drew).trans hu fun _ _ h => h : Upd Non w wn)
          try have hB := hB.non hu
          clear hu
          try go_wp2_with fail
          refine hK.out _ _ ?_ (fun hHeld => ?_)
          · (try dsimp only); first | exact ⟨x0, x1, x4⟩ | exact ⟨(Upd.alloc Non _ _).cell x0 fun h => h, (Upd.alloc Non _ _).cell x1 fun h => h, (Upd.alloc Non _ _).cell x4 fun h => h⟩
          clear hK K
          try simp only [Act.put, List.setIfInBounds_toArray, List.set_cons_zero, List.set_cons_succ]
          (refine wpAnyH_take (i := 6) (oi := ?oi_82) (v := ?v_82) ?ho_82 ?hs_82 ?hf_82 ?hr_82 ?hQ_82 ?hy_82 ?hS_82 ?rest_82; (case hr_82 => kernel_rfl); (case hf_82 => kernel_rfl); (case hs_82 => kernel_rfl); (case ho_82 => (simp only [List.getElem?_toArray, List.getElem?_cons_succ, List.getElem?_cons_zero]; rfl)); (case hS_82 => assumption); (case hQ_82 => exact fun _ _ _ h => h); (case hy_82 => (refine Or.inl ⟨by rfl, ?_⟩; (intro w hSw; (try dsimp only at hSw); go_simp) <;> with_reducible rfl)); (try simp only [Act.put, List.setIfInBounds_toArray, List.set_cons_zero, List.set_cons_succ]))
          refine wpAnyH_ready (rs := [9]) (by kernel_rfl) (by simp) ?_
          refine AllReadyH.cons (o := ?oo83_0) ?ho83_0 ?hs83_0 AllReadyH.nil
          case ho83_0 => (simp only [List.getElem?_toArray, List.getElem?_cons_succ, List.getElem?_cons_zero]; rfl)
          case hs83_0 =>
            intro K hK; go_simp; go_at_call 42; refine (refField q 8 _ (by omega) (by omega) (by decide)).mono ?_; rintro en wn ⟨rfl, hu⟩
            have x0 := hu.cell x0 fun h => h; have x1 := hu.cell x1 fun h => h; have x4 := hu.cell x4 fun h => h
            have hU := (by first | exact hU.trans hu fun _ _ h => h | exact (hU.then_drew).trans hu fun _ _ h => h : Upd Non w wn)
            try have hB := hB.non hu
            clear hu
            try go_wp2_with fail
            refine hK.out _ _ ?_ (fun hHeld => ?_)
            · (try dsimp only); first | exact ⟨x0, x1, x4⟩ | exact ⟨(Upd.alloc Non _ _).cell x0 fun h => h, (Upd.alloc Non _ _).cell x1 fun h => h, (Upd.alloc Non _ _).cell x4 fun h => h⟩
            clear hK K
            try simp only [Act.put, List.setIfInBounds_toArray, List.set_cons_zero, List.set_cons_succ]
            (refine wpAnyH_take (i := 10) (oi := ?oi_84) (v := ?v_84) ?ho_84 ?hs_84 ?hf_84 ?hr_84 ?hQ_84 ?hy_84 ?hS_84 ?rest_84; (case hr_84 => kernel_rfl); (case hf_84 => kernel_rfl); (case hs_84 => kernel_rfl); (case ho_84 => (simp only [List.getElem?_toArray, List.getElem?_cons_succ, List.getElem?_cons_zero]; rfl)); (case hS_84 => assumption); (case hQ_84 => exact fun _ _ _ h => h); (case hy_84 => (refine Or.inl ⟨by rfl, ?_⟩; (intro w hSw; (try dsimp only at hSw); go_simp) <;> with_reducible rfl)); (try simp only [Act.put, List.setIfInBounds_toArray, List.set_cons_zero, List.set_cons_succ]))
            refine wpAnyH_ready (rs := [14]) (by kernel_rfl) (by simp) ?_
            refine AllReadyH.cons (o := ?oo85_0) ?ho85_0 ?hs85_0 AllReadyH.nil
            case ho85_0 => (simp only [List.getElem?_toArray, List.getElem?_cons_succ, List.getElem?_cons_zero]; rfl)
            case hs85_0 =>
              intro K hK; go_simp; go_at_call 42; refine (refField (d.length : Int) 2 _ (by omega) (by omega) (by decide)).mono ?_; rintro en wn ⟨rfl, hu⟩
              have x0 := hu.cell x0 fun h => h; have x1 := hu.cell x1 fun h => h; have x4 := hu.cell x4 fun h => h
              have hU := (by first | exact hU.trans hu fun _ _ h => h | exact (hU.then_drew).trans hu fun _ _ h => h : Upd Non w wn)
              try have hB := hB.non hu
              clear hu
              try go_wp2_with fail
              refine hK.out _ _ ?_ (fun hHeld => ?_)
              · (try dsimp only); first | exact ⟨x0, x1, x4⟩ | exact ⟨(Upd.alloc Non _ _).cell x0 fun h => h, (Upd.alloc Non _ _).cell x1 fun h => h, (Upd.alloc Non _ _).cell x4 fun h => h⟩
              clear hK K
              try simp only [Act.put, List.setIfInBounds_toArray, List.set_cons_zero, List.set_cons_succ]
              (refine wpAnyH_take (i := 15) (oi := ?oi_86) (v := ?v_86) ?ho_86 ?hs_86 ?hf_86 ?hr_86 ?hQ_86 ?hy_86 ?hS_86 ?rest_86; (case hr_86 => kernel_rfl); (case hf_86 => kernel_rfl); (case hs_86 => kernel_rfl); (case ho_86 => (simp only [List.getElem?_toArray, List.getElem?_cons_succ, List.getElem?_cons_zero]; rfl)); (case hS_86 => assumption); (case hQ_86 => exact fun _ _ _ h => h); (case hy_86 => (refine Or.inl ⟨by rfl, ?_⟩; (intro w hSw; (try dsimp only at hSw); go_simp) <;> with_reducible rfl)); (try simp only [Act.put, List.setIfInBounds_toArray, List.set_cons_zero, List.set_cons_succ]))
              (refine wpAnyH_take (i := 18) (oi := ?oi_87) (v := ?v_87) ?ho_87 ?hs_87 ?hf_87 ?hr_87 ?hQ_87 ?hy_87 ?hS_87 ?rest_87; (case hr_87 => kernel_rfl); (case hf_87 => kernel_rfl); (case hs_87 => kernel_rfl); (case ho_87 => (simp only [List.getElem?_toArray, List.getElem?_cons_succ, List.getElem?_cons_zero]; rfl)); (case hS_87 => assumption); (case hQ_87 => exact fun _ _ _ h => h); (case hy_87 => (refine Or.inl ⟨by rfl, ?_⟩; (intro w hSw; (try dsimp only at hSw); go_simp) <;> with_reducible rfl)); (try simp only [Act.put, List.setIfInBounds_toArray, List.set_cons_zero, List.set_cons_succ]))
              (refine wpAnyH_take (i := 25) (oi := ?oi_88) (v := ?v_88) ?ho_88 ?hs_88 ?hf_88 ?hr_88 ?hQ_88 ?hy_88 ?hS_88 ?rest_88; (case hr_88 => kernel_rfl); (case hf_88 => kernel_rfl); (case hs_88 => kernel_rfl); (case ho_88 => (simp only [List.getElem?_toArray, List.getElem?_cons_succ, List.getElem?_cons_zero]; rfl)); (case hS_88 => assumption); (case hQ_88 => exact fun _ _ _ h => h); (case hy_88 => (refine Or.inl ⟨by rfl, ?_⟩; (intro w hSw; (try dsimp only at hSw); go_simp) <;> with_reducible rfl)); (try simp only [Act.put, List.setIfInBounds_toArray, List.set_cons_zero, List.set_cons_succ]))
              (refine wpAnyH_take (i := 26) (oi := ?oi_89) (v := ?v_89) ?ho_89 ?hs_89 ?hf_89 ?hr_89 ?hQ_89 ?hy_89 ?hS_89 ?rest_89; (case hr_89 => kernel_rfl); (case hf_89 => kernel_rfl); (case hs_89 => kernel_rfl); (case ho_89 => (simp only [List.getElem?_toArray, List.getElem?_cons_succ, List.getElem?_cons_zero]; rfl)); (case hS_89 => assumption); (case hQ_89 => exact fun _ _ _ h => h); (case hy_89 => (refine Or.inl ⟨by rfl, ?_⟩; (intro w hSw; (try dsimp only at hSw); go_simp) <;> with_reducible rfl)); (try simp only [Act.put, List.setIfInBounds_toArray, List.set_cons_zero, List.set_cons_succ]))
              refine wpAnyH_done (by kernel_rfl) ?_ _
              try rw [hstr]
              go_wp2_with fail
              refine (refSum BB _ (by have := hBBl.out; omega)).mono ?_
              rintro en wa ⟨rfl, hua⟩
              rw [hsm.out]
              go_wp2_with fail
              refine (refField (sm : Int) 4 _ (by omega) (by omega) (by decide)).mono ?_
              rintro en wb ⟨rfl, hub⟩
              have hUb := (hU.trans hua fun _ _ h => h).trans hub fun _ _ h => h
              go_wp2_with fail
              go_ret
              refine ⟨?_, hUb⟩
              rw [app_str, hslot.out]
              simp
  case hs15_1 =>
    intro K hK; have hmk := hmk0; go_simp; clear hmk
    try go_wp2_with fail
    refine hK.out _ _ ?_ (fun hHeld => ?_)
    · (try dsimp only); exact ⟨(Upd.alloc Non _ _).cell x0 fun h => h, (Upd.alloc Non _ _).cell x1 fun h => h, (Upd.alloc Non _ _).cell x4 fun h => h⟩
    clear hK K
    try simp only [Act.put, List.setIfInBounds_toArray, List.set_cons_zero, List.set_cons_succ]
    obtain ⟨hB, hU, x0, x1, x4⟩ := made_noughts hU x0 x1 x4 5 (108 - d.length) (by omega)
    rw [show (World.drew (w.alloc (.cells #[.int .i64 e, .int .i64 q, .bool false, .bool false, .string ⟨d.toArray⟩] 41))).heap.size = w.heap.size + 1 by simp] at hB
    refine wpAnyH_ready (rs := [1, 24]) (by kernel_rfl) (by simp) ?_
    refine AllReadyH.cons (o := ?oo90_0) ?ho90_0 ?hs90_0 (AllReadyH.cons (o := ?oo90_1) ?ho90_1 ?hs90_1 AllReadyH.nil)
    case ho90_0 => (simp only [List.getElem?_toArray, List.getElem?_cons_succ, List.getElem?_cons_zero]; rfl)
    case ho90_1 => (simp only [List.getElem?_toArray, List.getElem?_cons_succ, List.getElem?_cons_zero]; rfl)
    case hs90_0 =>
      intro K hK; go_simp; go_at_call 42; refine (refField 0 1 _ (by omega) (by omega) (by decide)).mono ?_; rintro en wn ⟨rfl, hu⟩
      have x0 := hu.cell x0 fun h => h; have x1 := hu.cell x1 fun h => h; have x4 := hu.cell x4 fun h => h
      have hU := (by first | exact hU.trans hu fun _ _ h => h | exact (hU.then_drew).trans hu fun _ _ h => h : Upd Non w wn)
      try have hB := hB.non hu
      clear hu
      try go_wp2_with fail
      refine hK.out _ _ ?_ (fun hHeld => ?_)
      · (try dsimp only); first | exact ⟨x0, x1, x4⟩ | exact ⟨(Upd.alloc Non _ _).cell x0 fun h => h, (Upd.alloc Non _ _).cell x1 fun h => h, (Upd.alloc Non _ _).cell x4 fun h => h⟩
      clear hK K
      try simp only [Act.put, List.setIfInBounds_toArray, List.set_cons_zero, List.set_cons_succ]
      (refine wpAnyH_take (i := 2) (oi := ?oi_91) (v := ?v_91) ?ho_91 ?hs_91 ?hf_91 ?hr_91 ?hQ_91 ?hy_91 ?hS_91 ?rest_91; (case hr_91 => kernel_rfl); (case hf_91 => kernel_rfl); (case hs_91 => kernel_rfl); (case ho_91 => (simp only [List.getElem?_toArray, List.getElem?_cons_succ, List.getElem?_cons_zero]; rfl)); (case hS_91 => assumption); (case hQ_91 => exact fun _ _ _ h => h); (case hy_91 => (refine Or.inl ⟨by rfl, ?_⟩; (intro w hSw; (try dsimp only at hSw); go_simp) <;> with_reducible rfl)); (try simp only [Act.put, List.setIfInBounds_toArray, List.set_cons_zero, List.set_cons_succ]))
      refine wpAnyH_ready (rs := [5, 24]) (by kernel_rfl) (by simp) ?_
      refine AllReadyH.cons (o := ?oo92_0) ?ho92_0 ?hs92_0 (AllReadyH.cons (o := ?oo92_1) ?ho92_1 ?hs92_1 AllReadyH.nil)
      case ho92_0 => (simp only [List.getElem?_toArray, List.getElem?_cons_succ, List.getElem?_cons_zero]; rfl)
      case ho92_1 => (simp only [List.getElem?_toArray, List.getElem?_cons_succ, List.getElem?_cons_zero]; rfl)
      case hs92_0 =>
        intro K hK; go_simp; go_at_call 42; refine (refField e 4 _ (by omega) (by omega) (by decide)).mono ?_; rintro en wn ⟨rfl, hu⟩
        have x0 := hu.cell x0 fun h => h; have x1 := hu.cell x1 fun h => h; have x4 := hu.cell x4 fun h => h
        have hU := (by first | exact hU.trans hu fun _ _ h => h | exact (hU.then_drew).trans hu fun _ _ h => h : Upd Non w wn)
        try have hB := hB.non hu
        clear hu
        try go_wp2_with fail
        refine hK.out _ _ ?_ (fun hHeld => ?_)
        · (try dsimp only); first | exact ⟨x0, x1, x4⟩ | exact ⟨(Upd.alloc Non _ _).cell x0 fun h => h, (Upd.alloc Non _ _).cell x1 fun h => h, (Upd.alloc Non _ _).cell x4 fun h => h⟩
        clear hK K
        try simp only [Act.put, List.setIfInBounds_toArray, List.set_cons_zero, List.set_cons_succ]
        (refine wpAnyH_take (i := 6) (oi := ?oi_93) (v := ?v_93) ?ho_93 ?hs_93 ?hf_93 ?hr_93 ?hQ_93 ?hy_93 ?hS_93 ?rest_93; (case hr_93 => kernel_rfl); (case hf_93 => kernel_rfl); (case hs_93 => kernel_rfl); (case ho_93 => (simp only [List.getElem?_toArray, List.getElem?_cons_succ, List.getElem?_cons_zero]; rfl)); (case hS_93 => assumption); (case hQ_93 => exact fun _ _ _ h => h); (case hy_93 => (refine Or.inl ⟨by rfl, ?_⟩; (intro w hSw; (try dsimp only at hSw); go_simp) <;> with_reducible rfl)); (try simp only [Act.put, List.setIfInBounds_toArray, List.set_cons_zero, List.set_cons_succ]))
        refine wpAnyH_ready (rs := [9, 24]) (by kernel_rfl) (by simp) ?_
        refine AllReadyH.cons (o := ?oo94_0) ?ho94_0 ?hs94_0 (AllReadyH.cons (o := ?oo94_1) ?ho94_1 ?hs94_1 AllReadyH.nil)
        case ho94_0 => (simp only [List.getElem?_toArray, List.getElem?_cons_succ, List.getElem?_cons_zero]; rfl)
        case ho94_1 => (simp only [List.getElem?_toArray, List.getElem?_cons_succ, List.getElem?_cons_zero]; rfl)
        case hs94_0 =>
          intro K hK; go_simp; go_at_call 42; refine (refField q 8 _ (by omega) (by omega) (by decide)).mono ?_; rintro en wn ⟨rfl, hu⟩
          have x0 := hu.cell x0 fun h => h; have x1 := hu.cell x1 fun h => h; have x4 := hu.cell x4 fun h => h
          have hU := (by first | exact hU.trans hu fun _ _ h => h | exact (hU.then_drew).trans hu fun _ _ h => h : Upd Non w wn)
          try have hB := hB.non hu
          clear hu
          try go_wp2_with fail
          refine hK.out _ _ ?_ (fun hHeld => ?_)
          · (try dsimp only); first | exact ⟨x0, x1, x4⟩ | exact ⟨(Upd.alloc Non _ _).cell x0 fun h => h, (Upd.alloc Non _ _).cell x1 fun h => h, (Upd.alloc Non _ _).cell x4 fun h => h⟩
          clear hK K
          try simp only [Act.put, List.setIfInBounds_toArray, List.set_cons_zero, List.set_cons_succ]
          (refine wpAnyH_take (i := 10) (oi := ?oi_95) (v := ?v_95) ?ho_95 ?hs_95 ?hf_95 ?hr_95 ?hQ_95 ?hy_95 ?hS_95 ?rest_95; (case hr_95 => kernel_rfl); (case hf_95 => kernel_rfl); (case hs_95 => kernel_rfl); (case ho_95 => (simp only [List.getElem?_toArray, List.getElem?_cons_succ, List.getElem?_cons_zero]; rfl)); (case hS_95 => assumption); (case hQ_95 => exact fun _ _ _ h => h); (case hy_95 => (refine Or.inl ⟨by rfl, ?_⟩; (intro w hSw; (try dsimp only at hSw); go_simp) <;> with_reducible rfl)); (try simp only [Act.put, List.setIfInBounds_toArray, List.set_cons_zero, List.set_cons_succ]))
          refine wpAnyH_ready (rs := [14, 24]) (by kernel_rfl) (by simp) ?_
          refine AllReadyH.cons (o := ?oo96_0) ?ho96_0 ?hs96_0 (AllReadyH.cons (o := ?oo96_1) ?ho96_1 ?hs96_1 AllReadyH.nil)
          case ho96_0 => (simp only [List.getElem?_toArray, List.getElem?_cons_succ, List.getElem?_cons_zero]; rfl)
          case ho96_1 => (simp only [List.getElem?_toArray, List.getElem?_cons_succ, List.getElem?_cons_zero]; rfl)
          case hs96_0 =>
            intro K hK; go_simp; go_at_call 42; refine (refField (d.length : Int) 2 _ (by omega) (by omega) (by decide)).mono ?_; rintro en wn ⟨rfl, hu⟩
            have x0 := hu.cell x0 fun h => h; have x1 := hu.cell x1 fun h => h; have x4 := hu.cell x4 fun h => h
            have hU := (by first | exact hU.trans hu fun _ _ h => h | exact (hU.then_drew).trans hu fun _ _ h => h : Upd Non w wn)
            try have hB := hB.non hu
            clear hu
            try go_wp2_with fail
            refine hK.out _ _ ?_ (fun hHeld => ?_)
            · (try dsimp only); first | exact ⟨x0, x1, x4⟩ | exact ⟨(Upd.alloc Non _ _).cell x0 fun h => h, (Upd.alloc Non _ _).cell x1 fun h => h, (Upd.alloc Non _ _).cell x4 fun h => h⟩
            clear hK K
            try simp only [Act.put, List.setIfInBounds_toArray, List.set_cons_zero, List.set_cons_succ]
            (refine wpAnyH_take (i := 15) (oi := ?oi_97) (v := ?v_97) ?ho_97 ?hs_97 ?hf_97 ?hr_97 ?hQ_97 ?hy_97 ?hS_97 ?rest_97; (case hr_97 => kernel_rfl); (case hf_97 => kernel_rfl); (case hs_97 => kernel_rfl); (case ho_97 => (simp only [List.getElem?_toArray, List.getElem?_cons_succ, List.getElem?_cons_zero]; rfl)); (case hS_97 => assumption); (case hQ_97 => exact fun _ _ _ h => h); (case hy_97 => (refine Or.inl ⟨by rfl, ?_⟩; (intro w hSw; (try dsimp only at hSw); go_simp) <;> with_reducible rfl)); (try simp only [Act.put, List.setIfInBounds_toArray, List.set_cons_zero, List.set_cons_succ]))
            (refine wpAnyH_take (i := 18) (oi := ?oi_98) (v := ?v_98) ?ho_98 ?hs_98 ?hf_98 ?hr_98 ?hQ_98 ?hy_98 ?hS_98 ?rest_98; (case hr_98 => kernel_rfl); (case hf_98 => kernel_rfl); (case hs_98 => kernel_rfl); (case ho_98 => (simp only [List.getElem?_toArray, List.getElem?_cons_succ, List.getElem?_cons_zero]; rfl)); (case hS_98 => assumption); (case hQ_98 => exact fun _ _ _ h => h); (case hy_98 => (refine Or.inl ⟨by rfl, ?_⟩; (intro w hSw; (try dsimp only at hSw); go_simp) <;> with_reducible rfl)); (try simp only [Act.put, List.setIfInBounds_toArray, List.set_cons_zero, List.set_cons_succ]))
            refine wpAnyH_ready (rs := [24]) (by kernel_rfl) (by simp) ?_
            refine AllReadyH.cons (o := ?oo99_0) ?ho99_0 ?hs99_0 AllReadyH.nil
            case ho99_0 => (simp only [List.getElem?_toArray, List.getElem?_cons_succ, List.getElem?_cons_zero]; rfl)
            case hs99_0 =>
              intro K hK; have hst := run_str (P := Try.prog) _ 42 9 5 Try.underlying42 Try.underlying5 Try.underlying9 _ _ hB; go_simp; clear hst
              try go_wp2_with fail
              refine hK.out _ _ ?_ (fun hHeld => ?_)
              · (try dsimp only); first | exact ⟨x0, x1, x4⟩ | exact ⟨(Upd.alloc Non _ _).cell x0 fun h => h, (Upd.alloc Non _ _).cell x1 fun h => h, (Upd.alloc Non _ _).cell x4 fun h => h⟩
              clear hK K
              try simp only [Act.put, List.setIfInBounds_toArray, List.set_cons_zero, List.set_cons_succ]
              (refine wpAnyH_take (i := 25) (oi := ?oi_100) (v := ?v_100) ?ho_100 ?hs_100 ?hf_100 ?hr_100 ?hQ_100 ?hy_100 ?hS_100 ?rest_100; (case hr_100 => kernel_rfl); (case hf_100 => kernel_rfl); (case hs_100 => kernel_rfl); (case ho_100 => (simp only [List.getElem?_toArray, List.getElem?_cons_succ, List.getElem?_cons_zero]; rfl)); (case hS_100 => assumption); (case hQ_100 => exact fun _ _ _ h => h); (case hy_100 => (refine Or.inl ⟨by rfl, ?_⟩; (intro w hSw; (try dsimp only at hSw); go_simp) <;> with_reducible rfl)); (try simp only [Act.put, List.setIfInBounds_toArray, List.set_cons_zero, List.set_cons_succ]))
              (refine wpAnyH_take (i := 26) (oi := ?oi_101) (v := ?v_101) ?ho_101 ?hs_101 ?hf_101 ?hr_101 ?hQ_101 ?hy_101 ?hS_101 ?rest_101; (case hr_101 => kernel_rfl); (case hf_101 => kernel_rfl); (case hs_101 => kernel_rfl); (case ho_101 => (simp only [List.getElem?_toArray, List.getElem?_cons_succ, List.getElem?_cons_zero]; rfl)); (case hS_101 => assumption); (case hQ_101 => exact fun _ _ _ h => h); (case hy_101 => (refine Or.inl ⟨by rfl, ?_⟩; (intro w hSw; (try dsimp only at hSw); go_simp) <;> with_reducible rfl)); (try simp only [Act.put, List.setIfInBounds_toArray, List.set_cons_zero, List.set_cons_succ]))
              refine wpAnyH_done (by kernel_rfl) ?_ _
              try rw [hstr]
              go_wp2_with fail
              refine (refSum BB _ (by have := hBBl.out; omega)).mono ?_
              rintro en wa ⟨rfl, hua⟩
              rw [hsm.out]
              go_wp2_with fail
              refine (refField (sm : Int) 4 _ (by omega) (by omega) (by decide)).mono ?_
              rintro en wb ⟨rfl, hub⟩
              have hUb := (hU.trans hua fun _ _ h => h).trans hub fun _ _ h => h
              go_wp2_with fail
              go_ret
              refine ⟨?_, hUb⟩
              rw [app_str, hslot.out]
              simp
          case hs96_1 =>
            intro K hK; have hst := run_str (P := Try.prog) _ 42 9 5 Try.underlying42 Try.underlying5 Try.underlying9 _ _ hB; go_simp; clear hst
            try go_wp2_with fail
            refine hK.out _ _ ?_ (fun hHeld => ?_)
            · (try dsimp only); first | exact ⟨x0, x1, x4⟩ | exact ⟨(Upd.alloc Non _ _).cell x0 fun h => h, (Upd.alloc Non _ _).cell x1 fun h => h, (Upd.alloc Non _ _).cell x4 fun h => h⟩
            clear hK K
            try simp only [Act.put, List.setIfInBounds_toArray, List.set_cons_zero, List.set_cons_succ]
            refine wpAnyH_ready (rs := [14]) (by kernel_rfl) (by simp) ?_
            refine AllReadyH.cons (o := ?oo102_0) ?ho102_0 ?hs102_0 AllReadyH.nil
            case ho102_0 => (simp only [List.getElem?_toArray, List.getElem?_cons_succ, List.getElem?_cons_zero]; rfl)
            case hs102_0 =>
              intro K hK; go_simp; go_at_call 42; refine (refField (d.length : Int) 2 _ (by omega) (by omega) (by decide)).mono ?_; rintro en wn ⟨rfl, hu⟩
              have x0 := hu.cell x0 fun h => h; have x1 := hu.cell x1 fun h => h; have x4 := hu.cell x4 fun h => h
              have hU := (by first | exact hU.trans hu fun _ _ h => h | exact (hU.then_drew).trans hu fun _ _ h => h : Upd Non w wn)
              try have hB := hB.non hu
              clear hu
              try go_wp2_with fail
              refine hK.out _ _ ?_ (fun hHeld => ?_)
              · (try dsimp only); first | exact ⟨x0, x1, x4⟩ | exact ⟨(Upd.alloc Non _ _).cell x0 fun h => h, (Upd.alloc Non _ _).cell x1 fun h => h, (Upd.alloc Non _ _).cell x4 fun h => h⟩
              clear hK K
              try simp only [Act.put, List.setIfInBounds_toArray, List.set_cons_zero, List.set_cons_succ]
              (refine wpAnyH_take (i := 15) (oi := ?oi_103) (v := ?v_103) ?ho_103 ?hs_103 ?hf_103 ?hr_103 ?hQ_103 ?hy_103 ?hS_103 ?rest_103; (case hr_103 => kernel_rfl); (case hf_103 => kernel_rfl); (case hs_103 => kernel_rfl); (case ho_103 => (simp only [List.getElem?_toArray, List.getElem?_cons_succ, List.getElem?_cons_zero]; rfl)); (case hS_103 => assumption); (case hQ_103 => exact fun _ _ _ h => h); (case hy_103 => (refine Or.inl ⟨by rfl, ?_⟩; (intro w hSw; (try dsimp only at hSw); go_simp) <;> with_reducible rfl)); (try simp only [Act.put, List.setIfInBounds_toArray, List.set_cons_zero, List.set_cons_succ]))
              (refine wpAnyH_take (i := 18) (oi := ?oi_104) (v := ?v_104) ?ho_104 ?hs_104 ?hf_104 ?hr_104 ?hQ_104 ?hy_104 ?hS_104 ?rest_104; (case hr_104 => kernel_rfl); (case hf_104 => kernel_rfl); (case hs_104 => kernel_rfl); (case ho_104 => (simp only [List.getElem?_toArray, List.getElem?_cons_succ, List.getElem?_cons_zero]; rfl)); (case hS_104 => assumption); (case hQ_104 => exact fun _ _ _ h => h); (case hy_104 => (refine Or.inl ⟨by rfl, ?_⟩; (intro w hSw; (try dsimp only at hSw); go_simp) <;> with_reducible rfl)); (try simp only [Act.put, List.setIfInBounds_toArray, List.set_cons_zero, List.set_cons_succ]))
              (refine wpAnyH_take (i := 25) (oi := ?oi_105) (v := ?v_105) ?ho_105 ?hs_105 ?hf_105 ?hr_105 ?hQ_105 ?hy_105 ?hS_105 ?rest_105; (case hr_105 => kernel_rfl); (case hf_105 => kernel_rfl); (case hs_105 => kernel_rfl); (case ho_105 => (simp only [List.getElem?_toArray, List.getElem?_cons_succ, List.getElem?_cons_zero]; rfl)); (case hS_105 => assumption); (case hQ_105 => exact fun _ _ _ h => h); (case hy_105 => (refine Or.inl ⟨by rfl, ?_⟩; (intro w hSw; (try dsimp only at hSw); go_simp) <;> with_reducible rfl)); (try simp only [Act.put, List.setIfInBounds_toArray, List.set_cons_zero, List.set_cons_succ]))
              (refine wpAnyH_take (i := 26) (oi := ?oi_106) (v := ?v_106) ?ho_106 ?hs_106 ?hf_106 ?hr_106 ?hQ_106 ?hy_106 ?hS_106 ?rest_106; (case hr_106 => kernel_rfl); (case hf_106 => kernel_rfl); (case hs_106 => kernel_rfl); (case ho_106 => (simp only [List.getElem?_toArray, List.getElem?_cons_succ, List.getElem?_cons_zero]; rfl)); (case hS_106 => assumption); (case hQ_106 => exact fun _ _ _ h => h); (case hy_106 => (refine Or.inl ⟨by rfl, ?_⟩; (intro w hSw; (try dsimp only at hSw); go_simp) <;> with_reducible rfl)); (try simp only [Act.put, List.setIfInBounds_toArray, List.set_cons_zero, List.set_cons_succ]))
              refine wpAnyH_done (by kernel_rfl) ?_ _
              try rw [hstr]
              go_wp2_with fail
              refine (refSum BB _ (by have := hBBl.out; omega)).mono ?_
              rintro en wa ⟨rfl, hua⟩
              rw [hsm.out]
              go_wp2_with fail
              refine (refField (sm : Int) 4 _ (by omega) (by omega) (by decide)).mono ?_
              rintro en wb ⟨rfl, hub⟩
              have hUb := (hU.trans hua fun _ _ h => h).trans hub fun _ _ h => h
              go_wp2_with fail
              go_ret
              refine ⟨?_, hUb⟩
              rw [app_str, hslot.out]
              simp
        case hs94_1 =>
          intro K hK; have hst := run_str (P := Try.prog) _ 42 9 5 Try.underlying42 Try.underlying5 Try.underlying9 _ _ hB; go_simp; clear hst
          try go_wp2_with fail
          refine hK.out _ _ ?_ (fun hHeld => ?_)
          · (try dsimp only); first | exact ⟨x0, x1, x4⟩ | exact ⟨(Upd.alloc Non _ _).cell x0 fun h => h, (Upd.alloc Non _ _).cell x1 fun h => h, (Upd.alloc Non _ _).cell x4 fun h => h⟩
          clear hK K
          try simp only [Act.put, List.setIfInBounds_toArray, List.set_cons_zero, List.set_cons_succ]
          refine wpAnyH_ready (rs := [9]) (by kernel_rfl) (by simp) ?_
          refine AllReadyH.cons (o := ?oo107_0) ?ho107_0 ?hs107_0 AllReadyH.nil
          case ho107_0 => (simp only [List.getElem?_toArray, List.getElem?_cons_succ, List.getElem?_cons_zero]; rfl)
          case hs107_0 =>
            intro K hK; go_simp; go_at_call 42; refine (refField q 8 _ (by omega) (by omega) (by decide)).mono ?_; rintro en wn ⟨rfl, hu⟩
            have x0 := hu.cell x0 fun h => h; have x1 := hu.cell x1 fun h => h; have x4 := hu.cell x4 fun h => h
            have hU := (by first | exact hU.trans hu fun _ _ h => h | exact (hU.then_drew).trans hu fun _ _ h => h : Upd Non w wn)
            try have hB := hB.non hu
            clear hu
            try go_wp2_with fail
            refine hK.out _ _ ?_ (fun hHeld => ?_)
            · (try dsimp only); first | exact ⟨x0, x1, x4⟩ | exact ⟨(Upd.alloc Non _ _).cell x0 fun h => h, (Upd.alloc Non _ _).cell x1 fun h => h, (Upd.alloc Non _ _).cell x4 fun h => h⟩
            clear hK K
            try simp only [Act.put, List.setIfInBounds_toArray, List.set_cons_zero, List.set_cons_succ]
            (refine wpAnyH_take (i := 10) (oi := ?oi_108) (v := ?v_108) ?ho_108 ?hs_108 ?hf_108 ?hr_108 ?hQ_108 ?hy_108 ?hS_108 ?rest_108; (case hr_108 => kernel_rfl); (case hf_108 => kernel_rfl); (case hs_108 => kernel_rfl); (case ho_108 => (simp only [List.getElem?_toArray, List.getElem?_cons_succ, List.getElem?_cons_zero]; rfl)); (case hS_108 => assumption); (case hQ_108 => exact fun _ _ _ h => h); (case hy_108 => (refine Or.inl ⟨by rfl, ?_⟩; (intro w hSw; (try dsimp only at hSw); go_simp) <;> with_reducible rfl)); (try simp only [Act.put, List.setIfInBounds_toArray, List.set_cons_zero, List.set_cons_succ]))
            refine wpAnyH_ready (rs := [14]) (by kernel_rfl) (by simp) ?_
            refine AllReadyH.cons (o := ?oo109_0) ?ho109_0 ?hs109_0 AllReadyH.nil
            case ho109_0 => (simp only [List.getElem?_toArray, List.getElem?_cons_succ, List.getElem?_cons_zero]; rfl)
            case hs109_0 =>
              intro K hK; go_simp; go_at_call 42; refine (refField (d.length : Int) 2 _ (by omega) (by omega) (by decide)).mono ?_; rintro en wn ⟨rfl, hu⟩
              have x0 := hu.cell x0 fun h => h; have x1 := hu.cell x1 fun h => h; have x4 := hu.cell x4 fun h => h
              have hU := (by first | exact hU.trans hu fun _ _ h => h | exact (hU.then_drew).trans hu fun _ _ h => h : Upd Non w wn)
              try have hB := hB.non hu
              clear hu
              try go_wp2_with fail
              refine hK.out _ _ ?_ (fun hHeld => ?_)
              · (try dsimp only); first | exact ⟨x0, x1, x4⟩ | exact ⟨(Upd.alloc Non _ _).cell x0 fun h => h, (Upd.alloc Non _ _).cell x1 fun h => h, (Upd.alloc Non _ _).cell x4 fun h => h⟩
              clear hK K
              try simp only [Act.put, List.setIfInBounds_toArray, List.set_cons_zero, List.set_cons_succ]
              (refine wpAnyH_take (i := 15) (oi := ?oi_110) (v := ?v_110) ?ho_110 ?hs_110 ?hf_110 ?hr_110 ?hQ_110 ?hy_110 ?hS_110 ?rest_110; (case hr_110 => kernel_rfl); (case hf_110 => kernel_rfl); (case hs_110 => kernel_rfl); (case ho_110 => (simp only [List.getElem?_toArray, List.getElem?_cons_succ, List.getElem?_cons_zero]; rfl)); (case hS_110 => assumption); (case hQ_110 => exact fun _ _ _ h => h); (case hy_110 => (refine Or.inl ⟨by rfl, ?_⟩; (intro w hSw; (try dsimp only at hSw); go_simp) <;> with_reducible rfl)); (try simp only [Act.put, List.setIfInBounds_toArray, List.set_cons_zero, List.set_cons_succ]))
              (refine wpAnyH_take (i := 18) (oi := ?oi_111) (v := ?v_111) ?ho_111 ?hs_111 ?hf_111 ?hr_111 ?hQ_111 ?hy_111 ?hS_111 ?rest_111; (case hr_111 => kernel_rfl); (case hf_111 => kernel_rfl); (case hs_111 => kernel_rfl); (case ho_111 => (simp only [List.getElem?_toArray, List.getElem?_cons_succ, List.getElem?_cons_zero]; rfl)); (case hS_111 => assumption); (case hQ_111 => exact fun _ _ _ h => h); (case hy_111 => (refine Or.inl ⟨by rfl, ?_⟩; (intro w hSw; (try dsimp only at hSw); go_simp) <;> with_reducible rfl)); (try simp only [Act.put, List.setIfInBounds_toArray, List.set_cons_zero, List.set_cons_succ]))
              (refine wpAnyH_take (i := 25) (oi := ?oi_112) (v := ?v_112) ?ho_112 ?hs_112 ?hf_112 ?hr_112 ?hQ_112 ?hy_112 ?hS_112 ?rest_112; (case hr_112 => kernel_rfl); (case hf_112 => kernel_rfl); (case hs_112 => kernel_rfl); (case ho_112 => (simp only [List.getElem?_toArray, List.getElem?_cons_succ, List.getElem?_cons_zero]; rfl)); (case hS_112 => assumption); (case hQ_112 => exact fun _ _ _ h => h); (case hy_112 => (refine Or.inl ⟨by rfl, ?_⟩; (intro w hSw; (try dsimp only at hSw); go_simp) <;> with_reducible rfl)); (try simp only [Act.put, List.setIfInBounds_toArray, List.set_cons_zero, List.set_cons_succ]))
              (refine wpAnyH_take (i := 26) (oi := ?oi_113) (v := ?v_113) ?ho_113 ?hs_113 ?hf_113 ?hr_113 ?hQ_113 ?hy_113 ?hS_113 ?rest_113; (case hr_113 => kernel_rfl); (case hf_113 => kernel_rfl); (case hs_113 => kernel_rfl); (case ho_113 => (simp only [List.getElem?_toArray, List.getElem?_cons_succ, List.getElem?_cons_zero]; rfl)); (case hS_113 => assumption); (case hQ_113 => exact fun _ _ _ h => h); (case hy_113 => (refine Or.inl ⟨by rfl, ?_⟩; (intro w hSw; (try dsimp only at hSw); go_simp) <;> with_reducible rfl)); (try simp only [Act.put, List.setIfInBounds_toArray, List.set_cons_zero, List.set_cons_succ]))
              refine wpAnyH_done (by kernel_rfl) ?_ _
              try rw [hstr]
              go_wp2_with fail
              refine (refSum BB _ (by have := hBBl.out; omega)).mono ?_
              rintro en wa ⟨rfl, hua⟩
              rw [hsm.out]
              go_wp2_with fail
              refine (refField (sm : Int) 4 _ (by omega) (by omega) (by decide)).mono ?_
              rintro en wb ⟨rfl, hub⟩
              have hUb := (hU.trans hua fun _ _ h => h).trans hub fun _ _ h => h
              go_wp2_with fail
              go_ret
              refine ⟨?_, hUb⟩
              rw [app_str, hslot.out]
              simp
      case hs92_1 =>
        intro K hK; have hst := run_str (P := Try.prog) _ 42 9 5 Try.underlying42 Try.underlying5 Try.underlying9 _ _ hB; go_simp; clear hst
        try go_wp2_with fail
        refine hK.out _ _ ?_ (fun hHeld => ?_)
        · (try dsimp only); first | exact ⟨x0, x1, x4⟩ | exact ⟨(Upd.alloc Non _ _).cell x0 fun h => h, (Upd.alloc Non _ _).cell x1 fun h => h, (Upd.alloc Non _ _).cell x4 fun h => h⟩
        clear hK K
        try simp only [Act.put, List.setIfInBounds_toArray, List.set_cons_zero, List.set_cons_succ]
        refine wpAnyH_ready (rs := [5]) (by kernel_rfl) (by simp) ?_
        refine AllReadyH.cons (o := ?oo114_0) ?ho114_0 ?hs114_0 AllReadyH.nil
        case ho114_0 => (simp only [List.getElem?_toArray, List.getElem?_cons_succ, List.getElem?_cons_zero]; rfl)
        case hs114_0 =>
          intro K hK; go_simp; go_at_call 42; refine (refField e 4 _ (by omega) (by omega) (by decide)).mono ?_; rintro en wn ⟨rfl, hu⟩
          have x0 := hu.cell x0 fun h => h; have x1 := hu.cell x1 fun h => h; have x4 := hu.cell x4 fun h => h
          have hU := (by first | exact hU.trans hu fun _ _ h => h | exact (hU.then_drew).trans hu fun _ _ h => h : Upd Non w wn)
          try have hB := hB.non hu
          clear hu
          try go_wp2_with fail
          refine hK.out _ _ ?_ (fun hHeld => ?_)
          · (try dsimp only); first | exact ⟨x0, x1, x4⟩ | exact ⟨(Upd.alloc Non _ _).cell x0 fun h => h, (Upd.alloc Non _ _).cell x1 fun h => h, (Upd.alloc Non _ _).cell x4 fun h => h⟩
          clear hK K
          try simp only [Act.put, List.setIfInBounds_toArray, List.set_cons_zero, List.set_cons_succ]
          (refine wpAnyH_take (i := 6) (oi := ?oi_115) (v := ?v_115) ?ho_115 ?hs_115 ?hf_115 ?hr_115 ?hQ_115 ?hy_115 ?hS_115 ?rest_115; (case hr_115 => kernel_rfl); (case hf_115 => kernel_rfl); (case hs_115 => kernel_rfl); (case ho_115 => (simp only [List.getElem?_toArray, List.getElem?_cons_succ, List.getElem?_cons_zero]; rfl)); (case hS_115 => assumption); (case hQ_115 => exact fun _ _ _ h => h); (case hy_115 => (refine Or.inl ⟨by rfl, ?_⟩; (intro w hSw; (try dsimp only at hSw); go_simp) <;> with_reducible rfl)); (try simp only [Act.put, List.setIfInBounds_toArray, List.set_cons_zero, List.set_cons_succ]))
          refine wpAnyH_ready (rs := [9]) (by kernel_rfl) (by simp) ?_
          refine AllReadyH.cons (o := ?oo116_0) ?ho116_0 ?hs116_0 AllReadyH.nil
          case ho116_0 => (simp only [List.getElem?_toArray, List.getElem?_cons_succ, List.getElem?_cons_zero]; rfl)
          case hs116_0 =>
            intro K hK; go_simp; go_at_call 42; refine (refField q 8 _ (by omega) (by omega) (by decide)).mono ?_; rintro en wn ⟨rfl, hu⟩
            have x0 := hu.cell x0 fun h => h; have x1 := hu.cell x1 fun h => h; have x4 := hu.cell x4 fun h => h
            have hU := (by first | exact hU.trans hu fun _ _ h => h | exact (hU.then_drew).trans hu fun _ _ h => h : Upd Non w wn)
            try have hB := hB.non hu
            clear hu
            try go_wp2_with fail
            refine hK.out _ _ ?_ (fun hHeld => ?_)
            · (try dsimp only); first | exact ⟨x0, x1, x4⟩ | exact ⟨(Upd.alloc Non _ _).cell x0 fun h => h, (Upd.alloc Non _ _).cell x1 fun h => h, (Upd.alloc Non _ _).cell x4 fun h => h⟩
            clear hK K
            try simp only [Act.put, List.setIfInBounds_toArray, List.set_cons_zero, List.set_cons_succ]
            (refine wpAnyH_take (i := 10) (oi := ?oi_117) (v := ?v_117) ?ho_117 ?hs_117 ?hf_117 ?hr_117 ?hQ_117 ?hy_117 ?hS_117 ?rest_117; (case hr_117 => kernel_rfl); (case hf_117 => kernel_rfl); (case hs_117 => kernel_rfl); (case ho_117 => (simp only [List.getElem?_toArray, List.getElem?_cons_succ, List.getElem?_cons_zero]; rfl)); (case hS_117 => assumption); (case hQ_117 => exact fun _ _ _ h => h); (case hy_117 => (refine Or.inl ⟨by rfl, ?_⟩; (intro w hSw; (try dsimp only at hSw); go_simp) <;> with_reducible rfl)); (try simp only [Act.put, List.setIfInBounds_toArray, List.set_cons_zero, List.set_cons_succ]))
            refine wpAnyH_ready (rs := [14]) (by kernel_rfl) (by simp) ?_
            refine AllReadyH.cons (o := ?oo118_0) ?ho118_0 ?hs118_0 AllReadyH.nil
            case ho118_0 => (simp only [List.getElem?_toArray, List.getElem?_cons_succ, List.getElem?_cons_zero]; rfl)
            case hs118_0 =>
              intro K hK; go_simp; go_at_call 42; refine (refField (d.length : Int) 2 _ (by omega) (by omega) (by decide)).mono ?_; rintro en wn ⟨rfl, hu⟩
              have x0 := hu.cell x0 fun h => h; have x1 := hu.cell x1 fun h => h; have x4 := hu.cell x4 fun h => h
              have hU := (by first | exact hU.trans hu fun _ _ h => h | exact (hU.then_drew).trans hu fun _ _ h => h : Upd Non w wn)
              try have hB := hB.non hu
              clear hu
              try go_wp2_with fail
              refine hK.out _ _ ?_ (fun hHeld => ?_)
              · (try dsimp only); first | exact ⟨x0, x1, x4⟩ | exact ⟨(Upd.alloc Non _ _).cell x0 fun h => h, (Upd.alloc Non _ _).cell x1 fun h => h, (Upd.alloc Non _ _).cell x4 fun h => h⟩
              clear hK K
              try simp only [Act.put, List.setIfInBounds_toArray, List.set_cons_zero, List.set_cons_succ]
              (refine wpAnyH_take (i := 15) (oi := ?oi_119) (v := ?v_119) ?ho_119 ?hs_119 ?hf_119 ?hr_119 ?hQ_119 ?hy_119 ?hS_119 ?rest_119; (case hr_119 => kernel_rfl); (case hf_119 => kernel_rfl); (case hs_119 => kernel_rfl); (case ho_119 => (simp only [List.getElem?_toArray, List.getElem?_cons_succ, List.getElem?_cons_zero]; rfl)); (case hS_119 => assumption); (case hQ_119 => exact fun _ _ _ h => h); (case hy_119 => (refine Or.inl ⟨by rfl, ?_⟩; (intro w hSw; (try dsimp only at hSw); go_simp) <;> with_reducible rfl)); (try simp only [Act.put, List.setIfInBounds_toArray, List.set_cons_zero, List.set_cons_succ]))
              (refine wpAnyH_take (i := 18) (oi := ?oi_120) (v := ?v_120) ?ho_120 ?hs_120 ?hf_120 ?hr_120 ?hQ_120 ?hy_120 ?hS_120 ?rest_120; (case hr_120 => kernel_rfl); (case hf_120 => kernel_rfl); (case hs_120 => kernel_rfl); (case ho_120 => (simp only [List.getElem?_toArray, List.getElem?_cons_succ, List.getElem?_cons_zero]; rfl)); (case hS_120 => assumption); (case hQ_120 => exact fun _ _ _ h => h); (case hy_120 => (refine Or.inl ⟨by rfl, ?_⟩; (intro w hSw; (try dsimp only at hSw); go_simp) <;> with_reducible rfl)); (try simp only [Act.put, List.setIfInBounds_toArray, List.set_cons_zero, List.set_cons_succ]))
              (refine wpAnyH_take (i := 25) (oi := ?oi_121) (v := ?v_121) ?ho_121 ?hs_121 ?hf_121 ?hr_121 ?hQ_121 ?hy_121 ?hS_121 ?rest_121; (case hr_121 => kernel_rfl); (case hf_121 => kernel_rfl); (case hs_121 => kernel_rfl); (case ho_121 => (simp only [List.getElem?_toArray, List.getElem?_cons_succ, List.getElem?_cons_zero]; rfl)); (case hS_121 => assumption); (case hQ_121 => exact fun _ _ _ h => h); (case hy_121 => (refine Or.inl ⟨by rfl, ?_⟩; (intro w hSw; (try dsimp only at hSw); go_simp) <;> with_reducible rfl)); (try simp only [Act.put, List.setIfInBounds_toArray, List.set_cons_zero, List.set_cons_succ]))
              (refine wpAnyH_take (i := 26) (oi := ?oi_122) (v := ?v_122) ?ho_122 ?hs_122 ?hf_122 ?hr_122 ?hQ_122 ?hy_122 ?hS_122 ?rest_122; (case hr_122 => kernel_rfl); (case hf_122 => kernel_rfl); (case hs_122 => kernel_rfl); (case ho_122 => (simp only [List.getElem?_toArray, List.getElem?_cons_succ, List.getElem?_cons_zero]; rfl)); (case hS_122 => assumption); (case hQ_122 => exact fun _ _ _ h => h); (case hy_122 => (refine Or.inl ⟨by rfl, ?_⟩; (intro w hSw; (try dsimp only at hSw); go_simp) <;> with_reducible rfl)); (try simp only [Act.put, List.setIfInBounds_toArray, List.set_cons_zero, List.set_cons_succ]))
              refine wpAnyH_done (by kernel_rfl) ?_ _
              try rw [hstr]
              go_wp2_with fail
              refine (refSum BB _ (by have := hBBl.out; omega)).mono ?_
              rintro en wa ⟨rfl, hua⟩
              rw [hsm.out]
              go_wp2_with fail
              refine (refField (sm : Int) 4 _ (by omega) (by omega) (by decide)).mono ?_
              rintro en wb ⟨rfl, hub⟩
              have hUb := (hU.trans hua fun _ _ h => h).trans hub fun _ _ h => h
              go_wp2_with fail
              go_ret
              refine ⟨?_, hUb⟩
              rw [app_str, hslot.out]
              simp
    case hs90_1 =>
      intro K hK; have hst := run_str (P := Try.prog) _ 42 9 5 Try.underlying42 Try.underlying5 Try.underlying9 _ _ (show Bytes (((w.alloc (.cells #[.int .i64 e, .int .i64 q, .bool false, .bool false, .string ⟨d.toArray⟩] 41)).alloc (.cells (Array.replicate (108 - d.length) (.int .u8 0)) 5)).drew) (.slice (some ⟨w.heap.size + 1, 0, none⟩) (108 - d.length) (108 - d.length)) (List.replicate (108 - d.length) 0) from hB); go_simp; clear hst
      try go_wp2_with fail
      refine hK.out _ _ ?_ (fun hHeld => ?_)
      · (try dsimp only); first | exact ⟨x0, x1, x4⟩ | exact ⟨(Upd.alloc Non _ _).cell x0 fun h => h, (Upd.alloc Non _ _).cell x1 fun h => h, (Upd.alloc Non _ _).cell x4 fun h => h⟩
      clear hK K
      try simp only [Act.put, List.setIfInBounds_toArray, List.set_cons_zero, List.set_cons_succ]
      refine wpAnyH_ready (rs := [1]) (by kernel_rfl) (by simp) ?_
      refine AllReadyH.cons (o := ?oo123_0) ?ho123_0 ?hs123_0 AllReadyH.nil
      case ho123_0 => (simp only [List.getElem?_toArray, List.getElem?_cons_succ, List.getElem?_cons_zero]; rfl)
      case hs123_0 =>
        intro K hK; go_simp; go_at_call 42; refine (refField 0 1 _ (by omega) (by omega) (by decide)).mono ?_; rintro en wn ⟨rfl, hu⟩
        have x0 := hu.cell x0 fun h => h; have x1 := hu.cell x1 fun h => h; have x4 := hu.cell x4 fun h => h
        have hU := (by first | exact hU.trans hu fun _ _ h => h | exact (hU.then_drew).trans hu fun _ _ h => h : Upd Non w wn)
        try have hB := hB.non hu
        clear hu
        try go_wp2_with fail
        refine hK.out _ _ ?_ (fun hHeld => ?_)
        · (try dsimp only); first | exact ⟨x0, x1, x4⟩ | exact ⟨(Upd.alloc Non _ _).cell x0 fun h => h, (Upd.alloc Non _ _).cell x1 fun h => h, (Upd.alloc Non _ _).cell x4 fun h => h⟩
        clear hK K
        try simp only [Act.put, List.setIfInBounds_toArray, List.set_cons_zero, List.set_cons_succ]
        (refine wpAnyH_take (i := 2) (oi := ?oi_124) (v := ?v_124) ?ho_124 ?hs_124 ?hf_124 ?hr_124 ?hQ_124 ?hy_124 ?hS_124 ?rest_124; (case hr_124 => kernel_rfl); (case hf_124 => kernel_rfl); (case hs_124 => kernel_rfl); (case ho_124 => (simp only [List.getElem?_toArray, List.getElem?_cons_succ, List.getElem?_cons_zero]; rfl)); (case hS_124 => assumption); (case hQ_124 => exact fun _ _ _ h => h); (case hy_124 => (refine Or.inl ⟨by rfl, ?_⟩; (intro w hSw; (try dsimp only at hSw); go_simp) <;> with_reducible rfl)); (try simp only [Act.put, List.setIfInBounds_toArray, List.set_cons_zero, List.set_cons_succ]))
        refine wpAnyH_ready (rs := [5]) (by kernel_rfl) (by simp) ?_
        refine AllReadyH.cons (o := ?oo125_0) ?ho125_0 ?hs125_0 AllReadyH.nil
        case ho125_0 => (simp only [List.getElem?_toArray, List.getElem?_cons_succ, List.getElem?_cons_zero]; rfl)
        case hs125_0 =>
          intro K hK; go_simp; go_at_call 42; refine (refField e 4 _ (by omega) (by omega) (by decide)).mono ?_; rintro en wn ⟨rfl, hu⟩
          have x0 := hu.cell x0 fun h => h; have x1 := hu.cell x1 fun h => h; have x4 := hu.cell x4 fun h => h
          have hU := (by first | exact hU.trans hu fun _ _ h => h | exact (hU.then_drew).trans hu fun _ _ h => h : Upd Non w wn)
          try have hB := hB.non hu
          clear hu
          try go_wp2_with fail
          refine hK.out _ _ ?_ (fun hHeld => ?_)
          · (try dsimp only); first | exact ⟨x0, x1, x4⟩ | exact ⟨(Upd.alloc Non _ _).cell x0 fun h => h, (Upd.alloc Non _ _).cell x1 fun h => h, (Upd.alloc Non _ _).cell x4 fun h => h⟩
          clear hK K
          try simp only [Act.put, List.setIfInBounds_toArray, List.set_cons_zero, List.set_cons_succ]
          (refine wpAnyH_take (i := 6) (oi := ?oi_126) (v := ?v_126) ?ho_126 ?hs_126 ?hf_126 ?hr_126 ?hQ_126 ?hy_126 ?hS_126 ?rest_126; (case hr_126 => kernel_rfl); (case hf_126 => kernel_rfl); (case hs_126 => kernel_rfl); (case ho_126 => (simp only [List.getElem?_toArray, List.getElem?_cons_succ, List.getElem?_cons_zero]; rfl)); (case hS_126 => assumption); (case hQ_126 => exact fun _ _ _ h => h); (case hy_126 => (refine Or.inl ⟨by rfl, ?_⟩; (intro w hSw; (try dsimp only at hSw); go_simp) <;> with_reducible rfl)); (try simp only [Act.put, List.setIfInBounds_toArray, List.set_cons_zero, List.set_cons_succ]))
          refine wpAnyH_ready (rs := [9]) (by kernel_rfl) (by simp) ?_
          refine AllReadyH.cons (o := ?oo127_0) ?ho127_0 ?hs127_0 AllReadyH.nil
          case ho127_0 => (simp only [List.getElem?_toArray, List.getElem?_cons_succ, List.getElem?_cons_zero]; rfl)
          case hs127_0 =>
            intro K hK; go_simp; go_at_call 42; refine (refField q 8 _ (by omega) (by omega) (by decide)).mono ?_; rintro en wn ⟨rfl, hu⟩
            have x0 := hu.cell x0 fun h => h; have x1 := hu.cell x1 fun h => h; have x4 := hu.cell x4 fun h => h
            have hU := (by first | exact hU.trans hu fun _ _ h => h | exact (hU.then_drew).trans hu fun _ _ h => h : Upd Non w wn)
            try have hB := hB.non hu
            clear hu
            try go_wp2_with fail
            refine hK.out _ _ ?_ (fun hHeld => ?_)
            · (try dsimp only); first | exact ⟨x0, x1, x4⟩ | exact ⟨(Upd.alloc Non _ _).cell x0 fun h => h, (Upd.alloc Non _ _).cell x1 fun h => h, (Upd.alloc Non _ _).cell x4 fun h => h⟩
            clear hK K
            try simp only [Act.put, List.setIfInBounds_toArray, List.set_cons_zero, List.set_cons_succ]
            (refine wpAnyH_take (i := 10) (oi := ?oi_128) (v := ?v_128) ?ho_128 ?hs_128 ?hf_128 ?hr_128 ?hQ_128 ?hy_128 ?hS_128 ?rest_128; (case hr_128 => kernel_rfl); (case hf_128 => kernel_rfl); (case hs_128 => kernel_rfl); (case ho_128 => (simp only [List.getElem?_toArray, List.getElem?_cons_succ, List.getElem?_cons_zero]; rfl)); (case hS_128 => assumption); (case hQ_128 => exact fun _ _ _ h => h); (case hy_128 => (refine Or.inl ⟨by rfl, ?_⟩; (intro w hSw; (try dsimp only at hSw); go_simp) <;> with_reducible rfl)); (try simp only [Act.put, List.setIfInBounds_toArray, List.set_cons_zero, List.set_cons_succ]))
            refine wpAnyH_ready (rs := [14]) (by kernel_rfl) (by simp) ?_
            refine AllReadyH.cons (o := ?oo129_0) ?ho129_0 ?hs129_0 AllReadyH.nil
            case ho129_0 => (simp only [List.getElem?_toArray, List.getElem?_cons_succ, List.getElem?_cons_zero]; rfl)
            case hs129_0 =>
              intro K hK; go_simp; go_at_call 42; refine (refField (d.length : Int) 2 _ (by omega) (by omega) (by decide)).mono ?_; rintro en wn ⟨rfl, hu⟩
              have x0 := hu.cell x0 fun h => h; have x1 := hu.cell x1 fun h => h; have x4 := hu.cell x4 fun h => h
              have hU := (by first | exact hU.trans hu fun _ _ h => h | exact (hU.then_drew).trans hu fun _ _ h => h : Upd Non w wn)
              try have hB := hB.non hu
              clear hu
              try go_wp2_with fail
              refine hK.out _ _ ?_ (fun hHeld => ?_)
              · (try dsimp only); first | exact ⟨x0, x1, x4⟩ | exact ⟨(Upd.alloc Non _ _).cell x0 fun h => h, (Upd.alloc Non _ _).cell x1 fun h => h, (Upd.alloc Non _ _).cell x4 fun h => h⟩
              clear hK K
              try simp only [Act.put, List.setIfInBounds_toArray, List.set_cons_zero, List.set_cons_succ]
              (refine wpAnyH_take (i := 15) (oi := ?oi_130) (v := ?v_130) ?ho_130 ?hs_130 ?hf_130 ?hr_130 ?hQ_130 ?hy_130 ?hS_130 ?rest_130; (case hr_130 => kernel_rfl); (case hf_130 => kernel_rfl); (case hs_130 => kernel_rfl); (case ho_130 => (simp only [List.getElem?_toArray, List.getElem?_cons_succ, List.getElem?_cons_zero]; rfl)); (case hS_130 => assumption); (case hQ_130 => exact fun _ _ _ h => h); (case hy_130 => (refine Or.inl ⟨by rfl, ?_⟩; (intro w hSw; (try dsimp only at hSw); go_simp) <;> with_reducible rfl)); (try simp only [Act.put, List.setIfInBounds_toArray, List.set_cons_zero, List.set_cons_succ]))
              (refine wpAnyH_take (i := 18) (oi := ?oi_131) (v := ?v_131) ?ho_131 ?hs_131 ?hf_131 ?hr_131 ?hQ_131 ?hy_131 ?hS_131 ?rest_131; (case hr_131 => kernel_rfl); (case hf_131 => kernel_rfl); (case hs_131 => kernel_rfl); (case ho_131 => (simp only [List.getElem?_toArray, List.getElem?_cons_succ, List.getElem?_cons_zero]; rfl)); (case hS_131 => assumption); (case hQ_131 => exact fun _ _ _ h => h); (case hy_131 => (refine Or.inl ⟨by rfl, ?_⟩; (intro w hSw; (try dsimp only at hSw); go_simp) <;> with_reducible rfl)); (try simp only [Act.put, List.setIfInBounds_toArray, List.set_cons_zero, List.set_cons_succ]))
              (refine wpAnyH_take (i := 25) (oi := ?oi_132) (v := ?v_132) ?ho_132 ?hs_132 ?hf_132 ?hr_132 ?hQ_132 ?hy_132 ?hS_132 ?rest_132; (case hr_132 => kernel_rfl); (case hf_132 => kernel_rfl); (case hs_132 => kernel_rfl); (case ho_132 => (simp only [List.getElem?_toArray, List.getElem?_cons_succ, List.getElem?_cons_zero]; rfl)); (case hS_132 => assumption); (case hQ_132 => exact fun _ _ _ h => h); (case hy_132 => (refine Or.inl ⟨by rfl, ?_⟩; (intro w hSw; (try dsimp only at hSw); go_simp) <;> with_reducible rfl)); (try simp only [Act.put, List.setIfInBounds_toArray, List.set_cons_zero, List.set_cons_succ]))
              (refine wpAnyH_take (i := 26) (oi := ?oi_133) (v := ?v_133) ?ho_133 ?hs_133 ?hf_133 ?hr_133 ?hQ_133 ?hy_133 ?hS_133 ?rest_133; (case hr_133 => kernel_rfl); (case hf_133 => kernel_rfl); (case hs_133 => kernel_rfl); (case ho_133 => (simp only [List.getElem?_toArray, List.getElem?_cons_succ, List.getElem?_cons_zero]; rfl)); (case hS_133 => assumption); (case hQ_133 => exact fun _ _ _ h => h); (case hy_133 => (refine Or.inl ⟨by rfl, ?_⟩; (intro w hSw; (try dsimp only at hSw); go_simp) <;> with_reducible rfl)); (try simp only [Act.put, List.setIfInBounds_toArray, List.set_cons_zero, List.set_cons_succ]))
              refine wpAnyH_done (by kernel_rfl) ?_ _
              try rw [hstr]
              go_wp2_with fail
              refine (refSum BB _ (by have := hBBl.out; omega)).mono ?_
              rintro en wa ⟨rfl, hua⟩
              rw [hsm.out]
              go_wp2_with fail
              refine (refField (sm : Int) 4 _ (by omega) (by omega) (by decide)).mono ?_
              rintro en wb ⟨rfl, hub⟩
              have hUb := (hU.trans hua fun _ _ h => h).trans hub fun _ _ h => h
              go_wp2_with fail
              go_ret
              refine ⟨?_, hUb⟩
              rw [app_str, hslot.out]
              simp
end Go.Proofs.Ytiadbijholnbjaa
