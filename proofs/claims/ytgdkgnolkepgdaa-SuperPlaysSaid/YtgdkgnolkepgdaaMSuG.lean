/- The walk over super.Read (printed by gen/mkread11.py). -/
import Derived.Test.YtgdkgnolkepgdaaMSuE
import Derived.Test.YtgdkgnolkepgdaaMRd
import Derived.Stop.BytesEq
namespace Go.Proofs.Ytgdkgnolkepgdaa
set_option maxRecDepth 100000
open Go.RowKit Go.Amb Go.Shelf
set_option linter.unusedVariables false
set_option linter.unusedSimpArgs false
attribute [local go_sem ↓] Go.wp_at_zero Go.wp_at_succ

theorem arr_neq (x y : List UInt8) (hx : x.length = 128) (hy : y.length = 128) (w : World) : (binOp .neq 85 (.agg (bc x).toArray) (.agg (bc y).toArray)).run Try.prog w = .ok (.bool (!(x == y))) w := by
  have hsz : ∀ w, (Go.sizeOf 5).run Try.prog w = .ok 1 w := fun w => by
    obtain ⟨i, hi, hz, hs, hb⟩ := info_parts (@info_u8)
    simp [Go.sizeOf, typeInfo, hi, hs]
  have h := run_equalIn_bytes (P := Try.prog) w 9998 85 5 128 Try.underlying85 Try.underlying5 hsz x y hx hy
  rw [run_neq_struct]
  have h2 : (Op.equalIn 10000 85 (.agg (bc x).toArray) (.agg (bc y).toArray)).run Try.prog w = .ok (x == y) w := h
  rw [h2]
  rfl
theorem arr_guard (x y : Operand) (xs ys : Array Value) (w : World) : (eqGuard .neq 85 x y (.agg xs) (.agg ys)).run Try.prog w = .ok () w := run_eqGuard_agg w .neq 85 x y xs ys (by kernel_rfl)
theorem size_u8S (w : World) : (Go.sizeOf (Try.prog.elem 24)).run Try.prog w = .ok 1 w := by
  have h : Try.prog.elem 24 = 5 := by kernel_rfl
  obtain ⟨i, hi, hz, hs, hb⟩ := info_parts (@info_u8)
  rw [h]
  simp [Go.sizeOf, typeInfo, hi, hs]
theorem slice_4 (g off c : Nat) (hc : 128 ≤ c) (w : World) : (Instr.slice 24 (.slice (some ⟨g, off, none⟩) 128 c) (some (.int .i64 4)) none none).run Try.prog w = .ok (.slice (some ⟨g, off + 4, none⟩) 124 (c - 4)) w := by
  rw [run_slice_l w 24 (some ⟨g, off, none⟩) 128 c (by rw [show Try.prog.elem 24 = 5 by kernel_rfl]; exact Try.underlying24) .i64 4 (by omega) (by omega), size_u8S]
  have h4 : ¬ c = 4 := by omega
  simp [sliced, Result.andThen, Addr.add_lit, h4]
theorem bytes_range {w : World} {g off n c : Nat} {s : List UInt8} (h : Bytes w (.slice (some ⟨g, off, none⟩) n c) s) (hs : 0 < s.length) : w.rangeAt g off (bc s) := by
  obtain ⟨hl, a, c', e, h1, h2, h3⟩ := h
  injection e with e1 e2 e3
  rcases h3 with h3 | ⟨g', off', e4, hc⟩
  · omega
  · rw [← e1] at e4
    simp only [Option.some.injEq, Addr.mk.injEq] at e4
    obtain ⟨rfl, rfl, _⟩ := e4
    exact fun j v hj => hc j v hj
theorem range_non {w w' : World} {g off : Nat} {l : List Value} (h : w.rangeAt g off l) (hu : Upd Non w w') : w'.rangeAt g off l := fun j v hj => hu.cell (h j v hj) fun h => h
set_option maxHeartbeats 4000000 in
theorem yRead (v : Value) (b : List UInt8) (w : World) (hB : Bytes w v b) (hb : b.length ≤ 140737488355328) : Calls Try.prog 15 #[v] w (Ret (.tuple #[spV (readR b).1, .int .i64 (readR b).2]) w) := by
  by_cases hl : b.length = 128
  · obtain ⟨g, off, c, rfl, hcap, hcm, -⟩ := bytes_at hB (by omega)
    have hrb := bytes_range hB (by omega)
    rw [hl] at hcap hB ⊢
    obtain ⟨s, hs⟩ : ∃ s, b.drop 4 = s := ⟨_, rfl⟩
    have hsl : s.length = 124 := by rw [← hs, List.length_drop, hl]
    have hB4 : Bytes w (.slice (some ⟨g, off + 4, none⟩) 124 (c - 4)) s := by
      have := bytes_piece (w := w) (g := g) (off := off) (cap := c) (s := b) (by rw [hl]; exact hB) 4 124 (c - 4) (by omega) (by omega) (by omega)
      rw [hs, List.take_of_length_le (by omega)] at this
      unfold Bytes
      rw [hsl]
      exact this
    have l2 := numL_lt_of (l := (b.drop 12).take 4) (m := 4) (by simp; omega)
    have l4 := numL_lt_of (l := (b.drop 24).take 4) (m := 4) (by simp; omega)
    have g2 := numL_nonneg ((b.drop 12).take 4)
    have g4 := numL_nonneg ((b.drop 24).take 4)
    have hd : ∀ k, s.drop k = b.drop (4 + k) := fun k => by rw [← hs, List.drop_drop]
    have q1 : rdNum s 0 0 8 = (8, 0, wrap64 (numL ((b.drop 4).take 8))) := by rw [rdNum_ok (by omega), hd]
    have q2 : rdNum s 8 0 4 = (12, 0, numL ((b.drop 12).take 4)) := by rw [rdNum_ok (by omega), hd, show 4 + 8 = 12 from rfl, IntWalk.wrap64_in _ ⟨by omega, by omega⟩]
    have q3 : rdNum s 12 0 8 = (20, 0, wrap64 (numL ((b.drop 16).take 8))) := by rw [rdNum_ok (by omega), hd]
    have q4 : rdNum s 20 0 4 = (24, 0, numL ((b.drop 24).take 4)) := by rw [rdNum_ok (by omega), hd, show 4 + 20 = 24 from rfl, IntWalk.wrap64_in _ ⟨by omega, by omega⟩]
    have q5 : rdNum s 24 0 8 = (32, 0, wrap64 (numL ((b.drop 28).take 8))) := by rw [rdNum_ok (by omega), hd]
    have q6 : rdNum s 32 0 8 = (40, 0, wrap64 (numL ((b.drop 36).take 8))) := by rw [rdNum_ok (by omega), hd]
    have hsp : spOf b = ⟨wrap64 (numL ((b.drop 4).take 8)), numL ((b.drop 12).take 4) - 1, wrap64 (numL ((b.drop 16).take 8)), numL ((b.drop 24).take 4), wrap64 (numL ((b.drop 28).take 8)), wrap64 (numL ((b.drop 36).take 8))⟩ := rfl
    have hyes : bytesR (spOf b) = (b, 0) → readR b = (spOf b, 0) := fun h => readR_yes ⟨hl, h⟩
    have hno : bytesR (spOf b) ≠ (b, 0) → readR b = (Sp.none, 4) := fun h => readR_no (fun e => h e.2)
    have hby := fun w => yBytes (spOf b) w
    have hbok : (bytesR (spOf b)).2 = 0 → (bytesR (spOf b)).1.length = 128 := fun h => by rw [bytesR_yes (bytesR_ok h)]; exact putS_128 _
    have hsz4 := slice_4 g off c (by omega)
    generalize wrap64 (numL ((b.drop 4).take 8)) = a1 at *
    generalize numL ((b.drop 12).take 4) = a2 at *
    generalize wrap64 (numL ((b.drop 16).take 8)) = a3 at *
    generalize numL ((b.drop 24).take 4) = a4 at *
    generalize wrap64 (numL ((b.drop 28).take 8)) = a5 at *
    generalize wrap64 (numL ((b.drop 36).take 8)) = a6 at *
    rw [hsp] at hyes hno hby hbok
    have hw2 : IntKind.i64.wrap (a2 - 1) = a2 - 1 := IntWalk.i64_in _ ⟨by omega, by omega⟩
    generalize hr2 : a2 - 1 = r2 at *
    generalize readR b = res at *
    generalize bytesR ⟨a1, r2, a3, a4, a5, a6⟩ = xe at *
    obtain ⟨x, xc⟩ := xe
    unfold spV at hby
    simp only at hby hbok
    have haa := fun (w : World) (a : Option Addr) (c : Nat) => run_arrayAt (P := Try.prog) w 85 5 128 a 128 c Try.underlying85 (Nat.le_refl _)
    have hag := arr_guard
    have harr := Lib.hid (fun (hx : x.length = 128) w => arr_neq x b hx hl w)
    have hszb : Hid ((Try.prog.info? 85).map (·.size) = some (bc b).length) := Lib.hid (by rw [bc_length, hl]; kernel_rfl)
    have hszx : Hid (x.length = 128 → (Try.prog.info? 85).map (·.size) = some (bc x).length) := Lib.hid (fun h => by rw [bc_length, h]; kernel_rfl)
    replace hby := Lib.hid hby
    replace hyes := Lib.hid hyes
    replace hno := Lib.hid hno
    replace hbok := Lib.hid hbok
    replace hd := Lib.hid hd
    replace hl := Lib.hid hl
    clear hd hs hsp l2 l4 g2 g4
    go_enter Try.func15, Try.ntmps15
    go_wp2_with fail
    have hX : Upd Non (w.alloc (.cells #[.int .i64 0, .int .i64 0, .int .i64 0, .int .i64 0, .int .i64 0, .int .i64 0] 23)) (w.alloc (.cells #[.int .i64 0, .int .i64 0, .int .i64 0, .int .i64 0, .int .i64 0, .int .i64 0] 23)) := Upd.refl _ _
    refine (fNewReader _ s (w.alloc (.cells #[.int .i64 0, .int .i64 0, .int .i64 0, .int .i64 0, .int .i64 0, .int .i64 0] 23)) (hB4.upd (Upd.alloc Non w _) fun _ _ h => h) (by omega)).mono ?_
    rintro e2 w2 ⟨r, rfl, hR, hu2, hr⟩
    replace hX := hX.trans hu2 fun _ _ h => h
    replace hR : RdAt w2 r (w.heap.size + 1) s 0 0 := by simpa using hR
    replace hr : w.heap.size + 1 ≤ r := by simpa using hr
    clear hu2 hB hB4
    go_wp2_with fail
    refine (fI64 r s 0 0 _ hR).mono ?_
    rintro e3 w3 ⟨rfl, hS, hu⟩
    replace hX := hX.trans hu fun j hj e => by (have : j = r := e); (simp at hj); omega
    rw [q1] at hS ⊢
    simp only at hS ⊢
    clear hu hR
    have hR : RdAt w3 r (w.heap.size + 1) s 8 0 := hS
    clear hS
    go_wp2_with fail
    refine (fU32 r s 8 0 _ hR).mono ?_
    rintro e4 w4 ⟨rfl, hS, hu⟩
    replace hX := hX.trans hu fun j hj e => by (have : j = r := e); (simp at hj); omega
    rw [q2] at hS ⊢
    simp only at hS ⊢
    clear hu hR
    have hR : RdAt w4 r (w.heap.size + 1) s 12 0 := hS
    clear hS
    go_wp2_with fail
    refine (fI64 r s 12 0 _ hR).mono ?_
    rintro e5 w5 ⟨rfl, hS, hu⟩
    replace hX := hX.trans hu fun j hj e => by (have : j = r := e); (simp at hj); omega
    rw [q3] at hS ⊢
    simp only at hS ⊢
    clear hu hR
    have hR : RdAt w5 r (w.heap.size + 1) s 20 0 := hS
    clear hS
    go_wp2_with fail
    refine (fU32 r s 20 0 _ hR).mono ?_
    rintro e6 w6 ⟨rfl, hS, hu⟩
    replace hX := hX.trans hu fun j hj e => by (have : j = r := e); (simp at hj); omega
    rw [q4] at hS ⊢
    simp only at hS ⊢
    clear hu hR
    have hR : RdAt w6 r (w.heap.size + 1) s 24 0 := hS
    clear hS
    go_wp2_with fail
    refine (fI64 r s 24 0 _ hR).mono ?_
    rintro e7 w7 ⟨rfl, hS, hu⟩
    replace hX := hX.trans hu fun j hj e => by (have : j = r := e); (simp at hj); omega
    rw [q5] at hS ⊢
    simp only at hS ⊢
    clear hu hR
    have hR : RdAt w7 r (w.heap.size + 1) s 32 0 := hS
    clear hS
    go_wp2_with fail
    refine (fI64 r s 32 0 _ hR).mono ?_
    rintro e8 w8 ⟨rfl, hS, hu⟩
    replace hX := hX.trans hu fun j hj e => by (have : j = r := e); (simp at hj); omega
    rw [q6] at hS ⊢
    simp only at hS ⊢
    clear hu hR
    have hR : RdAt w8 r (w.heap.size + 1) s 40 0 := hS
    clear hS
    go_wp2_with fail
    clear q1 q2 q3 q4 q5 q6 hR
    refine (hby.out _).mono ?_
    rintro e9 w9 ⟨xv, rfl, hxB, hxn, hu9⟩
    have hz8 := hX.size
    have hbP := hu9.heap (heap_alloc_new w8 (.cells #[.int .i64 a1, .int .i64 r2, .int .i64 a3, .int .i64 a4, .int .i64 a5, .int .i64 a6] 23)) fun h => h
    have hXX := (hX.then_alloc (.cells #[.int .i64 a1, .int .i64 r2, .int .i64 a3, .int .i64 a4, .int .i64 a5, .int .i64 a6] 23)).trans hu9 fun _ _ h => h
    have hbA := hXX.heap (heap_alloc_new w _) fun h => h
    have hU := (hXX.own1 (fun _ h => h.elim)).2.2.2
    clear hX hu9
    replace hrb := range_non hrb hU
    obtain ⟨z0, z1, z2, z3, z4, z5⟩ := cells6 hbP
    clear hXX
    by_cases hxc : xc = 0
    · subst hxc
      have hx128 := hbok.out rfl
      obtain ⟨gx, ox, cx, rfl, -, -, -⟩ := bytes_at hxB (by omega)
      rw [hx128] at hxB ⊢
      have hrx := bytes_range hxB (by omega)
      replace hszx := Lib.hid (hszx.out hx128)
      have hne := harr.out hx128
      replace hx128 := Lib.hid hx128
      clear hxB hxn
      by_cases hxb : x = b
      · have hres := hyes.out (by rw [hxb])
        have hxb2 : (x == b) = true := by simp [hxb]
        rw [hxb2] at hne
        replace hxb := Lib.hid hxb
        subst hres
        unfold spV
        simp only
        go_wp2_with fail
        refine wp_region_held_drew (S := (fun w' => w'.rangeAt gx ox (bc x) ∧ w'.rangeAt g off (bc b))) (by kernel_rfl) (by exact ⟨hrx, hrb⟩) (fun hHeld => ?_)
        (refine wpAnyH_take (i := 0) (oi := ?oi_ra1) (v := ?v_ra1) ?ho_ra1 ?hs_ra1 ?hf_ra1 ?hr_ra1 ?hQ_ra1 ?hy_ra1 ?hS_ra1 ?rest_ra1; (case hr_ra1 => kernel_rfl); (case hf_ra1 => kernel_rfl); (case hs_ra1 => kernel_rfl); (case ho_ra1 => (simp only [List.getElem?_toArray, List.getElem?_cons_succ, List.getElem?_cons_zero]; rfl)); (case hS_ra1 => assumption); (case hQ_ra1 => exact fun _ _ _ h => h); (case hy_ra1 => (refine Or.inl ⟨by rfl, ?_⟩; (intro w hSw; skip; go_simp) <;> with_reducible rfl)); (try simp only [Act.put, List.setIfInBounds_toArray, List.set_cons_zero, List.set_cons_succ]))
        (refine wpAnyH_take (i := 1) (oi := ?oi_ra2) (v := ?v_ra2) ?ho_ra2 ?hs_ra2 ?hf_ra2 ?hr_ra2 ?hQ_ra2 ?hy_ra2 ?hS_ra2 ?rest_ra2; (case hr_ra2 => kernel_rfl); (case hf_ra2 => kernel_rfl); (case hs_ra2 => kernel_rfl); (case ho_ra2 => (simp only [List.getElem?_toArray, List.getElem?_cons_succ, List.getElem?_cons_zero]; rfl)); (case hS_ra2 => assumption); (case hQ_ra2 => exact fun _ _ _ h => h); (case hy_ra2 => (refine Or.inl ⟨by rfl, ?_⟩; (intro w hSw; skip; go_simp) <;> with_reducible rfl)); (try simp only [Act.put, List.setIfInBounds_toArray, List.set_cons_zero, List.set_cons_succ]))
        (refine wpAnyH_take (i := 2) (oi := ?oi_ra3) (v := ?v_ra3) ?ho_ra3 ?hs_ra3 ?hf_ra3 ?hr_ra3 ?hQ_ra3 ?hy_ra3 ?hS_ra3 ?rest_ra3; (case hr_ra3 => kernel_rfl); (case hf_ra3 => kernel_rfl); (case hs_ra3 => kernel_rfl); (case ho_ra3 => (simp only [List.getElem?_toArray, List.getElem?_cons_succ, List.getElem?_cons_zero]; rfl)); (case hS_ra3 => assumption); (case hQ_ra3 => exact fun _ _ _ h => h); (case hy_ra3 => (refine Or.inl ⟨by rfl, ?_⟩; (intro w hSw; skip; go_simp) <;> with_reducible rfl)); (try simp only [Act.put, List.setIfInBounds_toArray, List.set_cons_zero, List.set_cons_succ]))
        (refine wpAnyH_take (i := 3) (oi := ?oi_ra4) (v := ?v_ra4) ?ho_ra4 ?hs_ra4 ?hf_ra4 ?hr_ra4 ?hQ_ra4 ?hy_ra4 ?hS_ra4 ?rest_ra4; (case hr_ra4 => kernel_rfl); (case hf_ra4 => kernel_rfl); (case hs_ra4 => kernel_rfl); (case ho_ra4 => (simp only [List.getElem?_toArray, List.getElem?_cons_succ, List.getElem?_cons_zero]; rfl)); (case hS_ra4 => assumption); (case hQ_ra4 => exact fun _ _ _ h => h); (case hy_ra4 => (refine Or.inl ⟨by rfl, ?_⟩; (intro w hSw; skip; go_simp) <;> with_reducible rfl)); (try simp only [Act.put, List.setIfInBounds_toArray, List.set_cons_zero, List.set_cons_succ]))
        (refine wpAnyH_take (i := 4) (oi := ?oi_ra5) (v := ?v_ra5) ?ho_ra5 ?hs_ra5 ?hf_ra5 ?hr_ra5 ?hQ_ra5 ?hy_ra5 ?hS_ra5 ?rest_ra5; (case hr_ra5 => kernel_rfl); (case hf_ra5 => kernel_rfl); (case hs_ra5 => kernel_rfl); (case ho_ra5 => (simp only [List.getElem?_toArray, List.getElem?_cons_succ, List.getElem?_cons_zero]; rfl)); (case hS_ra5 => assumption); (case hQ_ra5 => exact fun _ _ _ h => h); (case hy_ra5 => (refine Or.inl ⟨by rfl, ?_⟩; (intro w hSw; skip; go_simp) <;> with_reducible rfl)); (try simp only [Act.put, List.setIfInBounds_toArray, List.set_cons_zero, List.set_cons_succ]))
        (refine wpAnyH_take (i := 5) (oi := ?oi_ra6) (v := ?v_ra6) ?ho_ra6 ?hs_ra6 ?hf_ra6 ?hr_ra6 ?hQ_ra6 ?hy_ra6 ?hS_ra6 ?rest_ra6; (case hr_ra6 => kernel_rfl); (case hf_ra6 => kernel_rfl); (case hs_ra6 => kernel_rfl); (case ho_ra6 => (simp only [List.getElem?_toArray, List.getElem?_cons_succ, List.getElem?_cons_zero]; rfl)); (case hS_ra6 => assumption); (case hQ_ra6 => exact fun _ _ _ h => h); (case hy_ra6 => (refine yieldsIf_load_mid ?ywra5 85 ?yxra5 ?yora5 gx ox ?yera5 (bc x) ?ydra5 ?ySra5 ?yura5 ?yrra5 hszx.out; (case yora5 => exact rfl); (case ywra5 => rfl); (case yera5 => rfl); (case ySra5 => exact fun w hSw => hSw.1); (case yura5 => exact Try.underlying85); (case yrra5 => rfl))); (try simp only [Act.put, List.setIfInBounds_toArray, List.set_cons_zero, List.set_cons_succ]))
        (refine wpAnyH_take (i := 6) (oi := ?oi_ra7) (v := ?v_ra7) ?ho_ra7 ?hs_ra7 ?hf_ra7 ?hr_ra7 ?hQ_ra7 ?hy_ra7 ?hS_ra7 ?rest_ra7; (case hr_ra7 => kernel_rfl); (case hf_ra7 => kernel_rfl); (case hs_ra7 => kernel_rfl); (case ho_ra7 => (simp only [List.getElem?_toArray, List.getElem?_cons_succ, List.getElem?_cons_zero]; rfl)); (case hS_ra7 => assumption); (case hQ_ra7 => exact fun _ _ _ h => h); (case hy_ra7 => (refine Or.inl ⟨by rfl, ?_⟩; (intro w hSw; skip; go_simp) <;> with_reducible rfl)); (try simp only [Act.put, List.setIfInBounds_toArray, List.set_cons_zero, List.set_cons_succ]))
        (refine wpAnyH_take (i := 7) (oi := ?oi_ra8) (v := ?v_ra8) ?ho_ra8 ?hs_ra8 ?hf_ra8 ?hr_ra8 ?hQ_ra8 ?hy_ra8 ?hS_ra8 ?rest_ra8; (case hr_ra8 => kernel_rfl); (case hf_ra8 => kernel_rfl); (case hs_ra8 => kernel_rfl); (case ho_ra8 => (simp only [List.getElem?_toArray, List.getElem?_cons_succ, List.getElem?_cons_zero]; rfl)); (case hS_ra8 => assumption); (case hQ_ra8 => exact fun _ _ _ h => h); (case hy_ra8 => (refine Or.inl ⟨by rfl, ?_⟩; (intro w hSw; skip; go_simp) <;> with_reducible rfl)); (try simp only [Act.put, List.setIfInBounds_toArray, List.set_cons_zero, List.set_cons_succ]))
        (refine wpAnyH_take (i := 8) (oi := ?oi_ra9) (v := ?v_ra9) ?ho_ra9 ?hs_ra9 ?hf_ra9 ?hr_ra9 ?hQ_ra9 ?hy_ra9 ?hS_ra9 ?rest_ra9; (case hr_ra9 => kernel_rfl); (case hf_ra9 => kernel_rfl); (case hs_ra9 => kernel_rfl); (case ho_ra9 => (simp only [List.getElem?_toArray, List.getElem?_cons_succ, List.getElem?_cons_zero]; rfl)); (case hS_ra9 => assumption); (case hQ_ra9 => exact fun _ _ _ h => h); (case hy_ra9 => (refine yieldsIf_load_mid ?ywra8 85 ?yxra8 ?yora8 g off ?yera8 (bc b) ?ydra8 ?ySra8 ?yura8 ?yrra8 hszb.out; (case yora8 => exact rfl); (case ywra8 => rfl); (case yera8 => rfl); (case ySra8 => exact fun w hSw => hSw.2); (case yura8 => exact Try.underlying85); (case yrra8 => rfl))); (try simp only [Act.put, List.setIfInBounds_toArray, List.set_cons_zero, List.set_cons_succ]))
        (refine wpAnyH_take (i := 9) (oi := ?oi_ra10) (v := ?v_ra10) ?ho_ra10 ?hs_ra10 ?hf_ra10 ?hr_ra10 ?hQ_ra10 ?hy_ra10 ?hS_ra10 ?rest_ra10; (case hr_ra10 => kernel_rfl); (case hf_ra10 => kernel_rfl); (case hs_ra10 => kernel_rfl); (case ho_ra10 => (simp only [List.getElem?_toArray, List.getElem?_cons_succ, List.getElem?_cons_zero]; rfl)); (case hS_ra10 => assumption); (case hQ_ra10 => exact fun _ _ _ h => h); (case hy_ra10 => (refine Or.inl ⟨by rfl, ?_⟩; (intro w hSw; skip; go_simp) <;> with_reducible rfl)); (try simp only [Act.put, List.setIfInBounds_toArray, List.set_cons_zero, List.set_cons_succ]))
        (refine wpAnyH_take (i := 10) (oi := ?oi_ra11) (v := ?v_ra11) ?ho_ra11 ?hs_ra11 ?hf_ra11 ?hr_ra11 ?hQ_ra11 ?hy_ra11 ?hS_ra11 ?rest_ra11; (case hr_ra11 => kernel_rfl); (case hf_ra11 => kernel_rfl); (case hs_ra11 => kernel_rfl); (case ho_ra11 => (simp only [List.getElem?_toArray, List.getElem?_cons_succ, List.getElem?_cons_zero]; rfl)); (case hS_ra11 => assumption); (case hQ_ra11 => exact fun _ _ _ h => h); (case hy_ra11 => (refine Or.inl ⟨by rfl, ?_⟩; (intro w hSw; skip; go_simp) <;> with_reducible rfl)); (try simp only [Act.put, List.setIfInBounds_toArray, List.set_cons_zero, List.set_cons_succ]))
        refine wpAnyH_done (by kernel_rfl) ?_ _
        replace hU := hU.then_drew
        replace hbA := (Upd.drew Non w9).heap hbA fun h => h
        replace hbP := (Upd.drew Non w9).heap hbP fun h => h
        clear z0 z1 z2 z3 z4 z5
        obtain ⟨z0, z1, z2, z3, z4, z5⟩ := cells6 hbP
        clear hHeld
        go_wp2_with ((with_reducible (show wpList _ _ _ (⟨_, Op.store _ _ _, _, _, _, _⟩ :: _) _ _)); refine storeB_list rfl 23 _ _ rfl w.heap.size #[.int .i64 a1, .int .i64 r2, .int .i64 a3, .int .i64 a4, .int .i64 a5, .int .i64 a6] _ _ rfl rfl hbA rfl size_sp.out (by simp [Value.oneCell']) ?_)
        intro w18 hb18 hu18
        obtain ⟨x0, x1, x2, x3, x4, x5⟩ := cells6 hb18
        have hU18 := hU.trans hu18 (fun k hk e => by (have : k = w.heap.size := e); omega)
        go_wp2_with fail
        refine bodyPost_ret (v := .tuple #[.agg #[.int .i64 a1, .int .i64 r2, .int .i64 a3, .int .i64 a4, .int .i64 a5, .int .i64 a6], .int .i64 0]) (by simp [results, Try.results15, go_sem, x0, x1, x2, x3, x4, x5]; try rfl) rfl ⟨rfl, hU18⟩
      · have hres := hno.out (fun e => hxb (by injection e))
        have hxb2 : (x == b) = false := by simpa using hxb
        rw [hxb2] at hne
        replace hxb := Lib.hid hxb
        subst hres
        unfold spV Sp.none
        simp only
        go_wp2_with fail
        refine wp_region_held_drew (S := (fun w' => w'.rangeAt gx ox (bc x) ∧ w'.rangeAt g off (bc b))) (by kernel_rfl) (by exact ⟨hrx, hrb⟩) (fun hHeld => ?_)
        (refine wpAnyH_take (i := 0) (oi := ?oi_rb1) (v := ?v_rb1) ?ho_rb1 ?hs_rb1 ?hf_rb1 ?hr_rb1 ?hQ_rb1 ?hy_rb1 ?hS_rb1 ?rest_rb1; (case hr_rb1 => kernel_rfl); (case hf_rb1 => kernel_rfl); (case hs_rb1 => kernel_rfl); (case ho_rb1 => (simp only [List.getElem?_toArray, List.getElem?_cons_succ, List.getElem?_cons_zero]; rfl)); (case hS_rb1 => assumption); (case hQ_rb1 => exact fun _ _ _ h => h); (case hy_rb1 => (refine Or.inl ⟨by rfl, ?_⟩; (intro w hSw; skip; go_simp) <;> with_reducible rfl)); (try simp only [Act.put, List.setIfInBounds_toArray, List.set_cons_zero, List.set_cons_succ]))
        (refine wpAnyH_take (i := 1) (oi := ?oi_rb2) (v := ?v_rb2) ?ho_rb2 ?hs_rb2 ?hf_rb2 ?hr_rb2 ?hQ_rb2 ?hy_rb2 ?hS_rb2 ?rest_rb2; (case hr_rb2 => kernel_rfl); (case hf_rb2 => kernel_rfl); (case hs_rb2 => kernel_rfl); (case ho_rb2 => (simp only [List.getElem?_toArray, List.getElem?_cons_succ, List.getElem?_cons_zero]; rfl)); (case hS_rb2 => assumption); (case hQ_rb2 => exact fun _ _ _ h => h); (case hy_rb2 => (refine Or.inl ⟨by rfl, ?_⟩; (intro w hSw; skip; go_simp) <;> with_reducible rfl)); (try simp only [Act.put, List.setIfInBounds_toArray, List.set_cons_zero, List.set_cons_succ]))
        (refine wpAnyH_take (i := 2) (oi := ?oi_rb3) (v := ?v_rb3) ?ho_rb3 ?hs_rb3 ?hf_rb3 ?hr_rb3 ?hQ_rb3 ?hy_rb3 ?hS_rb3 ?rest_rb3; (case hr_rb3 => kernel_rfl); (case hf_rb3 => kernel_rfl); (case hs_rb3 => kernel_rfl); (case ho_rb3 => (simp only [List.getElem?_toArray, List.getElem?_cons_succ, List.getElem?_cons_zero]; rfl)); (case hS_rb3 => assumption); (case hQ_rb3 => exact fun _ _ _ h => h); (case hy_rb3 => (refine Or.inl ⟨by rfl, ?_⟩; (intro w hSw; skip; go_simp) <;> with_reducible rfl)); (try simp only [Act.put, List.setIfInBounds_toArray, List.set_cons_zero, List.set_cons_succ]))
        (refine wpAnyH_take (i := 3) (oi := ?oi_rb4) (v := ?v_rb4) ?ho_rb4 ?hs_rb4 ?hf_rb4 ?hr_rb4 ?hQ_rb4 ?hy_rb4 ?hS_rb4 ?rest_rb4; (case hr_rb4 => kernel_rfl); (case hf_rb4 => kernel_rfl); (case hs_rb4 => kernel_rfl); (case ho_rb4 => (simp only [List.getElem?_toArray, List.getElem?_cons_succ, List.getElem?_cons_zero]; rfl)); (case hS_rb4 => assumption); (case hQ_rb4 => exact fun _ _ _ h => h); (case hy_rb4 => (refine Or.inl ⟨by rfl, ?_⟩; (intro w hSw; skip; go_simp) <;> with_reducible rfl)); (try simp only [Act.put, List.setIfInBounds_toArray, List.set_cons_zero, List.set_cons_succ]))
        (refine wpAnyH_take (i := 4) (oi := ?oi_rb5) (v := ?v_rb5) ?ho_rb5 ?hs_rb5 ?hf_rb5 ?hr_rb5 ?hQ_rb5 ?hy_rb5 ?hS_rb5 ?rest_rb5; (case hr_rb5 => kernel_rfl); (case hf_rb5 => kernel_rfl); (case hs_rb5 => kernel_rfl); (case ho_rb5 => (simp only [List.getElem?_toArray, List.getElem?_cons_succ, List.getElem?_cons_zero]; rfl)); (case hS_rb5 => assumption); (case hQ_rb5 => exact fun _ _ _ h => h); (case hy_rb5 => (refine Or.inl ⟨by rfl, ?_⟩; (intro w hSw; skip; go_simp) <;> with_reducible rfl)); (try simp only [Act.put, List.setIfInBounds_toArray, List.set_cons_zero, List.set_cons_succ]))
        (refine wpAnyH_take (i := 5) (oi := ?oi_rb6) (v := ?v_rb6) ?ho_rb6 ?hs_rb6 ?hf_rb6 ?hr_rb6 ?hQ_rb6 ?hy_rb6 ?hS_rb6 ?rest_rb6; (case hr_rb6 => kernel_rfl); (case hf_rb6 => kernel_rfl); (case hs_rb6 => kernel_rfl); (case ho_rb6 => (simp only [List.getElem?_toArray, List.getElem?_cons_succ, List.getElem?_cons_zero]; rfl)); (case hS_rb6 => assumption); (case hQ_rb6 => exact fun _ _ _ h => h); (case hy_rb6 => (refine yieldsIf_load_mid ?ywrb5 85 ?yxrb5 ?yorb5 gx ox ?yerb5 (bc x) ?ydrb5 ?ySrb5 ?yurb5 ?yrrb5 hszx.out; (case yorb5 => exact rfl); (case ywrb5 => rfl); (case yerb5 => rfl); (case ySrb5 => exact fun w hSw => hSw.1); (case yurb5 => exact Try.underlying85); (case yrrb5 => rfl))); (try simp only [Act.put, List.setIfInBounds_toArray, List.set_cons_zero, List.set_cons_succ]))
        (refine wpAnyH_take (i := 6) (oi := ?oi_rb7) (v := ?v_rb7) ?ho_rb7 ?hs_rb7 ?hf_rb7 ?hr_rb7 ?hQ_rb7 ?hy_rb7 ?hS_rb7 ?rest_rb7; (case hr_rb7 => kernel_rfl); (case hf_rb7 => kernel_rfl); (case hs_rb7 => kernel_rfl); (case ho_rb7 => (simp only [List.getElem?_toArray, List.getElem?_cons_succ, List.getElem?_cons_zero]; rfl)); (case hS_rb7 => assumption); (case hQ_rb7 => exact fun _ _ _ h => h); (case hy_rb7 => (refine Or.inl ⟨by rfl, ?_⟩; (intro w hSw; skip; go_simp) <;> with_reducible rfl)); (try simp only [Act.put, List.setIfInBounds_toArray, List.set_cons_zero, List.set_cons_succ]))
        (refine wpAnyH_take (i := 7) (oi := ?oi_rb8) (v := ?v_rb8) ?ho_rb8 ?hs_rb8 ?hf_rb8 ?hr_rb8 ?hQ_rb8 ?hy_rb8 ?hS_rb8 ?rest_rb8; (case hr_rb8 => kernel_rfl); (case hf_rb8 => kernel_rfl); (case hs_rb8 => kernel_rfl); (case ho_rb8 => (simp only [List.getElem?_toArray, List.getElem?_cons_succ, List.getElem?_cons_zero]; rfl)); (case hS_rb8 => assumption); (case hQ_rb8 => exact fun _ _ _ h => h); (case hy_rb8 => (refine Or.inl ⟨by rfl, ?_⟩; (intro w hSw; skip; go_simp) <;> with_reducible rfl)); (try simp only [Act.put, List.setIfInBounds_toArray, List.set_cons_zero, List.set_cons_succ]))
        (refine wpAnyH_take (i := 8) (oi := ?oi_rb9) (v := ?v_rb9) ?ho_rb9 ?hs_rb9 ?hf_rb9 ?hr_rb9 ?hQ_rb9 ?hy_rb9 ?hS_rb9 ?rest_rb9; (case hr_rb9 => kernel_rfl); (case hf_rb9 => kernel_rfl); (case hs_rb9 => kernel_rfl); (case ho_rb9 => (simp only [List.getElem?_toArray, List.getElem?_cons_succ, List.getElem?_cons_zero]; rfl)); (case hS_rb9 => assumption); (case hQ_rb9 => exact fun _ _ _ h => h); (case hy_rb9 => (refine yieldsIf_load_mid ?ywrb8 85 ?yxrb8 ?yorb8 g off ?yerb8 (bc b) ?ydrb8 ?ySrb8 ?yurb8 ?yrrb8 hszb.out; (case yorb8 => exact rfl); (case ywrb8 => rfl); (case yerb8 => rfl); (case ySrb8 => exact fun w hSw => hSw.2); (case yurb8 => exact Try.underlying85); (case yrrb8 => rfl))); (try simp only [Act.put, List.setIfInBounds_toArray, List.set_cons_zero, List.set_cons_succ]))
        (refine wpAnyH_take (i := 9) (oi := ?oi_rb10) (v := ?v_rb10) ?ho_rb10 ?hs_rb10 ?hf_rb10 ?hr_rb10 ?hQ_rb10 ?hy_rb10 ?hS_rb10 ?rest_rb10; (case hr_rb10 => kernel_rfl); (case hf_rb10 => kernel_rfl); (case hs_rb10 => kernel_rfl); (case ho_rb10 => (simp only [List.getElem?_toArray, List.getElem?_cons_succ, List.getElem?_cons_zero]; rfl)); (case hS_rb10 => assumption); (case hQ_rb10 => exact fun _ _ _ h => h); (case hy_rb10 => (refine Or.inl ⟨by rfl, ?_⟩; (intro w hSw; skip; go_simp) <;> with_reducible rfl)); (try simp only [Act.put, List.setIfInBounds_toArray, List.set_cons_zero, List.set_cons_succ]))
        (refine wpAnyH_take (i := 10) (oi := ?oi_rb11) (v := ?v_rb11) ?ho_rb11 ?hs_rb11 ?hf_rb11 ?hr_rb11 ?hQ_rb11 ?hy_rb11 ?hS_rb11 ?rest_rb11; (case hr_rb11 => kernel_rfl); (case hf_rb11 => kernel_rfl); (case hs_rb11 => kernel_rfl); (case ho_rb11 => (simp only [List.getElem?_toArray, List.getElem?_cons_succ, List.getElem?_cons_zero]; rfl)); (case hS_rb11 => assumption); (case hQ_rb11 => exact fun _ _ _ h => h); (case hy_rb11 => (refine Or.inl ⟨by rfl, ?_⟩; (intro w hSw; skip; go_simp) <;> with_reducible rfl)); (try simp only [Act.put, List.setIfInBounds_toArray, List.set_cons_zero, List.set_cons_succ]))
        refine wpAnyH_done (by kernel_rfl) ?_ _
        replace hU := hU.then_drew
        replace hbA := (Upd.drew Non w9).heap hbA fun h => h
        replace hbP := (Upd.drew Non w9).heap hbP fun h => h
        clear z0 z1 z2 z3 z4 z5
        obtain ⟨z0, z1, z2, z3, z4, z5⟩ := cells6 hbP
        clear hHeld
        go_wp2_with ((with_reducible (show wpList _ _ _ (⟨_, Op.store _ _ _, _, _, _, _⟩ :: _) _ _)); refine storeB_list rfl 23 _ _ rfl w.heap.size #[.int .i64 0, .int .i64 0, .int .i64 0, .int .i64 0, .int .i64 0, .int .i64 0] _ _ rfl rfl hbA rfl size_sp.out (by simp [Value.oneCell']) ?_)
        intro w18 hb18 hu18
        obtain ⟨x0, x1, x2, x3, x4, x5⟩ := cells6 hb18
        have hU18 := hU.trans hu18 (fun k hk e => by (have : k = w.heap.size := e); omega)
        go_wp2_with fail
        refine bodyPost_ret (v := .tuple #[.agg #[.int .i64 0, .int .i64 0, .int .i64 0, .int .i64 0, .int .i64 0, .int .i64 0], .int .i64 4]) (by simp [results, Try.results15, go_sem, x0, x1, x2, x3, x4, x5]; try rfl) rfl ⟨rfl, hU18⟩
    · have hres := hno.out (fun e => hxc (by injection e))
      have hxc2 : (xc != 0) = true := by simp [hxc]
      replace hxc := Lib.hid hxc
      obtain ⟨qa, qn, qc, rfl⟩ : ∃ a n c, xv = .slice a n c := by obtain ⟨a, c, e⟩ := bytes_form hxB; exact ⟨_, _, _, e⟩
      subst hres
      unfold spV Sp.none
      simp only
      go_wp2_with fail
      refine wp_region_held_drew (S := (fun w' => w'.rangeAt g off (bc b))) (by kernel_rfl) (by (try dsimp only); exact hrb) (fun hHeld => ?_)
      (refine wpAnyH_take (i := 0) (oi := ?oi_1_0) (v := ?v_1_0) ?ho_1_0 ?hs_1_0 ?hf_1_0 ?hr_1_0 ?hQ_1_0 ?hy_1_0 ?hS_1_0 ?rest_1_0; (case hr_1_0 => kernel_rfl); (case hf_1_0 => kernel_rfl); (case hs_1_0 => kernel_rfl); (case ho_1_0 => (simp only [List.getElem?_toArray, List.getElem?_cons_succ, List.getElem?_cons_zero]; rfl)); (case hS_1_0 => assumption); (case hQ_1_0 => exact fun _ _ _ h => h); (case hy_1_0 => (refine Or.inl ⟨by rfl, ?_⟩; (intro w hSw; (try dsimp only at hSw); go_simp) <;> with_reducible rfl)); (try simp only [Act.put, List.setIfInBounds_toArray, List.set_cons_zero, List.set_cons_succ]))
      (refine wpAnyH_take (i := 1) (oi := ?oi_1_1) (v := ?v_1_1) ?ho_1_1 ?hs_1_1 ?hf_1_1 ?hr_1_1 ?hQ_1_1 ?hy_1_1 ?hS_1_1 ?rest_1_1; (case hr_1_1 => kernel_rfl); (case hf_1_1 => kernel_rfl); (case hs_1_1 => kernel_rfl); (case ho_1_1 => (simp only [List.getElem?_toArray, List.getElem?_cons_succ, List.getElem?_cons_zero]; rfl)); (case hS_1_1 => assumption); (case hQ_1_1 => exact fun _ _ _ h => h); (case hy_1_1 => (refine Or.inl ⟨by rfl, ?_⟩; (intro w hSw; (try dsimp only at hSw); go_simp) <;> with_reducible rfl)); (try simp only [Act.put, List.setIfInBounds_toArray, List.set_cons_zero, List.set_cons_succ]))
      (refine wpAnyH_take (i := 2) (oi := ?oi_1_2) (v := ?v_1_2) ?ho_1_2 ?hs_1_2 ?hf_1_2 ?hr_1_2 ?hQ_1_2 ?hy_1_2 ?hS_1_2 ?rest_1_2; (case hr_1_2 => kernel_rfl); (case hf_1_2 => kernel_rfl); (case hs_1_2 => kernel_rfl); (case ho_1_2 => (simp only [List.getElem?_toArray, List.getElem?_cons_succ, List.getElem?_cons_zero]; rfl)); (case hS_1_2 => assumption); (case hQ_1_2 => exact fun _ _ _ h => h); (case hy_1_2 => (refine Or.inl ⟨by rfl, ?_⟩; (intro w hSw; (try dsimp only at hSw); go_simp) <;> with_reducible rfl)); (try simp only [Act.put, List.setIfInBounds_toArray, List.set_cons_zero, List.set_cons_succ]))
      (refine wpAnyH_take (i := 3) (oi := ?oi_1_3) (v := undef) ?ho_1_3 ?hs_1_3 ?hf_1_3 ?hr_1_3 ?hQ_1_3 ?hy_1_3 ?hS_1_3 ?rest_1_3; (case hr_1_3 => kernel_rfl); (case hf_1_3 => kernel_rfl); (case hs_1_3 => kernel_rfl); (case ho_1_3 => (simp only [List.getElem?_toArray, List.getElem?_cons_succ, List.getElem?_cons_zero]; rfl)); (case hS_1_3 => assumption); (case hQ_1_3 => exact fun _ _ _ h => h); (case hy_1_3 => exact Or.inr ⟨by rfl, rfl⟩); (try simp only [Act.put, List.setIfInBounds_toArray, List.set_cons_zero, List.set_cons_succ]))
      (refine wpAnyH_take (i := 4) (oi := ?oi_1_4) (v := undef) ?ho_1_4 ?hs_1_4 ?hf_1_4 ?hr_1_4 ?hQ_1_4 ?hy_1_4 ?hS_1_4 ?rest_1_4; (case hr_1_4 => kernel_rfl); (case hf_1_4 => kernel_rfl); (case hs_1_4 => kernel_rfl); (case ho_1_4 => (simp only [List.getElem?_toArray, List.getElem?_cons_succ, List.getElem?_cons_zero]; rfl)); (case hS_1_4 => assumption); (case hQ_1_4 => exact fun _ _ _ h => h); (case hy_1_4 => exact Or.inr ⟨by rfl, rfl⟩); (try simp only [Act.put, List.setIfInBounds_toArray, List.set_cons_zero, List.set_cons_succ]))
      (refine wpAnyH_take (i := 5) (oi := ?oi_1_5) (v := undef) ?ho_1_5 ?hs_1_5 ?hf_1_5 ?hr_1_5 ?hQ_1_5 ?hy_1_5 ?hS_1_5 ?rest_1_5; (case hr_1_5 => kernel_rfl); (case hf_1_5 => kernel_rfl); (case hs_1_5 => kernel_rfl); (case ho_1_5 => (simp only [List.getElem?_toArray, List.getElem?_cons_succ, List.getElem?_cons_zero]; rfl)); (case hS_1_5 => assumption); (case hQ_1_5 => exact fun _ _ _ h => h); (case hy_1_5 => exact Or.inr ⟨by rfl, rfl⟩); (try simp only [Act.put, List.setIfInBounds_toArray, List.set_cons_zero, List.set_cons_succ]))
      (refine wpAnyH_take (i := 6) (oi := ?oi_1_6) (v := undef) ?ho_1_6 ?hs_1_6 ?hf_1_6 ?hr_1_6 ?hQ_1_6 ?hy_1_6 ?hS_1_6 ?rest_1_6; (case hr_1_6 => kernel_rfl); (case hf_1_6 => kernel_rfl); (case hs_1_6 => kernel_rfl); (case ho_1_6 => (simp only [List.getElem?_toArray, List.getElem?_cons_succ, List.getElem?_cons_zero]; rfl)); (case hS_1_6 => assumption); (case hQ_1_6 => exact fun _ _ _ h => h); (case hy_1_6 => exact Or.inr ⟨by rfl, rfl⟩); (try simp only [Act.put, List.setIfInBounds_toArray, List.set_cons_zero, List.set_cons_succ]))
      (refine wpAnyH_take (i := 7) (oi := ?oi_1_7) (v := undef) ?ho_1_7 ?hs_1_7 ?hf_1_7 ?hr_1_7 ?hQ_1_7 ?hy_1_7 ?hS_1_7 ?rest_1_7; (case hr_1_7 => kernel_rfl); (case hf_1_7 => kernel_rfl); (case hs_1_7 => kernel_rfl); (case ho_1_7 => (simp only [List.getElem?_toArray, List.getElem?_cons_succ, List.getElem?_cons_zero]; rfl)); (case hS_1_7 => assumption); (case hQ_1_7 => exact fun _ _ _ h => h); (case hy_1_7 => exact Or.inr ⟨by rfl, rfl⟩); (try simp only [Act.put, List.setIfInBounds_toArray, List.set_cons_zero, List.set_cons_succ]))
      (refine wpAnyH_take (i := 8) (oi := ?oi_1_8) (v := undef) ?ho_1_8 ?hs_1_8 ?hf_1_8 ?hr_1_8 ?hQ_1_8 ?hy_1_8 ?hS_1_8 ?rest_1_8; (case hr_1_8 => kernel_rfl); (case hf_1_8 => kernel_rfl); (case hs_1_8 => kernel_rfl); (case ho_1_8 => (simp only [List.getElem?_toArray, List.getElem?_cons_succ, List.getElem?_cons_zero]; rfl)); (case hS_1_8 => assumption); (case hQ_1_8 => exact fun _ _ _ h => h); (case hy_1_8 => exact Or.inr ⟨by rfl, rfl⟩); (try simp only [Act.put, List.setIfInBounds_toArray, List.set_cons_zero, List.set_cons_succ]))
      (refine wpAnyH_take (i := 9) (oi := ?oi_1_9) (v := undef) ?ho_1_9 ?hs_1_9 ?hf_1_9 ?hr_1_9 ?hQ_1_9 ?hy_1_9 ?hS_1_9 ?rest_1_9; (case hr_1_9 => kernel_rfl); (case hf_1_9 => kernel_rfl); (case hs_1_9 => kernel_rfl); (case ho_1_9 => (simp only [List.getElem?_toArray, List.getElem?_cons_succ, List.getElem?_cons_zero]; rfl)); (case hS_1_9 => assumption); (case hQ_1_9 => exact fun _ _ _ h => h); (case hy_1_9 => exact Or.inr ⟨by rfl, rfl⟩); (try simp only [Act.put, List.setIfInBounds_toArray, List.set_cons_zero, List.set_cons_succ]))
      (refine wpAnyH_take (i := 10) (oi := ?oi_1_10) (v := ?v_1_10) ?ho_1_10 ?hs_1_10 ?hf_1_10 ?hr_1_10 ?hQ_1_10 ?hy_1_10 ?hS_1_10 ?rest_1_10; (case hr_1_10 => kernel_rfl); (case hf_1_10 => kernel_rfl); (case hs_1_10 => kernel_rfl); (case ho_1_10 => (simp only [List.getElem?_toArray, List.getElem?_cons_succ, List.getElem?_cons_zero]; rfl)); (case hS_1_10 => assumption); (case hQ_1_10 => exact fun _ _ _ h => h); (case hy_1_10 => (refine Or.inl ⟨by rfl, ?_⟩; (intro w hSw; (try dsimp only at hSw); go_simp) <;> with_reducible rfl)); (try simp only [Act.put, List.setIfInBounds_toArray, List.set_cons_zero, List.set_cons_succ]))
      refine wpAnyH_done (by kernel_rfl) ?_ _
      replace hU := hU.then_drew
      replace hbA := (Upd.drew Non w9).heap hbA fun h => h
      replace hbP := (Upd.drew Non w9).heap hbP fun h => h
      clear z0 z1 z2 z3 z4 z5
      obtain ⟨z0, z1, z2, z3, z4, z5⟩ := cells6 hbP
      clear hHeld
      go_wp2_with ((with_reducible (show wpList _ _ _ (⟨_, Op.store _ _ _, _, _, _, _⟩ :: _) _ _)); refine storeB_list rfl 23 _ _ rfl w.heap.size #[.int .i64 0, .int .i64 0, .int .i64 0, .int .i64 0, .int .i64 0, .int .i64 0] _ _ rfl rfl hbA rfl size_sp.out (by simp [Value.oneCell']) ?_)
      intro w18 hb18 hu18
      obtain ⟨x0, x1, x2, x3, x4, x5⟩ := cells6 hb18
      have hU18 := hU.trans hu18 (fun k hk e => by (have : k = w.heap.size := e); omega)
      go_wp2_with fail
      refine bodyPost_ret (v := .tuple #[.agg #[.int .i64 0, .int .i64 0, .int .i64 0, .int .i64 0, .int .i64 0, .int .i64 0], .int .i64 4]) (by simp [results, Try.results15, go_sem, x0, x1, x2, x3, x4, x5]; try rfl) rfl ⟨rfl, hU18⟩
  · rw [readR_no (fun e => hl e.1)]
    obtain ⟨a, c, rfl⟩ := bytes_form hB
    have hlb : ((b.length : Int) != 128) = true := by simp; omega
    unfold Sp.none spV
    simp only
    clear hB hl hb
    generalize b.length = n at *
    have hbA := heap_alloc_new w (.cells #[.int .i64 0, .int .i64 0, .int .i64 0, .int .i64 0, .int .i64 0, .int .i64 0] 23)
    have hU := (Upd.refl Non w).then_alloc (.cells #[.int .i64 0, .int .i64 0, .int .i64 0, .int .i64 0, .int .i64 0, .int .i64 0] 23)
    go_enter Try.func15, Try.ntmps15
    go_wp2_with ((with_reducible (show wpList _ _ _ (⟨_, Op.store _ _ _, _, _, _, _⟩ :: _) _ _)); refine storeB_list rfl 23 _ _ rfl w.heap.size #[.int .i64 0, .int .i64 0, .int .i64 0, .int .i64 0, .int .i64 0, .int .i64 0] _ _ rfl rfl hbA rfl size_sp.out (by simp [Value.oneCell']) ?_)
    intro w18 hb18 hu18
    obtain ⟨x0, x1, x2, x3, x4, x5⟩ := cells6 hb18
    have hU18 := hU.trans hu18 (fun k hk e => by (have : k = w.heap.size := e); omega)
    go_wp2_with fail
    refine bodyPost_ret (v := .tuple #[.agg #[.int .i64 0, .int .i64 0, .int .i64 0, .int .i64 0, .int .i64 0, .int .i64 0], .int .i64 4]) (by simp [results, Try.results15, go_sem, x0, x1, x2, x3, x4, x5]; try rfl) rfl ⟨rfl, hU18⟩
end Go.Proofs.Ytgdkgnolkepgdaa
