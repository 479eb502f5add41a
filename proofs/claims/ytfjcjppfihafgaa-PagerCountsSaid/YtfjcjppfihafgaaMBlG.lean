/- Disk.Read. -/
import Derived.Test.YtfjcjppfihafgaaMBlF
import Derived.Deep.RegionHeld3
import Derived.Deep.QuietTactic
namespace Go.Proofs.Ytfjcjppfihafgaa
open Go.RowKit Go.Amb Go.Shelf
set_option linter.unusedVariables false
set_option linter.unusedSimpArgs false
set_option maxRecDepth 100000
attribute [local go_sem] Oper.semAt_some
theorem range_upd {S : Nat → Prop} {w w' : World} {b o : Nat} {cs : List Value} (h : w.rangeAt b o cs) (hu : Upd S w w') (hn : ¬ S b) : w'.rangeAt b o cs := fun j v hv => hu.cell (h j v hv) hn
def RdI (P : List (List UInt8 × Nat)) (i M : Nat) (s : List UInt8) (w5 : World) (pre : List (Fin P.length)) (W : World) : Prop :=
  Upd (fun k => k = M) w5 W ∧ W.heap[M]? = some (.cells (bc s).toArray 82 (0, 0)) ∧ ∀ y ∈ pre, P[y.val].2 ≠ i
def RdX (P : List (List UInt8 × Nat)) (i M : Nat) (w5 : World) (c : Code) (pre : List (Fin P.length)) (W : World) : Prop :=
  c = .exit 0 ∧ Upd (fun k => k = M) w5 W ∧ ∃ pre' x, pre = pre' ++ [x] ∧ (∀ y ∈ pre', P[y.val].2 ≠ i) ∧ P[x.val].2 = i ∧ W.heap[M]? = some (.cells (bc P[x.val].1).toArray 82 (0, 0))
def RdA (P : List (List UInt8 × Nat)) (w5 : World) (f : Nat → Fin P.length → Array Value) (x : Fin P.length) (a' : Act) (W : World) : Prop :=
  ∃ B, w5.heap.size ≤ B ∧ W.heap[B]? = some (.cells (pc P[x.val]).toArray 87 (0, 0)) ∧ a' = { tmps := f B x, defers := [] }
theorem rdI_own (P : List (List UInt8 × Nat)) (i M : Nat) (s : List UInt8) (w5 : World) (hM : M < w5.heap.size) : OwnFrom w5.heap.size (RdI P i M s w5) := by
  rintro pre W W' row ⟨hu, ht, hp⟩ hg hr
  exact ⟨hu.grown hg fun r e => (hr r e).1, heap_grown ht hg (fun e => by have := (hr M e.symm).1; omega), hp⟩
theorem rdX_own (P : List (List UInt8 × Nat)) (i M : Nat) (w5 : World) (hM : M < w5.heap.size) (c : Code) : OwnFrom w5.heap.size (RdX P i M w5 c) := by
  rintro pre W W' row ⟨hc, hu, pre', x, h1, h2, h3, ht⟩ hg hr
  exact ⟨hc, hu.grown hg fun r e => (hr r e).1, pre', x, h1, h2, h3, heap_grown ht hg (fun e => by have := (hr M e.symm).1; omega)⟩
theorem rdA_own (P : List (List UInt8 × Nat)) (w5 : World) (f : Nat → Fin P.length → Array Value) (x : Fin P.length) (a' : Act) : OwnFrom w5.heap.size (fun (_ : Unit) W => RdA P w5 f x a' W) := by
  rintro - W W' row ⟨B, hB, hr, ha⟩ hg hrr
  refine ⟨B, hB, heap_grown hr hg (fun e => ?_), ha⟩
  obtain ⟨-, o, ho, hc⟩ := hrr B e.symm
  rw [hr] at ho
  injection ho with ho
  subst ho
  cases hc
/-- A part that ends as it should needs no word on how else it may end. -/
theorem wp_only {P : Program} {c : Code} {K : Act → World → Prop} {Q : Exit → Act → World → Prop} {a : Act} {w : World} (h : c.wp P (Exit.then K (fun _ _ _ => False)) a w) : c.wp P (Exit.then K Q) a w :=
  Code.wp_mono (fun e a w h => by cases e <;> first | exact h | exact h.elim) h
theorem lBackward (pv : Value) (w : World) (hpv : ∃ a n c, pv = .slice a n c) : Calls Try.prog 47 #[pv] w
    (fun en w' => en = .returned (.func (.func 57) #[] #[.pointer (some ⟨w.heap.size, 0, none⟩)]) ∧ w' = w.alloc (.cells #[pv] 71)) := by
  obtain ⟨a, n, c, rfl⟩ := hpv
  go_enter Try.func47, Try.ntmps47
  go_wp2_with fail
  go_ret
  exact ⟨rfl, rfl⟩
set_option maxHeartbeats 2000000 in
theorem lReadD {w : World} {D : Nat} {F : Nat → Prop} {d : Dk} (h : DiskAt w D F d) (hn : d.P.length ≤ 1000000) (i : Nat) (hd : d.dd = false) (hi : i < d.K.length) :
    Calls Try.prog 29 #[.pointer (some ⟨D, 0, none⟩), .int .i64 (i : Int)] w (fun en w' => ∃ v, en = .returned (.tuple #[v, .int .i64 0]) ∧ Bytes w' v (d.has i) ∧ Upd Non w w' ∧ ∀ k, At v k → w.heap.size ≤ k) := by
  have hw0 : d.within (i : Int) = 0 := by unfold Dk.within; rw [hd, if_neg (by simp), if_neg (by omega)]
  have cW := fun w' (hu : Upd Non w w') => lWithin (h.non hu) (i : Int)
  rw [hw0] at cW
  obtain ⟨g, ck, pv, hX, hK, hP, h1, h2, h3, hF⟩ := h.ex
  have hok := Lib.hid h.ok
  obtain ⟨R, hR⟩ : ∃ R : Ending → World → Prop, R = (fun en w' => ∃ v, en = .returned (.tuple #[v, .int .i64 0]) ∧ Bytes w' v (d.has i) ∧ Upd Non w w' ∧ ∀ k, At v k → w.heap.size ≤ k) := ⟨_, rfl⟩
  rw [← hR]
  replace hR := Lib.hid hR
  replace cW := Lib.hid cW
  replace hX := Lib.hid hX
  replace hK := Lib.hid hK
  replace hP := Lib.hid hP
  replace hF := Lib.hid hF
  clear h
  refine (callsIn_wide (n := 5)).1 (callsIn_of_wp_marks Try.func29 rfl trivial (wpIn_wide.2 ?_) rfl)
  simp only [Try.ntmps29, List.size_toArray, List.length_cons, List.length_nil, Nat.reduceAdd, Nat.reduceSub, Array.replicate_succ, Array.replicate_zero, List.push_toArray, List.append_toArray, List.nil_append, List.cons_append]
  go_wp2_with fail
  refine (cW.out _ (Upd.alloc Non w _)).mono ?_
  rintro en w1 ⟨rfl, hu1⟩
  have hc := cells_of (hu1.heap (heap_alloc_new w (.cells #[.int .i64 (i : Int)] 3)) fun h => h)
  have c3 : w1.cell? ⟨w.heap.size, 0, none⟩ = some (.int .i64 (i : Int)) := hc.1 0
  have hU1 := (Upd.alloc Non w (.cells #[.int .i64 (i : Int)] 3)).trans hu1 fun _ _ h => h
  have hX1 := hU1.heap hX.out fun h => h
  have x0 : w1.cell? ⟨D, 0, none⟩ = some (.slice (some ⟨g, 0, none⟩) d.K.length ck) := (cells_of hX1).1 0
  have hDl := heap_lt hX1
  have hil : w.heap.size < w1.heap.size := by have := hu1.size; simp at this; omega
  obtain ⟨g', ck', hv', -, hc1, hc2, hrg, -⟩ := own_range (hU1.owns hK.out fun _ _ h => h) hok.out.kl (by rw [List.length_map]) i hi
  injection hv' with e1 e2 e3
  injection e1 with e1
  injection e1 with e1
  subst e1
  have hgl : g < w1.heap.size := own_lt (hU1.owns hK.out fun _ _ h => h) rfl
  have hsl : d.K[i].length = 128 := hok.out.k _ (List.getElem_mem hi)
  rw [List.getElem_map] at hrg
  obtain ⟨s, hs⟩ : ∃ s, d.K[i] = s := ⟨_, rfl⟩
  rw [hs] at hrg hsl
  have hsz : (Try.prog.info? 82).map (·.size) = some (bc s).length := by rw [bc_length, hsl]; kernel_rfl
  obtain ⟨Z, hZ⟩ : ∃ Z, Array.replicate 128 (Value.int .u8 0) = Z := ⟨_, rfl⟩
  have hz := (zero_of_info (P := Try.prog) (t := 82) (v := .agg Z) (n := 128) (by rw [← hZ]; kernel_rfl)).1
  have hZs : Z.size = 128 := by rw [← hZ]; simp
  have hiK : (i : Int) < (d.K.length : Int) := by omega
  obtain ⟨n, hnK⟩ : ∃ n, d.K.length = n := ⟨_, rfl⟩
  rw [hnK] at x0 hiK
  have hsz' : (Try.prog.info? 82).map (·.size) = some (bc s).toArray.size := by rw [List.size_toArray]; exact hsz
  have h1c : (bc s).toArray.all (·.oneCell') = true := all_oneCell_toArray (bc_one s)
  have hth : World.there ((w1.alloc (.cells Z 82)).drew) w1.heap.size 0 (bc s).toArray.size := by
    rw [World.there_drew]
    have hc := cells_of (heap_alloc_new w1 (.cells Z 82))
    intro j hj
    rw [List.size_toArray, bc_length, hsl] at hj
    refine ⟨?_, hc.2 _⟩
    rw [hc.1, Array.getElem?_eq_getElem (by omega)]; rfl
  have hUst : Upd (fun k => w1.heap.size ≤ k) w1 (((w1.alloc (.cells Z 82)).drew).setCells w1.heap.size 0 (bc s).toArray.toList) :=
    (((Upd.refl (fun k => w1.heap.size ≤ k) w1).then_alloc _).then_drew).trans (upd_setCells _ _ _ _) fun k hk h => by omega
  have hT4 : (((w1.alloc (.cells Z 82)).drew).setCells w1.heap.size 0 (bc s).toArray.toList).heap[w1.heap.size]? = some (.cells (bc s).toArray 82 (0, 0)) := by
    have := heap_setCells w1.heap.size 82 (bc s) 0 ((w1.alloc (.cells Z 82)).drew) Z (heap_alloc_new w1 (.cells Z 82)) (by rw [bc_length]; omega)
    rw [this, List.take_zero, List.nil_append, Nat.zero_add, bc_length, List.drop_of_length_le (by simp; omega), List.append_nil]
  replace hrg := Lib.hid hrg
  replace hsz := Lib.hid hsz
  replace hX1 := Lib.hid hX1
  clear hc hu1
  simp only []
  go_wp2_with fail
  refine wp_only ?_
  refine wp_region_held_drew (S := fun w' => Upd (fun k => w1.heap.size ≤ k) w1 w') (by kernel_rfl) (by exact Upd.drew _ _) (fun hHeld => ?_)
  (refine wpAnyH_take (i := 0) (oi := ?oi_q1) (v := ?v_q1) ?ho_q1 ?hs_q1 ?hf_q1 ?hr_q1 ?hQ_q1 ?hy_q1 ?hS_q1 ?rest_q1; (case hr_q1 => kernel_rfl); (case hf_q1 => kernel_rfl); (case hs_q1 => kernel_rfl); (case ho_q1 => (simp only [List.getElem?_toArray, List.getElem?_cons_succ, List.getElem?_cons_zero]; rfl)); (case hS_q1 => assumption); (case hQ_q1 => exact fun _ _ _ h => h); (case hy_q1 => (refine Or.inl ⟨by rfl, ?_⟩; (intro w hSw; have x0' := hSw.cell x0 (by dsimp only; omega); have c3' := hSw.cell c3 (by dsimp only; omega); go_simp) <;> with_reducible rfl)); (try simp only [Act.put, List.setIfInBounds_toArray, List.set_cons_zero, List.set_cons_succ]))
  (refine wpAnyH_take (i := 1) (oi := ?oi_q2) (v := ?v_q2) ?ho_q2 ?hs_q2 ?hf_q2 ?hr_q2 ?hQ_q2 ?hy_q2 ?hS_q2 ?rest_q2; (case hr_q2 => kernel_rfl); (case hf_q2 => kernel_rfl); (case hs_q2 => kernel_rfl); (case ho_q2 => (simp only [List.getElem?_toArray, List.getElem?_cons_succ, List.getElem?_cons_zero]; rfl)); (case hS_q2 => assumption); (case hQ_q2 => exact fun _ _ _ h => h); (case hy_q2 => (refine Or.inl ⟨by rfl, ?_⟩; (intro w hSw; have x0' := hSw.cell x0 (by dsimp only; omega); have c3' := hSw.cell c3 (by dsimp only; omega); go_simp) <;> with_reducible rfl)); (try simp only [Act.put, List.setIfInBounds_toArray, List.set_cons_zero, List.set_cons_succ]))
  (refine wpAnyH_take (i := 2) (oi := ?oi_q3) (v := ?v_q3) ?ho_q3 ?hs_q3 ?hf_q3 ?hr_q3 ?hQ_q3 ?hy_q3 ?hS_q3 ?rest_q3; (case hr_q3 => kernel_rfl); (case hf_q3 => kernel_rfl); (case hs_q3 => kernel_rfl); (case ho_q3 => (simp only [List.getElem?_toArray, List.getElem?_cons_succ, List.getElem?_cons_zero]; rfl)); (case hS_q3 => assumption); (case hQ_q3 => exact fun _ _ _ h => h); (case hy_q3 => (refine Or.inl ⟨by rfl, ?_⟩; (intro w hSw; have x0' := hSw.cell x0 (by dsimp only; omega); have c3' := hSw.cell c3 (by dsimp only; omega); go_simp) <;> with_reducible rfl)); (try simp only [Act.put, List.setIfInBounds_toArray, List.set_cons_zero, List.set_cons_succ]))
  (refine wpAnyH_take (i := 3) (oi := ?oi_q4) (v := ?v_q4) ?ho_q4 ?hs_q4 ?hf_q4 ?hr_q4 ?hQ_q4 ?hy_q4 ?hS_q4 ?rest_q4; (case hr_q4 => kernel_rfl); (case hf_q4 => kernel_rfl); (case hs_q4 => kernel_rfl); (case ho_q4 => (simp only [List.getElem?_toArray, List.getElem?_cons_succ, List.getElem?_cons_zero]; rfl)); (case hS_q4 => assumption); (case hQ_q4 => exact fun _ _ _ h => h); (case hy_q4 => (refine Or.inl ⟨by rfl, ?_⟩; (intro w hSw; have x0' := hSw.cell x0 (by dsimp only; omega); have c3' := hSw.cell c3 (by dsimp only; omega); go_simp) <;> with_reducible rfl)); (try simp only [Act.put, List.setIfInBounds_toArray, List.set_cons_zero, List.set_cons_succ]))
  (refine wpAnyH_take (i := 4) (oi := ?oi_q5) (v := ?v_q5) ?ho_q5 ?hs_q5 ?hf_q5 ?hr_q5 ?hQ_q5 ?hy_q5 ?hS_q5 ?rest_q5; (case hr_q5 => kernel_rfl); (case hf_q5 => kernel_rfl); (case hs_q5 => kernel_rfl); (case ho_q5 => (simp only [List.getElem?_toArray, List.getElem?_cons_succ, List.getElem?_cons_zero]; rfl)); (case hS_q5 => assumption); (case hQ_q5 => exact fun _ _ _ h => h); (case hy_q5 => (refine Or.inl ⟨by rfl, ?_⟩; (intro w hSw; have x0' := hSw.cell x0 (by dsimp only; omega); have c3' := hSw.cell c3 (by dsimp only; omega); go_simp) <;> with_reducible rfl)); (try simp only [Act.put, List.setIfInBounds_toArray, List.set_cons_zero, List.set_cons_succ]))
  (refine wpAnyH_take (i := 5) (oi := ?oi_q6) (v := ?v_q6) ?ho_q6 ?hs_q6 ?hf_q6 ?hr_q6 ?hQ_q6 ?hy_q6 ?hS_q6 ?rest_q6; (case hr_q6 => kernel_rfl); (case hf_q6 => kernel_rfl); (case hs_q6 => kernel_rfl); (case ho_q6 => (simp only [List.getElem?_toArray, List.getElem?_cons_succ, List.getElem?_cons_zero]; rfl)); (case hS_q6 => assumption); (case hQ_q6 => exact fun _ _ _ h => h); (case hy_q6 => (refine Or.inl ⟨by rfl, ?_⟩; (intro w hSw; have x0' := hSw.cell x0 (by dsimp only; omega); have c3' := hSw.cell c3 (by dsimp only; omega); go_simp) <;> with_reducible rfl)); (try simp only [Act.put, List.setIfInBounds_toArray, List.set_cons_zero, List.set_cons_succ]))
  (refine wpAnyH_take (i := 6) (oi := ?oi_q7) (v := ?v_q7) ?ho_q7 ?hs_q7 ?hf_q7 ?hr_q7 ?hQ_q7 ?hy_q7 ?hS_q7 ?rest_q7; (case hr_q7 => kernel_rfl); (case hf_q7 => kernel_rfl); (case hs_q7 => kernel_rfl); (case ho_q7 => (simp only [List.getElem?_toArray, List.getElem?_cons_succ, List.getElem?_cons_zero]; rfl)); (case hS_q7 => assumption); (case hQ_q7 => exact fun _ _ _ h => h); (case hy_q7 => (refine yieldsIf_load_mid ?yw 82 ?yx ?yo g (i * 128) ?ye (bc s) ?yd ?yS ?yu ?yr hsz.out; (case yo => exact rfl); (case yw => rfl); (case ye => rfl); (case yS => exact fun w hSw => range_upd hrg.out hSw (by omega)); (case yu => exact Try.underlying82); (case yr => rfl))); (try simp only [Act.put, List.setIfInBounds_toArray, List.set_cons_zero, List.set_cons_succ]))
  refine wpAnyH_ready (rs := [7]) (by kernel_rfl) (by simp) ?_
  refine (AllReadyH.cons (o := ?ooq8_0) ?hoq8_0 ?hsq8_0 AllReadyH.nil)
  case hoq8_0 => (simp only [List.getElem?_toArray, List.getElem?_cons_succ, List.getElem?_cons_zero]; rfl)
  case hsq8_0 =>
    intro K hK
    go_simp
    try go_wp2_with fail
    refine hK.out _ _ (by exact ((Upd.refl _ w1).then_alloc _).then_drew) (fun hHeld => ?_)
    clear hK K
    try simp only [Act.put, List.setIfInBounds_toArray, List.set_cons_zero, List.set_cons_succ]
    refine wpAnyH_ready (rs := [8]) (by kernel_rfl) (by simp) ?_
    refine (AllReadyH.cons (o := ?ooq9_0) ?hoq9_0 ?hsq9_0 AllReadyH.nil)
    case hoq9_0 => (simp only [List.getElem?_toArray, List.getElem?_cons_succ, List.getElem?_cons_zero]; rfl)
    case hsq9_0 =>
      intro K hK
      rw [if_pos (by rfl)]
      refine wp_store_mid 82 _ _ rfl w1.heap.size 0 (bc s).toArray rfl rfl hth hsz' h1c ?_
      refine hK.out _ _ (by exact hUst) (fun hHeld => ?_)
      clear hK K
      try simp only [Act.put, List.setIfInBounds_toArray, List.set_cons_zero, List.set_cons_succ]
      refine wpAnyH_done (by kernel_rfl) ?_ _
      clear hHeld
      obtain ⟨w4, hw4⟩ : ∃ w4, (((w1.alloc (.cells Z 82)).drew).setCells w1.heap.size 0 (bc s).toArray.toList) = w4 := ⟨_, rfl⟩
      rw [hw4] at hUst hT4 ⊢
      clear hth h1c hw4
      have hU4 := hU1.trans hUst fun k hk h => by omega
      have hX4 := hUst.heap hX1.out (by omega)
      have c34 : w4.cell? ⟨w.heap.size, 0, none⟩ = some (.int .i64 (i : Int)) := hUst.cell c3 (by dsimp only; omega)
      have hP4 := hU4.owns hP.out fun _ _ h => h
      have x1 : w4.cell? ⟨D, 1, none⟩ = some pv := (cells_of hX4).1 1
      obtain ⟨M, hM⟩ : ∃ M, w1.heap.size = M := ⟨_, rfl⟩
      rw [hM] at hT4 hil hDl hgl ⊢
      have hpvM : ∀ k, At pv k → k < M := fun k hk => by have := own_lt (hU1.owns hP.out fun _ _ h => h) hk; omega
      have hMl := heap_lt hT4
      have hUst' := hUst.size
      clear hUst c3 x0 hX4 hz
      replace hP4 := Lib.hid hP4
      have hpvf : ∃ a n c, pv = .slice a n c := by obtain ⟨_, a, c, h, -⟩ := has_of_owns hP4.out; exact ⟨a, _, c, h⟩
      have cB := Lib.hid (fun w => lBackward pv w hpvf)
      go_wp2_with fail
      refine (cB.out _).mono ?_
      rintro en w5 ⟨rfl, rfl⟩
      go_wp2_with fail
      obtain ⟨b, hb⟩ : ∃ b, w4.heap.size = b := ⟨_, rfl⟩
      obtain ⟨w5, hw5⟩ : ∃ w5, w4.alloc (.cells #[pv] 71) = w5 := ⟨_, rfl⟩
      have hA5 : Upd Non w4 w5 := by rw [← hw5]; exact Upd.alloc _ _ _
      have hbx : w5.heap[b]? = some (.cells #[pv] 71 (0, 0)) := by rw [← hw5, ← hb]; exact heap_alloc_new _ _
      rw [hw5, hb]
      have hl5 := heap_lt hbx
      have hP5 := Lib.hid (hA5.owns hP4.out fun _ _ h => h)
      have hT5 := Lib.hid (hA5.heap hT4 fun h => h)
      have c35 := hA5.cell c34 fun h => h
      have hU5 := hU4.trans hA5 fun _ _ h => h
      clear hw5 hA5 hT4 c34 hU4 x1
      have hbM : b ≠ M := by omega
      have hpv5 : ∀ k, At pv k → k < w5.heap.size := fun k hk => by have := hpvM k hk; omega
      refine (wpIn_wide (n := 5)).1 (wpIn_rangeFunc_ownH rfl (by decide) (gf := 57) (lb := #[.pointer (some ⟨b, 0, none⟩)]) rfl trivial (enters_of Try.func57 (by kernel_rfl) rfl)
        (iter_back d.P (fun p hp => (hok.out.p p hp).1) hn b pv w5 hbx hP5.out) (fun h k => ⟨k.1.trans h.1, fun j hj => (k.2 j hj).trans (h.2 j hj)⟩) ?keeps (Below.refl _ _) (fun _ => rfl)
        (RdI d.P i M s w5) (RdX d.P i M w5) (rdI_own _ _ _ _ _ (by omega)) (rdX_own _ _ _ _ (by omega)) ⟨Upd.refl _ _, hT5.out, fun y hy => by cases hy⟩
        (RdA d.P w5 fun B x => #[.pointer (some ⟨D, 0, none⟩), .int .i64 (i : Int), undef, .pointer (some ⟨w.heap.size, 0, none⟩), .slice none 0 0, .int .i64 0, .int .i64 0, .pointer (some ⟨M, 0, none⟩), undef, .pointer (some ⟨B, 0, none⟩), .pointer (some ⟨D, 0, none⟩), .int .i64 (i : Int), .int .i64 0, .int .i64 0, .bool false, undef, .pointer (some ⟨D, 0, none⟩), .pointer (some ⟨D, 0, none⟩), .pointer (some ⟨D, 0, none⟩), .slice (some ⟨g, 0, none⟩) n ck', .int .i64 (i : Int), .pointer (some ⟨g, i * 128, none⟩), .agg (bc s).toArray, .pointer (some ⟨D, 0, none⟩), .pointer (some ⟨D, 0, none⟩), .pointer (some ⟨D, 1, none⟩), pv, .func (.func 57) #[] #[.pointer (some ⟨b, 0, none⟩)], .int .i64 (x.val : Int), .agg (pc d.P[x.val]).toArray, undef, undef, undef, undef, undef, undef, undef]) (rdA_own _ _ _) ?assign ?body ?done ?stop)
      case keeps =>
        intro W l o o' hl _ _ _
        exact ⟨World.putObj_heap_other (by omega), fun k hk => World.putObj_heap_other (by have := hpv5 k hk; omega)⟩
      case assign =>
        intro l pre x W K hi hK
        obtain ⟨Z9, hZ9⟩ : ∃ Z9, (Array.replicate 128 (Value.int .u8 0)).push (.int .i64 0) = Z9 := ⟨_, rfl⟩
        have hz9 := (zero_of_info (P := Try.prog) (t := 87) (v := .agg Z9) (n := 129) (by rw [← hZ9]; exact info_write)).1
        have hZ9s : Z9.size = 129 := by rw [← hZ9]; simp
        have hpl := pc_length (hok.out.p _ (List.getElem_mem x.isLt)).1
        have h9c : (pc d.P[x.val]).toArray.all (·.oneCell') = true := all_oneCell_toArray (pc_one _)
        obtain ⟨hth9, hua, hrw⟩ := new_row W Z9 87 (pc d.P[x.val]) (by omega)
        have hsz9 : (Try.prog.info? 87).map (·.size) = some (pc d.P[x.val]).toArray.size := by rw [List.size_toArray, hpl]; exact size_write
        have hth9' : (W.alloc (.cells Z9 87)).there W.heap.size 0 (pc d.P[x.val]).toArray.size := by rw [List.size_toArray]; exact hth9
        have hWl : w5.heap.size ≤ W.heap.size := hi.1.size
        unfold backE
        obtain ⟨px, hpx⟩ : ∃ px, pc d.P[x.val] = px := ⟨_, rfl⟩
        simp only [hpx] at h9c hth9 hua hrw hsz9 hth9' ⊢
        clear hZ9 hpl
        replace hrw := Lib.hid hrw
        replace hua := Lib.hid hua
        gi_wp2_with (refine wpListIn_store_mid rfl 87 _ _ rfl W.heap.size 0 px.toArray rfl rfl hth9' hsz9 h9c ?_)
        subst hpx
        have hua' := hua.out
        exact hK _ _ ⟨hua'.size, fun k o hB hk ho => (hua'.block k (heap_lt hk) (by have := heap_lt hk; omega)).trans hk⟩ ⟨hua'.block b (by omega) (by omega), fun k hk => hua'.block k (by have := hpv5 k hk; omega) (by have := hpv5 k hk; omega)⟩
          ⟨hi.1.trans hua' (fun k hk h => by omega), hua'.heap hi.2.1 (by omega), hi.2.2⟩ ⟨W.heap.size, hWl, hrw.out, rfl⟩
      case body =>
        rintro l pre x a' W hl ⟨r, hr⟩ ⟨hu, ht, hp⟩ ⟨B, hB, hrow, rfl⟩ hlen
        have hpl : d.P[x.val].1.length = 128 := (hok.out.p _ (List.getElem_mem x.isLt)).1
        have hcB := cells_of hrow
        have cB : W.cell? ⟨B, 128, none⟩ = some (.int .i64 (d.P[x.val].2 : Int)) := by
          rw [hcB.1 128]
          simp [pc, bc_length, hpl]
        have hrgB : W.rangeAt B 0 (bc d.P[x.val].1) := fun j v hv => by
          rw [Nat.zero_add, hcB.1 j]
          have hj := (List.getElem?_eq_some_iff.1 hv).1
          simp only [List.getElem?_toArray, pc]
          rw [List.getElem?_append_left hj]; exact hv
        have c3W := hu.cell c35 (by dsimp only; omega)
        have hsB : (Try.prog.info? 82).map (·.size) = some (bc d.P[x.val].1).length := by rw [bc_length, hpl]; exact size_sector
        obtain ⟨hthM, huM, hrM⟩ := old_row ht (bc d.P[x.val].1) (by rw [List.size_toArray, bc_length, bc_length, hsl, hpl])
        have h1M : (bc d.P[x.val].1).toArray.all (·.oneCell') = true := all_oneCell_toArray (bc_one _)
        by_cases hx : d.P[x.val].2 = i
        · rw [hx] at cB
          dsimp only
          obtain ⟨t1, ht1⟩ : ∃ t1, d.P[x.val].1 = t1 := ⟨_, rfl⟩
          simp only [ht1] at hrgB hsB hthM huM hrM h1M
          have hszM : (Try.prog.info? 82).map (·.size) = some (bc t1).toArray.size := by rw [List.size_toArray]; exact hsB
          have hthM' : W.there M 0 (bc t1).toArray.size := by rw [List.size_toArray]; exact hthM
          replace hrow := Lib.hid hrow
          replace hrM := Lib.hid hrM
          replace huM := Lib.hid huM
          replace ht := Lib.hid ht
          clear hcB hthM
          gi_wp2_with (first | refine wpListIn_load_mid rfl 82 _ rfl B 0 rfl (bc t1) _ hrgB Try.underlying82 rfl hsB ?_ | refine wpListIn_store_mid rfl 82 _ _ rfl M 0 (bc t1).toArray rfl rfl hthM' hszM h1M ?_)
          subst ht1
          have huM' := huM.out
          exact ⟨⟨huM'.size, fun k o hB hk ho => (huM'.block k (heap_lt hk) (by omega)).trans hk⟩, rfl, hu.trans huM' (fun k hk h => h), pre, x, rfl, hp, hx, hrM.out⟩
        · dsimp only
          obtain ⟨p2, hp2⟩ : ∃ p2, d.P[x.val].2 = p2 := ⟨_, rfl⟩
          rw [hp2] at cB hx
          have hx1 : ((p2 : Int) = (i : Int)) = False := eq_false (by omega)
          have hx2 : (p2 = i) = False := eq_false hx
          have hx3 : ((p2 : Int) == (i : Int)) = false := by simp; omega
          clear hcB hthM hrow hrM huM
          gi_wp2
          exact ⟨KeepsFrom.refl _ _, ⟨rfl, fun _ _ => rfl⟩, hu, ht, fun y hy => by
            rcases List.mem_append.1 hy with h | h
            · exact hp y h
            · rw [List.mem_singleton] at h; subst h; rw [hp2]; exact hx⟩
      case done =>
        rintro D' xs W hD hS ⟨hu, ht, hp⟩ hKd
        go_wp2_with fail
        have hT7 : (W.putObj D' (.deferred none)).heap[M]? = some (.cells (bc s).toArray 82 (0, 0)) := (World.putObj_heap_other (by omega)).trans ht
        have hU7 : Upd Non w (W.putObj D' (.deferred none)) := (hU5.trans hu fun k hk h => by omega).putObj (by omega) _
        refine ⟨by simp, .inl ⟨_, _, rfl, run_takeDeferred hKd, ?_⟩⟩
        refine ⟨.tuple #[.slice (some ⟨M, 0, none⟩) 128 128, .int .i64 0], by simp [results, Try.results29, go_sem]; try rfl, ?_⟩
        rw [hR.out]
        refine ⟨_, rfl, ?_, hU7, fun k hk => by simp [At, Value.ownBlock] at hk; omega⟩
        have hh : d.has i = s := by unfold Dk.has; rw [lastAt_none hS hp]; simp [List.getD_eq_getElem?_getD, hi, hs]
        rw [hh]
        exact bytes_block hT7 hsl
      case stop =>
        rintro D' c pre W hD hSp ⟨rfl, hu, pre', x, rfl, hne, hx, ht⟩ hKd
        have hh : d.has i = d.P[x.val].1 := by unfold Dk.has; rw [lastAt_some hSp hne hx]; rfl
        have hpl : d.P[x.val].1.length = 128 := (hok.out.p _ (List.getElem_mem x.isLt)).1
        refine (wpIn_wide (n := 5)).2 ?_
        rw [← hh] at ht hpl
        go_wp2_with fail
        have hT7 : (W.putObj D' (.deferred none)).heap[M]? = some (.cells (bc (d.has i)).toArray 82 (0, 0)) := (World.putObj_heap_other (by omega)).trans ht
        have hU7 : Upd Non w (W.putObj D' (.deferred none)) := (hU5.trans hu fun k hk h => by omega).putObj (by omega) _
        refine ⟨by simp, .inl ⟨_, _, rfl, run_takeDeferred hKd, ?_⟩⟩
        refine ⟨.tuple #[.slice (some ⟨M, 0, none⟩) 128 128, .int .i64 0], by simp [results, Try.results29, go_sem]; try rfl, ?_⟩
        rw [hR.out]
        refine ⟨_, rfl, ?_, hU7, fun k hk => by simp [At, Value.ownBlock] at hk; omega⟩
        exact bytes_block hT7 hpl
end Go.Proofs.Ytfjcjppfihafgaa
