/- step: Arm. -/
import Derived.Test.YtgkiglodhhlnmaaBmE
import Derived.Test.YtgkiglodhhlnmaaLibB
import Derived.Lib.SliceRun
namespace Go.Proofs.Ytgkiglodhhlnmaa
open Go.RowKit Go.Amb Go.Shelf
set_option linter.unusedVariables false
set_option linter.unusedSimpArgs false
set_option maxRecDepth 100000
set_option maxHeartbeats 4000000 in
theorem stepArm {B : Nat → Prop} {w0 w : World} {D : Nat} {F : Nat → Prop} {d r : Dk} {kv pv : Value} (h : Bth B w0 w D F d r kv pv) (hs : Same d r) (hP : d.P.length ≤ 1000000) (i : Int) (s : List UInt8) (va : Option Addr) (q vc : Nat) (hi2 : i < 9223372036854775808) :
    Calls Try.prog 20 #[.pointer (some ⟨D, 0, none⟩), rfv r kv pv, .agg #[.int .i64 3, .int .i64 i, .string ⟨s.toArray⟩, .slice va q vc]] w (Stp B w0 w F d) := by
  have hok := h.lv.at_.ok
  have e1 : r.P.length = d.P.length := by rw [hs.p]
  have e2 : r.K.length = d.K.length := by rw [hs.k, List.length_map]
  have e3 := hok.n1
  have e4 := hok.n2
  have e5 : -1 ≤ r.f := by rw [← hs.f]; exact hok.f1
  have e6 : r.f < 9223372036854775808 := by rw [← hs.f]; exact hok.f2
  have hPl : Hid (d.P.length ≤ d.P.length + 1) := Lib.hid (Nat.le_succ _)
  have hS := hs.arm i
  replace hS := And.intro hS.1 hS.2.symm
  have f1 : ∃ a n c, kv = .slice a n c := by obtain ⟨_, a, c, rfl, -⟩ := id h.rat.k; exact ⟨_, _, _, rfl⟩
  have f2 : ∃ a n c, pv = .slice a n c := by obtain ⟨_, a, c, rfl, -⟩ := id h.rat.p; exact ⟨_, _, _, rfl⟩
  have cR : Hid (∀ w', Upd Non w w' → Calls Try.prog 35 #[rfv r kv pv, .int .i64 i] w' (fun en w9 => ∃ m ka kn kc pa pn pc f dd, en = .returned (.tuple #[.agg #[.int .i64 m, .slice ka kn kc, .slice pa pn pc, .int .i64 f, .bool dd], .int .i64 (d.arm i).2]) ∧
      rfv (r.arm i).1 (.slice ka kn kc) (.slice pa pn pc) = .agg #[.int .i64 m, .slice ka kn kc, .slice pa pn pc, .int .i64 f, .bool dd] ∧ Bth (fun k => B k ∨ (w.heap.size ≤ k ∧ k < w'.heap.size)) w0 w9 D F d (r.arm i).1 (.slice ka kn kc) (.slice pa pn pc) ∧ Upd Non w' w9)) :=
    Lib.hid (fun w' hu => by
      have hc := ((refArm r kv pv w' f1 f2 i).mono fun en w9 ha => (⟨kv, pv, ha.1, h.rat.keepP (hu.trans ha.2 fun _ _ h => h) (arm_K r i) (arm_P r i), ha.2, Nw.refl _ _ _, Nw.refl _ _ _⟩ : Anew kv pv w' (r.arm i).1 (r.arm i).2 en w9))
      rw [hS.2] at hc
      exact hc.mono fun en w9 ha => (h.grow hu).anew ha)
  have cD : Hid (∀ (w' : World) (B' : Nat → Prop) (r' : Dk) (kv' pv' : Value), Bth B' w0 w' D F d r' kv' pv' → Calls Try.prog 13 #[.pointer (some ⟨D, 0, none⟩), .int .i64 i] w' (fun en w9 => en = .returned (.int .i64 (d.arm i).2) ∧ ∃ F', Bth B' w0 w9 D F' (d.arm i).1 r' kv' pv' ∧ Upd F w' w9)) :=
    Lib.hid (fun w' B' r' kv' pv' hB  => (lvArm hB.lv i hi2).mono fun en w9 hc => hB.call hc)
  have hS : Hid (Same (d.arm i).1 (r.arm i).1 ∧ ((d.arm i).1).P.length ≤ d.P.length + 1 ∧ ((d.arm i).1).K.length = d.K.length) := Lib.hid ⟨hS.1, by rw [arm_P]; exact Nat.le_succ _, by rw [arm_K]⟩
  obtain ⟨e, he⟩ : ∃ e, (d.arm i).2 = e := ⟨_, rfl⟩
  rw [he] at cD
  simp only [he] at cR
  clear he f1 f2
  have hs5 := Lib.hid size_disk5
  have hlt : Hid (∀ k, F k → k < w.heap.size) := Lib.hid h.lv.at_.lt
  obtain ⟨m, ka, kn, kc, pa, pn, pc, f, dd, hlit⟩ := rfv_lit h.rat
  try rw [hlit] at cR
  rw [hlit]
  clear hlit e1 e2 e3 e4 e5 e6 hok hs hP h hPl
  go_enter Try.func20, Try.ntmps20
  go_wp2_with fail
  have hN3 : Upd Non w (((w.alloc (.cells #[.int .i64 m, .slice ka kn kc, .slice pa pn pc, .int .i64 f, .bool dd] 48)).alloc (.cells #[.int .i64 3, .int .i64 i, .string ⟨s.toArray⟩, .slice va q vc] 34)).alloc (.cells #[.int .i64 0, .slice none 0 0, .slice none 0 0, .int .i64 0, .bool false] 48)) := ((Upd.alloc Non w _).then_alloc _).then_alloc _
  refine (cR.out _ hN3).mono ?_
  rintro en w4 ⟨m9, ka9, kn9, kc9, pa9, pn9, pc9, f9, dd9, rfl, hrf, hB4, hu4⟩
  obtain ⟨hx0, hx1, hx2, hz⟩ := upd_three hu4 (fun _ h => h.elim)
  have hN4 : Upd Non w w4 := hN3.trans hu4 fun _ _ h => h
  have hb2 : B (w.heap.size + 1 + 1) ∨ (w.heap.size ≤ w.heap.size + 1 + 1 ∧ w.heap.size + 1 + 1 < (((w.alloc (.cells #[.int .i64 m, .slice ka kn kc, .slice pa pn pc, .int .i64 f, .bool dd] 48)).alloc (.cells #[.int .i64 3, .int .i64 i, .string ⟨s.toArray⟩, .slice va q vc] 34)).alloc (.cells #[.int .i64 0, .slice none 0 0, .slice none 0 0, .int .i64 0, .bool false] 48)).heap.size) := .inr ⟨by omega, by simp⟩
  clear hN3 hu4 cR
  simp only []
  replace hN4 := Lib.hid hN4
  replace hB4 := Lib.hid hB4
  replace hb2 := Lib.hid hb2
  replace hrf := Lib.hid hrf
  replace hx2 := Lib.hid hx2
  obtain ⟨c0, f0⟩ := cells_of hx1
  go_wp2_with (refine wpList_store_blk rfl 48 _ _ rfl w4.heap.size #[.int .i64 m9, .slice ka9 kn9 kc9, .slice pa9 pn9 pc9, .int .i64 f9, .bool dd9] _ _ rfl rfl (heap_alloc_new w4 (.cells #[.int .i64 0, .slice none 0 0, .slice none 0 0, .int .i64 0, .bool false] 48)) rfl hs5.out (by simp [Value.oneCell']) ?_)
  intro w5 hx5 hu5
  have hN5 : Upd Non w4 w5 := (Upd.alloc Non w4 _).trans hu5 fun k hk h => by omega
  have hB5 := Lib.hid (hB4.out.non hN5)
  have hy2 := hN5.heap hx2.out fun h => h
  have hy1 := hN5.heap hx1 fun h => h
  have hz5 := hN5.size
  have hs5' := hu5.size
  simp only [World.size_alloc] at hs5'
  clear hB4 hx2 hx1 hx0 hu5 c0 f0
  obtain ⟨c0, f0⟩ := cells_of hy1
  obtain ⟨c1, f1⟩ := cells_of hx5
  have hN5w : Hid (Upd Non w w5) := Lib.hid (hN4.out.trans hN5 fun _ _ h => h)
  clear hN5 hN4
  go_wp2_with fail
  refine wp_region_held_drew (S := fun w' => w'.heap[w4.heap.size]? = some (.cells #[.int .i64 m9, .slice ka9 kn9 kc9, .slice pa9 pn9 pc9, .int .i64 f9, .bool dd9] 48 (0, 0)) ∧ w'.heap[w.heap.size + 1]? = some (.cells #[.int .i64 3, .int .i64 i, .string ⟨s.toArray⟩, .slice va q vc] 34 (0, 0))) (by kernel_rfl) (by exact ⟨hx5, hy1⟩) (fun hHeld => ?_)
  (refine wpAnyH_take (i := 0) (oi := ?oi_31) (v := ?v_31) ?ho_31 ?hs_31 ?hf_31 ?hr_31 ?hQ_31 ?hy_31 ?hS_31 ?rest_31; (case hr_31 => kernel_rfl); (case hf_31 => kernel_rfl); (case hs_31 => kernel_rfl); (case ho_31 => (simp only [List.getElem?_toArray, List.getElem?_cons_succ, List.getElem?_cons_zero]; rfl)); (case hS_31 => assumption); (case hQ_31 => exact fun _ _ _ h => h); (case hy_31 => (refine Or.inl ⟨by rfl, ?_⟩; (intro w hSw; obtain ⟨s0, s1⟩ := hSw; obtain ⟨e0, g0⟩ := cells_of s0; obtain ⟨e1, g1⟩ := cells_of s1; go_simp) <;> with_reducible rfl)); (try simp only [Act.put, List.setIfInBounds_toArray, List.set_cons_zero, List.set_cons_succ]))
  (refine wpAnyH_take (i := 1) (oi := ?oi_32) (v := ?v_32) ?ho_32 ?hs_32 ?hf_32 ?hr_32 ?hQ_32 ?hy_32 ?hS_32 ?rest_32; (case hr_32 => kernel_rfl); (case hf_32 => kernel_rfl); (case hs_32 => kernel_rfl); (case ho_32 => (simp only [List.getElem?_toArray, List.getElem?_cons_succ, List.getElem?_cons_zero]; rfl)); (case hS_32 => assumption); (case hQ_32 => exact fun _ _ _ h => h); (case hy_32 => (refine Or.inl ⟨by rfl, ?_⟩; (intro w hSw; obtain ⟨s0, s1⟩ := hSw; obtain ⟨e0, g0⟩ := cells_of s0; obtain ⟨e1, g1⟩ := cells_of s1; go_simp) <;> with_reducible rfl)); (try simp only [Act.put, List.setIfInBounds_toArray, List.set_cons_zero, List.set_cons_succ]))
  (refine wpAnyH_take (i := 2) (oi := ?oi_33) (v := ?v_33) ?ho_33 ?hs_33 ?hf_33 ?hr_33 ?hQ_33 ?hy_33 ?hS_33 ?rest_33; (case hr_33 => kernel_rfl); (case hf_33 => kernel_rfl); (case hs_33 => kernel_rfl); (case ho_33 => (simp only [List.getElem?_toArray, List.getElem?_cons_succ, List.getElem?_cons_zero]; rfl)); (case hS_33 => assumption); (case hQ_33 => exact fun _ _ _ h => h); (case hy_33 => (refine Or.inl ⟨by rfl, ?_⟩; (intro w hSw; obtain ⟨s0, s1⟩ := hSw; obtain ⟨e0, g0⟩ := cells_of s0; obtain ⟨e1, g1⟩ := cells_of s1; go_simp) <;> with_reducible rfl)); (try simp only [Act.put, List.setIfInBounds_toArray, List.set_cons_zero, List.set_cons_succ]))
  (refine wpAnyH_take (i := 3) (oi := ?oi_34) (v := ?v_34) ?ho_34 ?hs_34 ?hf_34 ?hr_34 ?hQ_34 ?hy_34 ?hS_34 ?rest_34; (case hr_34 => kernel_rfl); (case hf_34 => kernel_rfl); (case hs_34 => kernel_rfl); (case ho_34 => (simp only [List.getElem?_toArray, List.getElem?_cons_succ, List.getElem?_cons_zero]; rfl)); (case hS_34 => assumption); (case hQ_34 => exact fun _ _ _ h => h); (case hy_34 => (refine Or.inl ⟨by rfl, ?_⟩; (intro w hSw; obtain ⟨s0, s1⟩ := hSw; obtain ⟨e0, g0⟩ := cells_of s0; obtain ⟨e1, g1⟩ := cells_of s1; go_simp) <;> with_reducible rfl)); (try simp only [Act.put, List.setIfInBounds_toArray, List.set_cons_zero, List.set_cons_succ]))
  (refine wpAnyH_take (i := 4) (oi := ?oi_35) (v := ?v_35) ?ho_35 ?hs_35 ?hf_35 ?hr_35 ?hQ_35 ?hy_35 ?hS_35 ?rest_35; (case hr_35 => kernel_rfl); (case hf_35 => kernel_rfl); (case hs_35 => kernel_rfl); (case ho_35 => (simp only [List.getElem?_toArray, List.getElem?_cons_succ, List.getElem?_cons_zero]; rfl)); (case hS_35 => assumption); (case hQ_35 => exact fun _ _ _ h => h); (case hy_35 => (refine Or.inl ⟨by rfl, ?_⟩; (intro w hSw; obtain ⟨s0, s1⟩ := hSw; obtain ⟨e0, g0⟩ := cells_of s0; obtain ⟨e1, g1⟩ := cells_of s1; go_simp) <;> with_reducible rfl)); (try simp only [Act.put, List.setIfInBounds_toArray, List.set_cons_zero, List.set_cons_succ]))
  (refine wpAnyH_take (i := 6) (oi := ?oi_36) (v := ?v_36) ?ho_36 ?hs_36 ?hf_36 ?hr_36 ?hQ_36 ?hy_36 ?hS_36 ?rest_36; (case hr_36 => kernel_rfl); (case hf_36 => kernel_rfl); (case hs_36 => kernel_rfl); (case ho_36 => (simp only [List.getElem?_toArray, List.getElem?_cons_succ, List.getElem?_cons_zero]; rfl)); (case hS_36 => assumption); (case hQ_36 => exact fun _ _ _ h => h); (case hy_36 => (refine Or.inl ⟨by rfl, ?_⟩; (intro w hSw; obtain ⟨s0, s1⟩ := hSw; obtain ⟨e0, g0⟩ := cells_of s0; obtain ⟨e1, g1⟩ := cells_of s1; go_simp) <;> with_reducible rfl)); (try simp only [Act.put, List.setIfInBounds_toArray, List.set_cons_zero, List.set_cons_succ]))
  refine wpAnyH_ready (rs := [5]) (by kernel_rfl) (by simp) ?_
  refine (AllReadyH.cons (o := ?oo37_0) ?ho37_0 ?hs37_0 AllReadyH.nil)
  case ho37_0 => (simp only [List.getElem?_toArray, List.getElem?_cons_succ, List.getElem?_cons_zero]; rfl)
  case hs37_0 =>
    intro K hK
    go_simp
    go_at_call 13
    refine (cD.out _ _ _ _ _ (hB5.out.non (Upd.drew Non w5)) ).mono ?_
    rintro en w6 ⟨rfl, F6, hB6, hu6⟩
    have hT6 := hu6.heap (show w5.drew.heap[w.heap.size + 1 + 1]? = _ from hy2) (fun h => by have := hlt.out _ h; omega)
    have hA6 := hu6.heap (show w5.drew.heap[w.heap.size + 1]? = _ from hy1) (fun h => by have := hlt.out _ h; omega)
    have hX6 := hu6.heap (show w5.drew.heap[w4.heap.size]? = _ from hx5) (fun h => by have := hlt.out _ h; omega)
    try go_wp2_with fail
    refine hK.out _ _ (by exact ⟨hX6, hA6⟩) (fun hHeld => ?_)
    clear hK K
    try simp only [Act.put, List.setIfInBounds_toArray, List.set_cons_zero, List.set_cons_succ]
    (refine wpAnyH_take (i := 7) (oi := ?oi_38) (v := ?v_38) ?ho_38 ?hs_38 ?hf_38 ?hr_38 ?hQ_38 ?hy_38 ?hS_38 ?rest_38; (case hr_38 => kernel_rfl); (case hf_38 => kernel_rfl); (case hs_38 => kernel_rfl); (case ho_38 => (simp only [List.getElem?_toArray, List.getElem?_cons_succ, List.getElem?_cons_zero]; rfl)); (case hS_38 => assumption); (case hQ_38 => exact fun _ _ _ h => h); (case hy_38 => (refine Or.inl ⟨by rfl, ?_⟩; (intro w hSw; obtain ⟨s0, s1⟩ := hSw; obtain ⟨e0, g0⟩ := cells_of s0; obtain ⟨e1, g1⟩ := cells_of s1; go_simp) <;> with_reducible rfl)); (try simp only [Act.put, List.setIfInBounds_toArray, List.set_cons_zero, List.set_cons_succ]))
    (refine wpAnyH_take (i := 8) (oi := ?oi_39) (v := ?v_39) ?ho_39 ?hs_39 ?hf_39 ?hr_39 ?hQ_39 ?hy_39 ?hS_39 ?rest_39; (case hr_39 => kernel_rfl); (case hf_39 => kernel_rfl); (case hs_39 => kernel_rfl); (case ho_39 => (simp only [List.getElem?_toArray, List.getElem?_cons_succ, List.getElem?_cons_zero]; rfl)); (case hS_39 => assumption); (case hQ_39 => exact fun _ _ _ h => h); (case hy_39 => (refine Or.inl ⟨by rfl, ?_⟩; (intro w hSw; obtain ⟨s0, s1⟩ := hSw; obtain ⟨e0, g0⟩ := cells_of s0; obtain ⟨e1, g1⟩ := cells_of s1; go_simp) <;> with_reducible rfl)); (try simp only [Act.put, List.setIfInBounds_toArray, List.set_cons_zero, List.set_cons_succ]))
    refine wpAnyH_ready (rs := [9]) (by kernel_rfl) (by simp) ?_
    refine (AllReadyH.cons (o := ?oo310_0) ?ho310_0 ?hs310_0 AllReadyH.nil)
    case ho310_0 => (simp only [List.getElem?_toArray, List.getElem?_cons_succ, List.getElem?_cons_zero]; rfl)
    case hs310_0 =>
      intro K hK
      refine step_store_blk rfl 48 _ _ rfl (w.heap.size + 1 + 1) #[.int .i64 m9, .slice ka9 kn9 kc9, .slice pa9 pn9 pc9, .int .i64 f9, .bool dd9] _ _ rfl rfl hT6 rfl hs5.out (by simp [Value.oneCell']) ?_
      intro w7 hT7 hu7
      have hX7 := hu7.heap hX6 (fun h => by omega)
      have hA7 := hu7.heap hA6 (fun h => by omega)
      try go_wp2_with fail
      refine hK.out _ _ (by exact ⟨hX7, hA7⟩) (fun hHeld => ?_)
      clear hK K
      try simp only [Act.put, List.setIfInBounds_toArray, List.set_cons_zero, List.set_cons_succ]
      (refine wpAnyH_take (i := 10) (oi := ?oi_311) (v := ?v_311) ?ho_311 ?hs_311 ?hf_311 ?hr_311 ?hQ_311 ?hy_311 ?hS_311 ?rest_311; (case hr_311 => kernel_rfl); (case hf_311 => kernel_rfl); (case hs_311 => kernel_rfl); (case ho_311 => (simp only [List.getElem?_toArray, List.getElem?_cons_succ, List.getElem?_cons_zero]; rfl)); (case hS_311 => assumption); (case hQ_311 => exact fun _ _ _ h => h); (case hy_311 => (refine Or.inl ⟨by rfl, ?_⟩; (intro w hSw; obtain ⟨s0, s1⟩ := hSw; obtain ⟨e0, g0⟩ := cells_of s0; obtain ⟨e1, g1⟩ := cells_of s1; go_simp) <;> with_reducible rfl)); (try simp only [Act.put, List.setIfInBounds_toArray, List.set_cons_zero, List.set_cons_succ]))
      refine wpAnyH_done (by kernel_rfl) ?_ _
      have hUF : Upd F w w7 := ((hN5w.out.then_drew).non.trans hu6 fun k _ h => h).trans hu7 fun k hk h => by omega
      have hB7 := (hB6.upd hu7 (fun k hk => by subst hk; exact hb2.out)).sub (B' := B) (fun k hk => .inl hk)
      obtain ⟨c1, f1⟩ := cells_of hT7
      clear hu7 hB6 hu6 hHeld
      go_wp2_with fail
      refine bodyPost_ret (v := .tuple #[.pointer (some ⟨D, 0, none⟩), .agg #[.int .i64 m9, .slice ka9 kn9 kc9, .slice pa9 pn9 pc9, .int .i64 f9, .bool dd9], .bool true]) (by simp [results, Try.results20, go_sem, c1]; try rfl) rfl ⟨D, F6, _, _, _, _, by rw [hrf.out], hB7, hS.out.1, hS.out.2.1, hS.out.2.2, hUF⟩
end Go.Proofs.Ytgkiglodhhlnmaa
