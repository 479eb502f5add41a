/- step: Flush. -/
import Derived.Test.YtgkiglodhhlnmaaBmD
import Derived.Test.YtgkiglodhhlnmaaLibB
import Derived.Lib.SliceRun
namespace Go.Proofs.Ytgkiglodhhlnmaa
open Go.RowKit Go.Amb Go.Shelf
set_option linter.unusedVariables false
set_option linter.unusedSimpArgs false
set_option maxRecDepth 100000
theorem upd_three {S : Nat → Prop} {w w1 : World} {ca cb cc : Array Value} {ea eb ec : TypeId} (hu : Upd S (((w.alloc (.cells ca ea)).alloc (.cells cb eb)).alloc (.cells cc ec)) w1) (hS : ∀ k, S k → k < w.heap.size ∨ w.heap.size + 3 ≤ k) :
    w1.heap[w.heap.size]? = some (.cells ca ea (0, 0)) ∧ w1.heap[w.heap.size + 1]? = some (.cells cb eb (0, 0)) ∧ w1.heap[w.heap.size + 1 + 1]? = some (.cells cc ec (0, 0)) ∧ w.heap.size + 3 ≤ w1.heap.size := by
  have hs := hu.size
  simp at hs
  have h2 := heap_alloc_new ((w.alloc (.cells ca ea)).alloc (.cells cb eb)) (.cells cc ec)
  simp only [World.size_alloc] at h2
  have hA := Upd.alloc Non ((w.alloc (.cells ca ea)).alloc (.cells cb eb)) (.cells cc ec)
  exact ⟨hu.heap (hA.heap (heap_alloc2_old w (.cells ca ea) (.cells cb eb)) fun h => h) fun h => by have := hS _ h; omega, hu.heap (hA.heap (heap_alloc2_new w (.cells ca ea) (.cells cb eb)) fun h => h) fun h => by have := hS _ h; omega, hu.heap h2 fun h => by have := hS _ h; omega, by omega⟩
theorem rfv_lit {w : World} {r : Dk} {kv pv : Value} (h : RAt w r kv pv) : ∃ m ka kn kc pa pn pc f dd, rfv r kv pv = .agg #[.int .i64 m, .slice ka kn kc, .slice pa pn pc, .int .i64 f, .bool dd] := by
  obtain ⟨_, ka, kc, rfl, -⟩ := id h.k
  obtain ⟨_, pa, pcp, rfl, -⟩ := id h.p
  exact ⟨_, _, _, _, _, _, _, _, _, rfl⟩
/-- A call of the disk, beside the reference. -/
theorem Bth.call {B : Nat → Prop} {w0 w w' : World} {D : Nat} {F : Nat → Prop} {d d' r : Dk} {kv pv v : Value} {en : Ending} (h : Bth B w0 w D F d r kv pv) (hc : en = .returned v ∧ ∃ F', Lv w0 D w' F' d' ∧ Kp w F w' F') :
    en = .returned v ∧ ∃ F', Bth B w0 w' D F' d' r kv pv ∧ Upd F w w' := by
  obtain ⟨he, F', hL, hk⟩ := hc
  exact ⟨he, F', h.disk hL hk, hk.upd⟩
set_option maxHeartbeats 4000000 in
theorem stepFlush {B : Nat → Prop} {w0 w : World} {D : Nat} {F : Nat → Prop} {d r : Dk} {kv pv : Value} (h : Bth B w0 w D F d r kv pv) (hs : Same d r) (hP : d.P.length ≤ 1000000) (i : Int) (s : List UInt8) (va : Option Addr) (q vc : Nat) :
    Calls Try.prog 20 #[.pointer (some ⟨D, 0, none⟩), rfv r kv pv, .agg #[.int .i64 1, .int .i64 i, .string ⟨s.toArray⟩, .slice va q vc]] w (Stp B w0 w F d) := by
  have hok := h.lv.at_.ok
  have e1 : r.P.length = d.P.length := by rw [hs.p]
  have e2 : r.K.length = d.K.length := by rw [hs.k, List.length_map]
  have e3 := hok.n1
  have e4 := hok.n2
  have e5 : -1 ≤ r.f := by rw [← hs.f]; exact hok.f1
  have e6 : r.f < 9223372036854775808 := by rw [← hs.f]; exact hok.f2
  have hPl : Hid (d.P.length ≤ d.P.length + 1) := Lib.hid (Nat.le_succ _)
  have hS := hs.flush hok
  replace hS := And.intro hS.1 hS.2.symm
  have cR : Hid (∀ w', Upd Non w w' → Calls Try.prog 33 #[rfv r kv pv] w' (fun en w9 => ∃ m ka kn kc pa pn pc f dd, en = .returned (.tuple #[.agg #[.int .i64 m, .slice ka kn kc, .slice pa pn pc, .int .i64 f, .bool dd], .int .i64 d.flush.2]) ∧
      rfv r.flushR.1 (.slice ka kn kc) (.slice pa pn pc) = .agg #[.int .i64 m, .slice ka kn kc, .slice pa pn pc, .int .i64 f, .bool dd] ∧ Bth (fun k => B k ∨ (w.heap.size ≤ k ∧ k < w'.heap.size)) w0 w9 D F d r.flushR.1 (.slice ka kn kc) (.slice pa pn pc) ∧ Upd Non w' w9)) :=
    Lib.hid (fun w' hu => by
      have hc := refFlush r kv pv w' (h.rat.non hu) (fun p hp => by rw [e2]; exact (hok.p p (by rw [hs.p]; exact hp)).2) (by omega) (by omega) (by omega) e5 e6
      rw [hS.2] at hc
      exact hc.mono fun en w9 ha => (h.grow hu).anew ha)
  have cD : Hid (∀ (w' : World) (B' : Nat → Prop) (r' : Dk) (kv' pv' : Value), Bth B' w0 w' D F d r' kv' pv' → Calls Try.prog 11 #[.pointer (some ⟨D, 0, none⟩)] w' (fun en w9 => en = .returned (.int .i64 d.flush.2) ∧ ∃ F', Bth B' w0 w9 D F' d.flush.1 r' kv' pv' ∧ Upd F w' w9)) :=
    Lib.hid (fun w' B' r' kv' pv' hB  => (lvFlush hB.lv hP).mono fun en w9 hc => hB.call hc)
  have hS : Hid (Same d.flush.1 r.flushR.1 ∧ (d.flush.1).P.length ≤ d.P.length + 1 ∧ (d.flush.1).K.length = d.K.length) := Lib.hid ⟨hS.1, Nat.le_succ_of_le (flush_P d), flush_K d⟩
  obtain ⟨e, he⟩ : ∃ e, d.flush.2 = e := ⟨_, rfl⟩
  rw [he] at cD
  simp only [he] at cR
  clear he
  have hs5 := Lib.hid size_disk5
  have hlt : Hid (∀ k, F k → k < w.heap.size) := Lib.hid h.lv.at_.lt
  obtain ⟨m, ka, kn, kc, pa, pn, pc, f, dd, hlit⟩ := rfv_lit h.rat
  try rw [hlit] at cR
  rw [hlit]
  clear hlit e1 e2 e3 e4 e5 e6 hok hs hP h hPl
  go_enter Try.func20, Try.ntmps20
  go_wp2_with fail
  have hN3 : Upd Non w (((w.alloc (.cells #[.int .i64 m, .slice ka kn kc, .slice pa pn pc, .int .i64 f, .bool dd] 48)).alloc (.cells #[.int .i64 1, .int .i64 i, .string ⟨s.toArray⟩, .slice va q vc] 34)).alloc (.cells #[.int .i64 0, .slice none 0 0, .slice none 0 0, .int .i64 0, .bool false] 48)) := ((Upd.alloc Non w _).then_alloc _).then_alloc _
  refine (cR.out _ hN3).mono ?_
  rintro en w4 ⟨m9, ka9, kn9, kc9, pa9, pn9, pc9, f9, dd9, rfl, hrf, hB4, hu4⟩
  obtain ⟨hx0, hx1, hx2, hz⟩ := upd_three hu4 (fun _ h => h.elim)
  have hN4 : Upd Non w w4 := hN3.trans hu4 fun _ _ h => h
  have hb2 : B (w.heap.size + 1 + 1) ∨ (w.heap.size ≤ w.heap.size + 1 + 1 ∧ w.heap.size + 1 + 1 < (((w.alloc (.cells #[.int .i64 m, .slice ka kn kc, .slice pa pn pc, .int .i64 f, .bool dd] 48)).alloc (.cells #[.int .i64 1, .int .i64 i, .string ⟨s.toArray⟩, .slice va q vc] 34)).alloc (.cells #[.int .i64 0, .slice none 0 0, .slice none 0 0, .int .i64 0, .bool false] 48)).heap.size) := .inr ⟨by omega, by simp⟩
  clear hN3 hu4 cR
  simp only []
  replace hN4 := Lib.hid hN4
  replace hB4 := Lib.hid hB4
  replace hb2 := Lib.hid hb2
  replace hrf := Lib.hid hrf
  replace hx2 := Lib.hid hx2
  obtain ⟨c0, f0⟩ := cells_of hx1
  go_wp2_with (refine wpList_store_blk rfl 48 _ _ rfl w4.heap.size #[.int .i64 m9, .slice ka9 kn9 kc9, .slice pa9 pn9 pc9, .int .i64 f9, .bool dd9] _ _ rfl rfl (heap_alloc_new w4 (.cells #[.int .i64 0, .slice none 0 0, .slice none 0 0, .int .i64 0, .bool false] 48)) rfl hs5.out (by simp [Value.oneCell']) ?_)
  intro w5 hx5 hu5
  have hN5 : Upd Non w4 w5 := (Upd.alloc Non w4 _).trans hu5 fun k hk h => by omega
  have hB5 := Lib.hid (hB4.out.non hN5)
  have hy2 := hN5.heap hx2.out fun h => h
  have hy1 := hN5.heap hx1 fun h => h
  have hz5 := hN5.size
  have hs5' := hu5.size
  simp only [World.size_alloc] at hs5'
  clear hB4 hx2 hx1 hx0 hu5 c0 f0
  obtain ⟨c0, f0⟩ := cells_of hy1
  obtain ⟨c1, f1⟩ := cells_of hx5
  have hN5w : Hid (Upd Non w w5) := Lib.hid (hN4.out.trans hN5 fun _ _ h => h)
  clear hN5 hN4
  go_wp2_with fail
  refine wp_region_held_drew (S := fun w' => w'.heap[w4.heap.size]? = some (.cells #[.int .i64 m9, .slice ka9 kn9 kc9, .slice pa9 pn9 pc9, .int .i64 f9, .bool dd9] 48 (0, 0)) ∧ w'.heap[w.heap.size + 1]? = some (.cells #[.int .i64 1, .int .i64 i, .string ⟨s.toArray⟩, .slice va q vc] 34 (0, 0))) (by kernel_rfl) (by exact ⟨hx5, hy1⟩) (fun hHeld => ?_)
  (refine wpAnyH_take (i := 0) (oi := ?oi_11) (v := ?v_11) ?ho_11 ?hs_11 ?hf_11 ?hr_11 ?hQ_11 ?hy_11 ?hS_11 ?rest_11; (case hr_11 => kernel_rfl); (case hf_11 => kernel_rfl); (case hs_11 => kernel_rfl); (case ho_11 => (simp only [List.getElem?_toArray, List.getElem?_cons_succ, List.getElem?_cons_zero]; rfl)); (case hS_11 => assumption); (case hQ_11 => exact fun _ _ _ h => h); (case hy_11 => (refine Or.inl ⟨by rfl, ?_⟩; (intro w hSw; obtain ⟨s0, s1⟩ := hSw; obtain ⟨e0, g0⟩ := cells_of s0; obtain ⟨e1, g1⟩ := cells_of s1; go_simp) <;> with_reducible rfl)); (try simp only [Act.put, List.setIfInBounds_toArray, List.set_cons_zero, List.set_cons_succ]))
  (refine wpAnyH_take (i := 1) (oi := ?oi_12) (v := ?v_12) ?ho_12 ?hs_12 ?hf_12 ?hr_12 ?hQ_12 ?hy_12 ?hS_12 ?rest_12; (case hr_12 => kernel_rfl); (case hf_12 => kernel_rfl); (case hs_12 => kernel_rfl); (case ho_12 => (simp only [List.getElem?_toArray, List.getElem?_cons_succ, List.getElem?_cons_zero]; rfl)); (case hS_12 => assumption); (case hQ_12 => exact fun _ _ _ h => h); (case hy_12 => (refine Or.inl ⟨by rfl, ?_⟩; (intro w hSw; obtain ⟨s0, s1⟩ := hSw; obtain ⟨e0, g0⟩ := cells_of s0; obtain ⟨e1, g1⟩ := cells_of s1; go_simp) <;> with_reducible rfl)); (try simp only [Act.put, List.setIfInBounds_toArray, List.set_cons_zero, List.set_cons_succ]))
  (refine wpAnyH_take (i := 2) (oi := ?oi_13) (v := ?v_13) ?ho_13 ?hs_13 ?hf_13 ?hr_13 ?hQ_13 ?hy_13 ?hS_13 ?rest_13; (case hr_13 => kernel_rfl); (case hf_13 => kernel_rfl); (case hs_13 => kernel_rfl); (case ho_13 => (simp only [List.getElem?_toArray, List.getElem?_cons_succ, List.getElem?_cons_zero]; rfl)); (case hS_13 => assumption); (case hQ_13 => exact fun _ _ _ h => h); (case hy_13 => (refine Or.inl ⟨by rfl, ?_⟩; (intro w hSw; obtain ⟨s0, s1⟩ := hSw; obtain ⟨e0, g0⟩ := cells_of s0; obtain ⟨e1, g1⟩ := cells_of s1; go_simp) <;> with_reducible rfl)); (try simp only [Act.put, List.setIfInBounds_toArray, List.set_cons_zero, List.set_cons_succ]))
  (refine wpAnyH_take (i := 4) (oi := ?oi_14) (v := ?v_14) ?ho_14 ?hs_14 ?hf_14 ?hr_14 ?hQ_14 ?hy_14 ?hS_14 ?rest_14; (case hr_14 => kernel_rfl); (case hf_14 => kernel_rfl); (case hs_14 => kernel_rfl); (case ho_14 => (simp only [List.getElem?_toArray, List.getElem?_cons_succ, List.getElem?_cons_zero]; rfl)); (case hS_14 => assumption); (case hQ_14 => exact fun _ _ _ h => h); (case hy_14 => (refine Or.inl ⟨by rfl, ?_⟩; (intro w hSw; obtain ⟨s0, s1⟩ := hSw; obtain ⟨e0, g0⟩ := cells_of s0; obtain ⟨e1, g1⟩ := cells_of s1; go_simp) <;> with_reducible rfl)); (try simp only [Act.put, List.setIfInBounds_toArray, List.set_cons_zero, List.set_cons_succ]))
  refine wpAnyH_ready (rs := [3]) (by kernel_rfl) (by simp) ?_
  refine (AllReadyH.cons (o := ?oo15_0) ?ho15_0 ?hs15_0 AllReadyH.nil)
  case ho15_0 => (simp only [List.getElem?_toArray, List.getElem?_cons_succ, List.getElem?_cons_zero]; rfl)
  case hs15_0 =>
    intro K hK
    go_simp
    go_at_call 11
    refine (cD.out _ _ _ _ _ (hB5.out.non (Upd.drew Non w5)) ).mono ?_
    rintro en w6 ⟨rfl, F6, hB6, hu6⟩
    have hT6 := hu6.heap (show w5.drew.heap[w.heap.size + 1 + 1]? = _ from hy2) (fun h => by have := hlt.out _ h; omega)
    have hA6 := hu6.heap (show w5.drew.heap[w.heap.size + 1]? = _ from hy1) (fun h => by have := hlt.out _ h; omega)
    have hX6 := hu6.heap (show w5.drew.heap[w4.heap.size]? = _ from hx5) (fun h => by have := hlt.out _ h; omega)
    try go_wp2_with fail
    refine hK.out _ _ (by exact ⟨hX6, hA6⟩) (fun hHeld => ?_)
    clear hK K
    try simp only [Act.put, List.setIfInBounds_toArray, List.set_cons_zero, List.set_cons_succ]
    (refine wpAnyH_take (i := 5) (oi := ?oi_16) (v := ?v_16) ?ho_16 ?hs_16 ?hf_16 ?hr_16 ?hQ_16 ?hy_16 ?hS_16 ?rest_16; (case hr_16 => kernel_rfl); (case hf_16 => kernel_rfl); (case hs_16 => kernel_rfl); (case ho_16 => (simp only [List.getElem?_toArray, List.getElem?_cons_succ, List.getElem?_cons_zero]; rfl)); (case hS_16 => assumption); (case hQ_16 => exact fun _ _ _ h => h); (case hy_16 => (refine Or.inl ⟨by rfl, ?_⟩; (intro w hSw; obtain ⟨s0, s1⟩ := hSw; obtain ⟨e0, g0⟩ := cells_of s0; obtain ⟨e1, g1⟩ := cells_of s1; go_simp) <;> with_reducible rfl)); (try simp only [Act.put, List.setIfInBounds_toArray, List.set_cons_zero, List.set_cons_succ]))
    (refine wpAnyH_take (i := 6) (oi := ?oi_17) (v := ?v_17) ?ho_17 ?hs_17 ?hf_17 ?hr_17 ?hQ_17 ?hy_17 ?hS_17 ?rest_17; (case hr_17 => kernel_rfl); (case hf_17 => kernel_rfl); (case hs_17 => kernel_rfl); (case ho_17 => (simp only [List.getElem?_toArray, List.getElem?_cons_succ, List.getElem?_cons_zero]; rfl)); (case hS_17 => assumption); (case hQ_17 => exact fun _ _ _ h => h); (case hy_17 => (refine Or.inl ⟨by rfl, ?_⟩; (intro w hSw; obtain ⟨s0, s1⟩ := hSw; obtain ⟨e0, g0⟩ := cells_of s0; obtain ⟨e1, g1⟩ := cells_of s1; go_simp) <;> with_reducible rfl)); (try simp only [Act.put, List.setIfInBounds_toArray, List.set_cons_zero, List.set_cons_succ]))
    refine wpAnyH_ready (rs := [7]) (by kernel_rfl) (by simp) ?_
    refine (AllReadyH.cons (o := ?oo18_0) ?ho18_0 ?hs18_0 AllReadyH.nil)
    case ho18_0 => (simp only [List.getElem?_toArray, List.getElem?_cons_succ, List.getElem?_cons_zero]; rfl)
    case hs18_0 =>
      intro K hK
      refine step_store_blk rfl 48 _ _ rfl (w.heap.size + 1 + 1) #[.int .i64 m9, .slice ka9 kn9 kc9, .slice pa9 pn9 pc9, .int .i64 f9, .bool dd9] _ _ rfl rfl hT6 rfl hs5.out (by simp [Value.oneCell']) ?_
      intro w7 hT7 hu7
      have hX7 := hu7.heap hX6 (fun h => by omega)
      have hA7 := hu7.heap hA6 (fun h => by omega)
      try go_wp2_with fail
      refine hK.out _ _ (by exact ⟨hX7, hA7⟩) (fun hHeld => ?_)
      clear hK K
      try simp only [Act.put, List.setIfInBounds_toArray, List.set_cons_zero, List.set_cons_succ]
      (refine wpAnyH_take (i := 8) (oi := ?oi_19) (v := ?v_19) ?ho_19 ?hs_19 ?hf_19 ?hr_19 ?hQ_19 ?hy_19 ?hS_19 ?rest_19; (case hr_19 => kernel_rfl); (case hf_19 => kernel_rfl); (case hs_19 => kernel_rfl); (case ho_19 => (simp only [List.getElem?_toArray, List.getElem?_cons_succ, List.getElem?_cons_zero]; rfl)); (case hS_19 => assumption); (case hQ_19 => exact fun _ _ _ h => h); (case hy_19 => (refine Or.inl ⟨by rfl, ?_⟩; (intro w hSw; obtain ⟨s0, s1⟩ := hSw; obtain ⟨e0, g0⟩ := cells_of s0; obtain ⟨e1, g1⟩ := cells_of s1; go_simp) <;> with_reducible rfl)); (try simp only [Act.put, List.setIfInBounds_toArray, List.set_cons_zero, List.set_cons_succ]))
      refine wpAnyH_done (by kernel_rfl) ?_ _
      have hUF : Upd F w w7 := ((hN5w.out.then_drew).non.trans hu6 fun k _ h => h).trans hu7 fun k hk h => by omega
      have hB7 := (hB6.upd hu7 (fun k hk => by subst hk; exact hb2.out)).sub (B' := B) (fun k hk => .inl hk)
      obtain ⟨c1, f1⟩ := cells_of hT7
      clear hu7 hB6 hu6 hHeld
      go_wp2_with fail
      refine bodyPost_ret (v := .tuple #[.pointer (some ⟨D, 0, none⟩), .agg #[.int .i64 m9, .slice ka9 kn9 kc9, .slice pa9 pn9 pc9, .int .i64 f9, .bool dd9], .bool true]) (by simp [results, Try.results20, go_sem, c1]; try rfl) rfl ⟨D, F6, _, _, _, _, by rw [hrf.out], hB7, hS.out.1, hS.out.2.1, hS.out.2.2, hUF⟩
end Go.Proofs.Ytgkiglodhhlnmaa
