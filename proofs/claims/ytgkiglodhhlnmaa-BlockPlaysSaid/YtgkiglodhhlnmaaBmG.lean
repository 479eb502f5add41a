/- step: Write. -/
import Derived.Test.YtgkiglodhhlnmaaBmF
import Derived.Test.YtgkiglodhhlnmaaLibB
import Derived.Lib.SliceRun
namespace Go.Proofs.Ytgkiglodhhlnmaa
open Go.RowKit Go.Amb Go.Shelf
set_option linter.unusedVariables false
set_option linter.unusedSimpArgs false
set_option maxRecDepth 100000
set_option maxHeartbeats 4000000 in
theorem stepWrite {B : Nat → Prop} {w0 w : World} {D : Nat} {F : Nat → Prop} {d r : Dk} {kv pv : Value} (h : Bth B w0 w D F d r kv pv) (hs : Same d r) (hP : d.P.length ≤ 1000000) (kind : Int) (hkind : kind < 1 ∨ 5 < kind) (i : Int) (s : List UInt8) (va : Option Addr) (q vc : Nat) (hsl : s.length ≤ 1000) :
    Calls Try.prog 20 #[.pointer (some ⟨D, 0, none⟩), rfv r kv pv, .agg #[.int .i64 kind, .int .i64 i, .string ⟨s.toArray⟩, .slice va q vc]] w (Stp B w0 w F d) := by
  have hok := h.lv.at_.ok
  have e1 : r.P.length = d.P.length := by rw [hs.p]
  have e2 : r.K.length = d.K.length := by rw [hs.k, List.length_map]
  have e3 := hok.n1
  have e4 := hok.n2
  have e5 : -1 ≤ r.f := by rw [← hs.f]; exact hok.f1
  have e6 : r.f < 9223372036854775808 := by rw [← hs.f]; exact hok.f2
  have hPl : Hid (d.P.length ≤ d.P.length + 1) := Lib.hid (Nat.le_succ _)
  have hS := hs.write i s
  replace hS := And.intro hS.1 hS.2.symm
  have cR : Hid (∀ w', Upd Non w w' → Calls Try.prog 36 #[rfv r kv pv, .int .i64 i, .string ⟨s.toArray⟩] w' (fun en w9 => ∃ m ka kn kc pa pn pc f dd, en = .returned (.tuple #[.agg #[.int .i64 m, .slice ka kn kc, .slice pa pn pc, .int .i64 f, .bool dd], .int .i64 (d.write i s).2]) ∧
      rfv (r.write i s).1 (.slice ka kn kc) (.slice pa pn pc) = .agg #[.int .i64 m, .slice ka kn kc, .slice pa pn pc, .int .i64 f, .bool dd] ∧ Bth (fun k => B k ∨ (w.heap.size ≤ k ∧ k < w'.heap.size)) w0 w9 D F d (r.write i s).1 (.slice ka kn kc) (.slice pa pn pc) ∧ Upd Non w' w9)) :=
    Lib.hid (fun w' hu => by
      have hc := refWrite r kv pv w' (h.rat.non hu) (by omega) (by omega) e5 e6 i s (by omega)
      rw [hS.2] at hc
      exact hc.mono fun en w9 ha => (h.grow hu).anew ha)
  have cD : Hid (∀ (w' : World) (B' : Nat → Prop) (r' : Dk) (kv' pv' : Value), Bth B' w0 w' D F d r' kv' pv' → ∀ v : Value, Bytes w' v s → (∀ k, At v k → ¬ F k) → Calls Try.prog 10 #[.pointer (some ⟨D, 0, none⟩), .int .i64 i, v] w' (fun en w9 => en = .returned (.int .i64 (d.write i s).2) ∧ ∃ F', Bth B' w0 w9 D F' (d.write i s).1 r' kv' pv' ∧ Upd F w' w9)) :=
    Lib.hid (fun w' B' r' kv' pv' hB v hv1 hv2 => (lvWrite hB.lv hP i s v hv1 hv2).mono fun en w9 hc => hB.call hc)
  have hS : Hid (Same (d.write i s).1 (r.write i s).1 ∧ ((d.write i s).1).P.length ≤ d.P.length + 1 ∧ ((d.write i s).1).K.length = d.K.length) := Lib.hid ⟨hS.1, write_P d i s, by rw [write_K]⟩
  obtain ⟨e, he⟩ : ∃ e, (d.write i s).2 = e := ⟨_, rfl⟩
  rw [he] at cD
  simp only [he] at cR
  clear he
  have g1 : (kind = 1) = False := eq_false (by omega)
  have g2 : (kind = 2) = False := eq_false (by omega)
  have g3 : (kind = 3) = False := eq_false (by omega)
  have g4 : (kind = 4) = False := eq_false (by omega)
  have g5 : (kind = 5) = False := eq_false (by omega)
  have k1 : (kind == 1) = false := by simp [g1]
  have k2 : (kind == 2) = false := by simp [g2]
  have k3 : (kind == 3) = false := by simp [g3]
  have k4 : (kind == 4) = false := by simp [g4]
  have k5 : (kind == 5) = false := by simp [g5]
  replace hsl : Hid (s.length ≤ maxLen) := Lib.hid (by unfold maxLen; omega)
  clear hkind
  have hs5 := Lib.hid size_disk5
  have hlt : Hid (∀ k, F k → k < w.heap.size) := Lib.hid h.lv.at_.lt
  obtain ⟨m, ka, kn, kc, pa, pn, pc, f, dd, hlit⟩ := rfv_lit h.rat
  try rw [hlit] at cR
  rw [hlit]
  clear hlit e1 e2 e3 e4 e5 e6 hok hs hP h hPl
  go_enter Try.func20, Try.ntmps20
  go_wp2_with fail
  have hN3 : Upd Non w (((w.alloc (.cells #[.int .i64 m, .slice ka kn kc, .slice pa pn pc, .int .i64 f, .bool dd] 48)).alloc (.cells #[.int .i64 kind, .int .i64 i, .string ⟨s.toArray⟩, .slice va q vc] 34)).alloc (.cells #[.int .i64 0, .slice none 0 0, .slice none 0 0, .int .i64 0, .bool false] 48)) := ((Upd.alloc Non w _).then_alloc _).then_alloc _
  refine (cR.out _ hN3).mono ?_
  rintro en w4 ⟨m9, ka9, kn9, kc9, pa9, pn9, pc9, f9, dd9, rfl, hrf, hB4, hu4⟩
  obtain ⟨hx0, hx1, hx2, hz⟩ := upd_three hu4 (fun _ h => h.elim)
  have hN4 : Upd Non w w4 := hN3.trans hu4 fun _ _ h => h
  have hb2 : B (w.heap.size + 1 + 1) ∨ (w.heap.size ≤ w.heap.size + 1 + 1 ∧ w.heap.size + 1 + 1 < (((w.alloc (.cells #[.int .i64 m, .slice ka kn kc, .slice pa pn pc, .int .i64 f, .bool dd] 48)).alloc (.cells #[.int .i64 kind, .int .i64 i, .string ⟨s.toArray⟩, .slice va q vc] 34)).alloc (.cells #[.int .i64 0, .slice none 0 0, .slice none 0 0, .int .i64 0, .bool false] 48)).heap.size) := .inr ⟨by omega, by simp⟩
  clear hN3 hu4 cR
  simp only []
  replace hN4 := Lib.hid hN4
  replace hB4 := Lib.hid hB4
  replace hb2 := Lib.hid hb2
  replace hrf := Lib.hid hrf
  replace hx2 := Lib.hid hx2
  obtain ⟨c0, f0⟩ := cells_of hx1
  go_wp2_with (refine wpList_store_blk rfl 48 _ _ rfl w4.heap.size #[.int .i64 m9, .slice ka9 kn9 kc9, .slice pa9 pn9 pc9, .int .i64 f9, .bool dd9] _ _ rfl rfl (heap_alloc_new w4 (.cells #[.int .i64 0, .slice none 0 0, .slice none 0 0, .int .i64 0, .bool false] 48)) rfl hs5.out (by simp [Value.oneCell']) ?_)
  intro w5 hx5 hu5
  have hN5 : Upd Non w4 w5 := (Upd.alloc Non w4 _).trans hu5 fun k hk h => by omega
  have hB5 := Lib.hid (hB4.out.non hN5)
  have hy2 := hN5.heap hx2.out fun h => h
  have hy1 := hN5.heap hx1 fun h => h
  have hz5 := hN5.size
  have hs5' := hu5.size
  simp only [World.size_alloc] at hs5'
  clear hB4 hx2 hx1 hx0 hu5 c0 f0
  obtain ⟨c0, f0⟩ := cells_of hy1
  obtain ⟨c1, f1⟩ := cells_of hx5
  have hN5w : Hid (Upd Non w w5) := Lib.hid (hN4.out.trans hN5 fun _ _ h => h)
  clear hN5 hN4
  go_wp2_with fail
  obtain ⟨c8, w8, hr8, hm8⟩ := run_tobytes (P := Try.prog) w5.drew 9 30 5 Try.underlying9 Try.underlying30 Try.underlying5 s hsl.out
  have hu8 : Upd Non w5 w8 := (Upd.drew Non w5).trans hm8.upd fun _ _ h => h
  have hX8 := hu8.heap hx5 fun h => h
  have hA8 := hu8.heap hy1 fun h => h
  have hT8 := hu8.heap hy2 fun h => h
  have hv8 := Lib.hid hm8.bytes
  have hz8 : w5.drew.heap.size = w5.heap.size := rfl
  clear hm8
  refine wp_region_held_drew (S := fun w' => w'.heap[w4.heap.size]? = some (.cells #[.int .i64 m9, .slice ka9 kn9 kc9, .slice pa9 pn9 pc9, .int .i64 f9, .bool dd9] 48 (0, 0)) ∧ w'.heap[w.heap.size + 1]? = some (.cells #[.int .i64 kind, .int .i64 i, .string ⟨s.toArray⟩, .slice va q vc] 34 (0, 0))) (by kernel_rfl) (by exact ⟨hx5, hy1⟩) (fun hHeld => ?_)
  (refine wpAnyH_take (i := 0) (oi := ?oi_61) (v := ?v_61) ?ho_61 ?hs_61 ?hf_61 ?hr_61 ?hQ_61 ?hy_61 ?hS_61 ?rest_61; (case hr_61 => kernel_rfl); (case hf_61 => kernel_rfl); (case hs_61 => kernel_rfl); (case ho_61 => (simp only [List.getElem?_toArray, List.getElem?_cons_succ, List.getElem?_cons_zero]; rfl)); (case hS_61 => assumption); (case hQ_61 => exact fun _ _ _ h => h); (case hy_61 => (refine Or.inl ⟨by rfl, ?_⟩; (intro w hSw; obtain ⟨s0, s1⟩ := hSw; obtain ⟨e0, g0⟩ := cells_of s0; obtain ⟨e1, g1⟩ := cells_of s1; go_simp) <;> with_reducible rfl)); (try simp only [Act.put, List.setIfInBounds_toArray, List.set_cons_zero, List.set_cons_succ]))
  (refine wpAnyH_take (i := 1) (oi := ?oi_62) (v := ?v_62) ?ho_62 ?hs_62 ?hf_62 ?hr_62 ?hQ_62 ?hy_62 ?hS_62 ?rest_62; (case hr_62 => kernel_rfl); (case hf_62 => kernel_rfl); (case hs_62 => kernel_rfl); (case ho_62 => (simp only [List.getElem?_toArray, List.getElem?_cons_succ, List.getElem?_cons_zero]; rfl)); (case hS_62 => assumption); (case hQ_62 => exact fun _ _ _ h => h); (case hy_62 => (refine Or.inl ⟨by rfl, ?_⟩; (intro w hSw; obtain ⟨s0, s1⟩ := hSw; obtain ⟨e0, g0⟩ := cells_of s0; obtain ⟨e1, g1⟩ := cells_of s1; go_simp) <;> with_reducible rfl)); (try simp only [Act.put, List.setIfInBounds_toArray, List.set_cons_zero, List.set_cons_succ]))
  (refine wpAnyH_take (i := 2) (oi := ?oi_63) (v := ?v_63) ?ho_63 ?hs_63 ?hf_63 ?hr_63 ?hQ_63 ?hy_63 ?hS_63 ?rest_63; (case hr_63 => kernel_rfl); (case hf_63 => kernel_rfl); (case hs_63 => kernel_rfl); (case ho_63 => (simp only [List.getElem?_toArray, List.getElem?_cons_succ, List.getElem?_cons_zero]; rfl)); (case hS_63 => assumption); (case hQ_63 => exact fun _ _ _ h => h); (case hy_63 => (refine Or.inl ⟨by rfl, ?_⟩; (intro w hSw; obtain ⟨s0, s1⟩ := hSw; obtain ⟨e0, g0⟩ := cells_of s0; obtain ⟨e1, g1⟩ := cells_of s1; go_simp) <;> with_reducible rfl)); (try simp only [Act.put, List.setIfInBounds_toArray, List.set_cons_zero, List.set_cons_succ]))
  (refine wpAnyH_take (i := 3) (oi := ?oi_64) (v := ?v_64) ?ho_64 ?hs_64 ?hf_64 ?hr_64 ?hQ_64 ?hy_64 ?hS_64 ?rest_64; (case hr_64 => kernel_rfl); (case hf_64 => kernel_rfl); (case hs_64 => kernel_rfl); (case ho_64 => (simp only [List.getElem?_toArray, List.getElem?_cons_succ, List.getElem?_cons_zero]; rfl)); (case hS_64 => assumption); (case hQ_64 => exact fun _ _ _ h => h); (case hy_64 => (refine Or.inl ⟨by rfl, ?_⟩; (intro w hSw; obtain ⟨s0, s1⟩ := hSw; obtain ⟨e0, g0⟩ := cells_of s0; obtain ⟨e1, g1⟩ := cells_of s1; go_simp) <;> with_reducible rfl)); (try simp only [Act.put, List.setIfInBounds_toArray, List.set_cons_zero, List.set_cons_succ]))
  (refine wpAnyH_take (i := 4) (oi := ?oi_65) (v := ?v_65) ?ho_65 ?hs_65 ?hf_65 ?hr_65 ?hQ_65 ?hy_65 ?hS_65 ?rest_65; (case hr_65 => kernel_rfl); (case hf_65 => kernel_rfl); (case hs_65 => kernel_rfl); (case ho_65 => (simp only [List.getElem?_toArray, List.getElem?_cons_succ, List.getElem?_cons_zero]; rfl)); (case hS_65 => assumption); (case hQ_65 => exact fun _ _ _ h => h); (case hy_65 => (refine Or.inl ⟨by rfl, ?_⟩; (intro w hSw; obtain ⟨s0, s1⟩ := hSw; obtain ⟨e0, g0⟩ := cells_of s0; obtain ⟨e1, g1⟩ := cells_of s1; go_simp) <;> with_reducible rfl)); (try simp only [Act.put, List.setIfInBounds_toArray, List.set_cons_zero, List.set_cons_succ]))
  (refine wpAnyH_take (i := 5) (oi := ?oi_66) (v := ?v_66) ?ho_66 ?hs_66 ?hf_66 ?hr_66 ?hQ_66 ?hy_66 ?hS_66 ?rest_66; (case hr_66 => kernel_rfl); (case hf_66 => kernel_rfl); (case hs_66 => kernel_rfl); (case ho_66 => (simp only [List.getElem?_toArray, List.getElem?_cons_succ, List.getElem?_cons_zero]; rfl)); (case hS_66 => assumption); (case hQ_66 => exact fun _ _ _ h => h); (case hy_66 => (refine Or.inl ⟨by rfl, ?_⟩; (intro w hSw; obtain ⟨s0, s1⟩ := hSw; obtain ⟨e0, g0⟩ := cells_of s0; obtain ⟨e1, g1⟩ := cells_of s1; go_simp) <;> with_reducible rfl)); (try simp only [Act.put, List.setIfInBounds_toArray, List.set_cons_zero, List.set_cons_succ]))
  (refine wpAnyH_take (i := 6) (oi := ?oi_67) (v := ?v_67) ?ho_67 ?hs_67 ?hf_67 ?hr_67 ?hQ_67 ?hy_67 ?hS_67 ?rest_67; (case hr_67 => kernel_rfl); (case hf_67 => kernel_rfl); (case hs_67 => kernel_rfl); (case ho_67 => (simp only [List.getElem?_toArray, List.getElem?_cons_succ, List.getElem?_cons_zero]; rfl)); (case hS_67 => assumption); (case hQ_67 => exact fun _ _ _ h => h); (case hy_67 => (refine Or.inl ⟨by rfl, ?_⟩; (intro w hSw; obtain ⟨s0, s1⟩ := hSw; obtain ⟨e0, g0⟩ := cells_of s0; obtain ⟨e1, g1⟩ := cells_of s1; go_simp) <;> with_reducible rfl)); (try simp only [Act.put, List.setIfInBounds_toArray, List.set_cons_zero, List.set_cons_succ]))
  (refine wpAnyH_take (i := 9) (oi := ?oi_68) (v := ?v_68) ?ho_68 ?hs_68 ?hf_68 ?hr_68 ?hQ_68 ?hy_68 ?hS_68 ?rest_68; (case hr_68 => kernel_rfl); (case hf_68 => kernel_rfl); (case hs_68 => kernel_rfl); (case ho_68 => (simp only [List.getElem?_toArray, List.getElem?_cons_succ, List.getElem?_cons_zero]; rfl)); (case hS_68 => assumption); (case hQ_68 => exact fun _ _ _ h => h); (case hy_68 => (refine Or.inl ⟨by rfl, ?_⟩; (intro w hSw; obtain ⟨s0, s1⟩ := hSw; obtain ⟨e0, g0⟩ := cells_of s0; obtain ⟨e1, g1⟩ := cells_of s1; go_simp) <;> with_reducible rfl)); (try simp only [Act.put, List.setIfInBounds_toArray, List.set_cons_zero, List.set_cons_succ]))
  refine wpAnyH_ready (rs := [7]) (by kernel_rfl) (by simp) ?_
  refine (AllReadyH.cons (o := ?oo69_0) ?ho69_0 ?hs69_0 AllReadyH.nil)
  case ho69_0 => (simp only [List.getElem?_toArray, List.getElem?_cons_succ, List.getElem?_cons_zero]; rfl)
  case hs69_0 =>
    intro K hK
    go_simp
    try go_wp2_with fail
    refine hK.out _ _ (by exact ⟨hX8, hA8⟩) (fun hHeld => ?_)
    clear hK K
    try simp only [Act.put, List.setIfInBounds_toArray, List.set_cons_zero, List.set_cons_succ]
    refine wpAnyH_ready (rs := [8]) (by kernel_rfl) (by simp) ?_
    refine (AllReadyH.cons (o := ?oo610_0) ?ho610_0 ?hs610_0 AllReadyH.nil)
    case ho610_0 => (simp only [List.getElem?_toArray, List.getElem?_cons_succ, List.getElem?_cons_zero]; rfl)
    case hs610_0 =>
      intro K hK
      go_simp
      go_at_call 10
      refine (cD.out _ _ _ _ _ (hB5.out.non hu8) _ hv8.out (fun k hk hF => by have := hlt.out _ hF; have := at_of hk; omega)).mono ?_
      rintro en w6 ⟨rfl, F6, hB6, hu6⟩
      have hT6 := hu6.heap hT8 (fun h => by have := hlt.out _ h; omega)
      have hA6 := hu6.heap hA8 (fun h => by have := hlt.out _ h; omega)
      have hX6 := hu6.heap hX8 (fun h => by have := hlt.out _ h; omega)
      try go_wp2_with fail
      refine hK.out _ _ (by exact ⟨hX6, hA6⟩) (fun hHeld => ?_)
      clear hK K
      try simp only [Act.put, List.setIfInBounds_toArray, List.set_cons_zero, List.set_cons_succ]
      (refine wpAnyH_take (i := 10) (oi := ?oi_611) (v := ?v_611) ?ho_611 ?hs_611 ?hf_611 ?hr_611 ?hQ_611 ?hy_611 ?hS_611 ?rest_611; (case hr_611 => kernel_rfl); (case hf_611 => kernel_rfl); (case hs_611 => kernel_rfl); (case ho_611 => (simp only [List.getElem?_toArray, List.getElem?_cons_succ, List.getElem?_cons_zero]; rfl)); (case hS_611 => assumption); (case hQ_611 => exact fun _ _ _ h => h); (case hy_611 => (refine Or.inl ⟨by rfl, ?_⟩; (intro w hSw; obtain ⟨s0, s1⟩ := hSw; obtain ⟨e0, g0⟩ := cells_of s0; obtain ⟨e1, g1⟩ := cells_of s1; go_simp) <;> with_reducible rfl)); (try simp only [Act.put, List.setIfInBounds_toArray, List.set_cons_zero, List.set_cons_succ]))
      (refine wpAnyH_take (i := 11) (oi := ?oi_612) (v := ?v_612) ?ho_612 ?hs_612 ?hf_612 ?hr_612 ?hQ_612 ?hy_612 ?hS_612 ?rest_612; (case hr_612 => kernel_rfl); (case hf_612 => kernel_rfl); (case hs_612 => kernel_rfl); (case ho_612 => (simp only [List.getElem?_toArray, List.getElem?_cons_succ, List.getElem?_cons_zero]; rfl)); (case hS_612 => assumption); (case hQ_612 => exact fun _ _ _ h => h); (case hy_612 => (refine Or.inl ⟨by rfl, ?_⟩; (intro w hSw; obtain ⟨s0, s1⟩ := hSw; obtain ⟨e0, g0⟩ := cells_of s0; obtain ⟨e1, g1⟩ := cells_of s1; go_simp) <;> with_reducible rfl)); (try simp only [Act.put, List.setIfInBounds_toArray, List.set_cons_zero, List.set_cons_succ]))
      refine wpAnyH_ready (rs := [12]) (by kernel_rfl) (by simp) ?_
      refine (AllReadyH.cons (o := ?oo613_0) ?ho613_0 ?hs613_0 AllReadyH.nil)
      case ho613_0 => (simp only [List.getElem?_toArray, List.getElem?_cons_succ, List.getElem?_cons_zero]; rfl)
      case hs613_0 =>
        intro K hK
        refine step_store_blk rfl 48 _ _ rfl (w.heap.size + 1 + 1) #[.int .i64 m9, .slice ka9 kn9 kc9, .slice pa9 pn9 pc9, .int .i64 f9, .bool dd9] _ _ rfl rfl hT6 rfl hs5.out (by simp [Value.oneCell']) ?_
        intro w7 hT7 hu7
        have hX7 := hu7.heap hX6 (fun h => by omega)
        have hA7 := hu7.heap hA6 (fun h => by omega)
        try go_wp2_with fail
        refine hK.out _ _ (by exact ⟨hX7, hA7⟩) (fun hHeld => ?_)
        clear hK K
        try simp only [Act.put, List.setIfInBounds_toArray, List.set_cons_zero, List.set_cons_succ]
        (refine wpAnyH_take (i := 13) (oi := ?oi_614) (v := ?v_614) ?ho_614 ?hs_614 ?hf_614 ?hr_614 ?hQ_614 ?hy_614 ?hS_614 ?rest_614; (case hr_614 => kernel_rfl); (case hf_614 => kernel_rfl); (case hs_614 => kernel_rfl); (case ho_614 => (simp only [List.getElem?_toArray, List.getElem?_cons_succ, List.getElem?_cons_zero]; rfl)); (case hS_614 => assumption); (case hQ_614 => exact fun _ _ _ h => h); (case hy_614 => (refine Or.inl ⟨by rfl, ?_⟩; (intro w hSw; obtain ⟨s0, s1⟩ := hSw; obtain ⟨e0, g0⟩ := cells_of s0; obtain ⟨e1, g1⟩ := cells_of s1; go_simp) <;> with_reducible rfl)); (try simp only [Act.put, List.setIfInBounds_toArray, List.set_cons_zero, List.set_cons_succ]))
        refine wpAnyH_done (by kernel_rfl) ?_ _
        have hUF : Upd F w w7 := ((hN5w.out.trans hu8 fun _ _ h => h).non.trans hu6 fun k _ h => h).trans hu7 fun k hk h => by omega
        have hB7 := (hB6.upd hu7 (fun k hk => by subst hk; exact hb2.out)).sub (B' := B) (fun k hk => .inl hk)
        obtain ⟨c1, f1⟩ := cells_of hT7
        clear hu7 hB6 hu6 hHeld
        go_wp2_with fail
        refine bodyPost_ret (v := .tuple #[.pointer (some ⟨D, 0, none⟩), .agg #[.int .i64 m9, .slice ka9 kn9 kc9, .slice pa9 pn9 pc9, .int .i64 f9, .bool dd9], .bool true]) (by simp [results, Try.results20, go_sem, c1]; try rfl) rfl ⟨D, F6, _, _, _, _, by rw [hrf.out], hB7, hS.out.1, hS.out.2.1, hS.out.2.2, hUF⟩
end Go.Proofs.Ytgkiglodhhlnmaa
