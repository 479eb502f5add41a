/- step: Read. -/
import Derived.Test.YtgkiglodhhlnmaaBmH
import Derived.Test.YtgkiglodhhlnmaaLibB
import Derived.Lib.SliceRun
namespace Go.Proofs.Ytgkiglodhhlnmaa
open Go.RowKit Go.Amb Go.Shelf
set_option linter.unusedVariables false
set_option linter.unusedSimpArgs false
set_option maxRecDepth 100000
set_option maxHeartbeats 4000000 in
theorem stepRead {B : Nat → Prop} {w0 w : World} {D : Nat} {F : Nat → Prop} {d r : Dk} {kv pv : Value} (h : Bth B w0 w D F d r kv pv) (hs : Same d r) (hP : d.P.length ≤ 1000000) (i : Int) (s : List UInt8) (va : Option Addr) (q vc : Nat) :
    Calls Try.prog 20 #[.pointer (some ⟨D, 0, none⟩), rfv r kv pv, .agg #[.int .i64 4, .int .i64 i, .string ⟨s.toArray⟩, .slice va q vc]] w (Stp B w0 w F d) := by
  have hok := h.lv.at_.ok
  have e1 : r.P.length = d.P.length := by rw [hs.p]
  have e2 : r.K.length = d.K.length := by rw [hs.k, List.length_map]
  have e3 := hok.n1
  have e4 := hok.n2
  have e5 : -1 ≤ r.f := by rw [← hs.f]; exact hok.f1
  have e6 : r.f < 9223372036854775808 := by rw [← hs.f]; exact hok.f2
  have hPl : Hid (d.P.length ≤ d.P.length + 1) := Lib.hid (Nat.le_succ _)
  have hB := Lib.hid h
  have cR : Hid (∀ (w' : World), Upd Non w w' → Calls Try.prog 22 #[rfv r kv pv, .int .i64 i] w' (Ret (.tuple #[.string ⟨(d.reads i).toArray⟩, .int .i64 (d.within i)]) w')) :=
    Lib.hid (fun w' hu => by
      have := refRead r kv pv w' (h.rat.non hu) hs.l (by omega) (by omega) i
      rw [← hs.reads, ← hs.within] at this
      exact this)
  have cD : Hid (∀ (w' : World) (B' : Nat → Prop), Bth B' w0 w' D F d r kv pv → Calls Try.prog 14 #[.pointer (some ⟨D, 0, none⟩), .int .i64 i] w' (fun en w9 => ∃ v, en = .returned (.tuple #[v, .int .i64 (d.within i)]) ∧ Bytes w9 v (d.reads i) ∧ Bth B' w0 w9 D F d r kv pv ∧ Upd Non w' w9 ∧ ∀ k, At v k → w'.heap.size ≤ k)) :=
    Lib.hid (fun w' B' hB => (lReadAll hB.lv.at_ hP i).mono fun en w9 ⟨v, he, hA, hu, hn⟩ => ⟨v, he, hA, hB.non hu, hu, fun k hk => (hn k hk).1⟩)
  have hS : Hid (Same d r ∧ d.P.length ≤ d.P.length + 1) := Lib.hid ⟨hs, Nat.le_succ _⟩
  obtain ⟨t, ht⟩ : ∃ t, d.reads i = t := ⟨_, rfl⟩
  obtain ⟨e, he⟩ : ∃ e, d.within i = e := ⟨_, rfl⟩
  simp only [ht, he] at cR cD
  clear ht he
  have hs5 := Lib.hid size_disk5
  have hlt : Hid (∀ k, F k → k < w.heap.size) := Lib.hid h.lv.at_.lt
  obtain ⟨m, ka, kn, kc, pa, pn, pc, f, dd, hlit⟩ := rfv_lit h.rat
  try rw [hlit] at cR
  rw [hlit]
  replace hlit := Lib.hid hlit
  clear e1 e2 e3 e4 e5 e6 hok hs hP h hPl
  go_enter Try.func20, Try.ntmps20
  go_wp2_with fail
  obtain ⟨w5, hw5⟩ : ∃ w5 : World, w5 = (((w.alloc (.cells #[.int .i64 m, .slice ka kn kc, .slice pa pn pc, .int .i64 f, .bool dd] 48)).alloc (.cells #[.int .i64 4, .int .i64 i, .string ⟨s.toArray⟩, .slice va q vc] 34)).alloc (.cells #[.int .i64 0, .slice none 0 0, .slice none 0 0, .int .i64 0, .bool false] 48)) := ⟨_, rfl⟩
  rw [← hw5]
  have hu5 : Upd Non (((w.alloc (.cells #[.int .i64 m, .slice ka kn kc, .slice pa pn pc, .int .i64 f, .bool dd] 48)).alloc (.cells #[.int .i64 4, .int .i64 i, .string ⟨s.toArray⟩, .slice va q vc] 34)).alloc (.cells #[.int .i64 0, .slice none 0 0, .slice none 0 0, .int .i64 0, .bool false] 48)) w5 := by rw [hw5]; exact Upd.refl _ _
  obtain ⟨hx0, hx1, hx2, hz⟩ := upd_three hu5 (fun _ h => h.elim)
  have hN5 : Upd Non w w5 := (((Upd.alloc Non w _).then_alloc _).then_alloc _).trans hu5 fun _ _ h => h
  have hb2 : Hid (B (w.heap.size + 1 + 1) ∨ (w.heap.size ≤ w.heap.size + 1 + 1 ∧ w.heap.size + 1 + 1 < w5.heap.size)) := Lib.hid (.inr ⟨by omega, by omega⟩)
  have hB5 := Lib.hid (hB.out.grow hN5)
  clear hu5 hw5 hB
  refine (cR.out w5 hN5).mono ?_
  rintro en w6 ⟨rfl, hu6⟩
  have y0 := hu6.heap hx0 fun h => h
  have y1 := hu6.heap hx1 fun h => h
  have y2 := hu6.heap hx2 fun h => h
  have hN6 := hN5.trans hu6 fun _ _ h => h
  have hz6 := hu6.size
  have hB6 := Lib.hid (hB5.out.non hu6)
  clear hx0 hx1 hx2 hu6 cR hN5 hB5
  simp only []
  obtain ⟨c0, f0⟩ := cells_of y1
  go_wp2_with fail
  refine (cD.out _ _ hB6.out).mono ?_
  rintro en w7 ⟨v, rfl, hv, hB7, hu7, hg7⟩
  clear c0 f0
  replace y0 := hu7.heap y0 fun h => h
  replace y1 := hu7.heap y1 fun h => h
  replace y2 := hu7.heap y2 fun h => h
  have hUw : Upd F w w7.drew := ((hN6.trans hu7 fun _ _ h => h).then_drew).non
  have y2d : w7.drew.heap[w.heap.size + 1 + 1]? = _ := y2
  have hvd := hv.upd (Upd.drew Non w7) (fun _ _ h => h)
  replace hB7 := Lib.hid (hB7.non (Upd.drew Non w7))
  clear hu7 hB6 cD hN6 hv
  simp only []
  go_wp2_with fail
  refine wp_region_held_drew (S := fun w' => w'.heap[w.heap.size]? = some (.cells #[.int .i64 m, .slice ka kn kc, .slice pa pn pc, .int .i64 f, .bool dd] 48 (0, 0)) ∧ Bytes w' v t) (by kernel_rfl) (by exact ⟨y0, hvd⟩) (fun hHeld => ?_)
  (refine wpAnyH_take (i := 0) (oi := ?oi_41) (v := ?v_41) ?ho_41 ?hs_41 ?hf_41 ?hr_41 ?hQ_41 ?hy_41 ?hS_41 ?rest_41; (case hr_41 => kernel_rfl); (case hf_41 => kernel_rfl); (case hs_41 => kernel_rfl); (case ho_41 => (simp only [List.getElem?_toArray, List.getElem?_cons_succ, List.getElem?_cons_zero]; rfl)); (case hS_41 => assumption); (case hQ_41 => exact fun _ _ _ h => h); (case hy_41 => (refine Or.inl ⟨by rfl, ?_⟩; (intro w hSw; obtain ⟨s0, s1⟩ := hSw; obtain ⟨e0, g0⟩ := cells_of s0; have hstr := run_str (P := Try.prog) _ 30 9 5 Try.underlying30 Try.underlying5 Try.underlying9 _ _ s1; go_simp) <;> with_reducible rfl)); (try simp only [Act.put, List.setIfInBounds_toArray, List.set_cons_zero, List.set_cons_succ]))
  (refine wpAnyH_take (i := 1) (oi := ?oi_42) (v := ?v_42) ?ho_42 ?hs_42 ?hf_42 ?hr_42 ?hQ_42 ?hy_42 ?hS_42 ?rest_42; (case hr_42 => kernel_rfl); (case hf_42 => kernel_rfl); (case hs_42 => kernel_rfl); (case ho_42 => (simp only [List.getElem?_toArray, List.getElem?_cons_succ, List.getElem?_cons_zero]; rfl)); (case hS_42 => assumption); (case hQ_42 => exact fun _ _ _ h => h); (case hy_42 => (refine Or.inl ⟨by rfl, ?_⟩; (intro w hSw; obtain ⟨s0, s1⟩ := hSw; obtain ⟨e0, g0⟩ := cells_of s0; have hstr := run_str (P := Try.prog) _ 30 9 5 Try.underlying30 Try.underlying5 Try.underlying9 _ _ s1; go_simp) <;> with_reducible rfl)); (try simp only [Act.put, List.setIfInBounds_toArray, List.set_cons_zero, List.set_cons_succ]))
  (refine wpAnyH_take (i := 2) (oi := ?oi_43) (v := ?v_43) ?ho_43 ?hs_43 ?hf_43 ?hr_43 ?hQ_43 ?hy_43 ?hS_43 ?rest_43; (case hr_43 => kernel_rfl); (case hf_43 => kernel_rfl); (case hs_43 => kernel_rfl); (case ho_43 => (simp only [List.getElem?_toArray, List.getElem?_cons_succ, List.getElem?_cons_zero]; rfl)); (case hS_43 => assumption); (case hQ_43 => exact fun _ _ _ h => h); (case hy_43 => (refine Or.inl ⟨by rfl, ?_⟩; (intro w hSw; obtain ⟨s0, s1⟩ := hSw; obtain ⟨e0, g0⟩ := cells_of s0; have hstr := run_str (P := Try.prog) _ 30 9 5 Try.underlying30 Try.underlying5 Try.underlying9 _ _ s1; go_simp) <;> with_reducible rfl)); (try simp only [Act.put, List.setIfInBounds_toArray, List.set_cons_zero, List.set_cons_succ]))
  (refine wpAnyH_take (i := 3) (oi := ?oi_44) (v := ?v_44) ?ho_44 ?hs_44 ?hf_44 ?hr_44 ?hQ_44 ?hy_44 ?hS_44 ?rest_44; (case hr_44 => kernel_rfl); (case hf_44 => kernel_rfl); (case hs_44 => kernel_rfl); (case ho_44 => (simp only [List.getElem?_toArray, List.getElem?_cons_succ, List.getElem?_cons_zero]; rfl)); (case hS_44 => assumption); (case hQ_44 => exact fun _ _ _ h => h); (case hy_44 => (refine Or.inl ⟨by rfl, ?_⟩; (intro w hSw; obtain ⟨s0, s1⟩ := hSw; obtain ⟨e0, g0⟩ := cells_of s0; have hstr := run_str (P := Try.prog) _ 30 9 5 Try.underlying30 Try.underlying5 Try.underlying9 _ _ s1; go_simp) <;> with_reducible rfl)); (try simp only [Act.put, List.setIfInBounds_toArray, List.set_cons_zero, List.set_cons_succ]))
  (refine wpAnyH_take (i := 4) (oi := ?oi_45) (v := ?v_45) ?ho_45 ?hs_45 ?hf_45 ?hr_45 ?hQ_45 ?hy_45 ?hS_45 ?rest_45; (case hr_45 => kernel_rfl); (case hf_45 => kernel_rfl); (case hs_45 => kernel_rfl); (case ho_45 => (simp only [List.getElem?_toArray, List.getElem?_cons_succ, List.getElem?_cons_zero]; rfl)); (case hS_45 => assumption); (case hQ_45 => exact fun _ _ _ h => h); (case hy_45 => (refine Or.inl ⟨by rfl, ?_⟩; (intro w hSw; obtain ⟨s0, s1⟩ := hSw; obtain ⟨e0, g0⟩ := cells_of s0; have hstr := run_str (P := Try.prog) _ 30 9 5 Try.underlying30 Try.underlying5 Try.underlying9 _ _ s1; go_simp) <;> with_reducible rfl)); (try simp only [Act.put, List.setIfInBounds_toArray, List.set_cons_zero, List.set_cons_succ]))
  (refine wpAnyH_take (i := 5) (oi := ?oi_46) (v := ?v_46) ?ho_46 ?hs_46 ?hf_46 ?hr_46 ?hQ_46 ?hy_46 ?hS_46 ?rest_46; (case hr_46 => kernel_rfl); (case hf_46 => kernel_rfl); (case hs_46 => kernel_rfl); (case ho_46 => (simp only [List.getElem?_toArray, List.getElem?_cons_succ, List.getElem?_cons_zero]; rfl)); (case hS_46 => assumption); (case hQ_46 => exact fun _ _ _ h => h); (case hy_46 => (refine Or.inl ⟨by rfl, ?_⟩; (intro w hSw; obtain ⟨s0, s1⟩ := hSw; obtain ⟨e0, g0⟩ := cells_of s0; have hstr := run_str (P := Try.prog) _ 30 9 5 Try.underlying30 Try.underlying5 Try.underlying9 _ _ s1; go_simp) <;> with_reducible rfl)); (try simp only [Act.put, List.setIfInBounds_toArray, List.set_cons_zero, List.set_cons_succ]))
  (refine wpAnyH_take (i := 6) (oi := ?oi_47) (v := ?v_47) ?ho_47 ?hs_47 ?hf_47 ?hr_47 ?hQ_47 ?hy_47 ?hS_47 ?rest_47; (case hr_47 => kernel_rfl); (case hf_47 => kernel_rfl); (case hs_47 => kernel_rfl); (case ho_47 => (simp only [List.getElem?_toArray, List.getElem?_cons_succ, List.getElem?_cons_zero]; rfl)); (case hS_47 => assumption); (case hQ_47 => exact fun _ _ _ h => h); (case hy_47 => (refine Or.inl ⟨by rfl, ?_⟩; (intro w hSw; obtain ⟨s0, s1⟩ := hSw; obtain ⟨e0, g0⟩ := cells_of s0; have hstr := run_str (P := Try.prog) _ 30 9 5 Try.underlying30 Try.underlying5 Try.underlying9 _ _ s1; go_simp) <;> with_reducible rfl)); (try simp only [Act.put, List.setIfInBounds_toArray, List.set_cons_zero, List.set_cons_succ]))
  (refine wpAnyH_take (i := 7) (oi := ?oi_48) (v := ?v_48) ?ho_48 ?hs_48 ?hf_48 ?hr_48 ?hQ_48 ?hy_48 ?hS_48 ?rest_48; (case hr_48 => kernel_rfl); (case hf_48 => kernel_rfl); (case hs_48 => kernel_rfl); (case ho_48 => (simp only [List.getElem?_toArray, List.getElem?_cons_succ, List.getElem?_cons_zero]; rfl)); (case hS_48 => assumption); (case hQ_48 => exact fun _ _ _ h => h); (case hy_48 => (refine Or.inl ⟨by rfl, ?_⟩; (intro w hSw; obtain ⟨s0, s1⟩ := hSw; obtain ⟨e0, g0⟩ := cells_of s0; have hstr := run_str (P := Try.prog) _ 30 9 5 Try.underlying30 Try.underlying5 Try.underlying9 _ _ s1; go_simp) <;> with_reducible rfl)); (try simp only [Act.put, List.setIfInBounds_toArray, List.set_cons_zero, List.set_cons_succ]))
  (refine wpAnyH_take (i := 8) (oi := ?oi_49) (v := ?v_49) ?ho_49 ?hs_49 ?hf_49 ?hr_49 ?hQ_49 ?hy_49 ?hS_49 ?rest_49; (case hr_49 => kernel_rfl); (case hf_49 => kernel_rfl); (case hs_49 => kernel_rfl); (case ho_49 => (simp only [List.getElem?_toArray, List.getElem?_cons_succ, List.getElem?_cons_zero]; rfl)); (case hS_49 => assumption); (case hQ_49 => exact fun _ _ _ h => h); (case hy_49 => (refine Or.inl ⟨by rfl, ?_⟩; (intro w hSw; obtain ⟨s0, s1⟩ := hSw; obtain ⟨e0, g0⟩ := cells_of s0; have hstr := run_str (P := Try.prog) _ 30 9 5 Try.underlying30 Try.underlying5 Try.underlying9 _ _ s1; go_simp) <;> with_reducible rfl)); (try simp only [Act.put, List.setIfInBounds_toArray, List.set_cons_zero, List.set_cons_succ]))
  (refine wpAnyH_take (i := 9) (oi := ?oi_410) (v := ?v_410) ?ho_410 ?hs_410 ?hf_410 ?hr_410 ?hQ_410 ?hy_410 ?hS_410 ?rest_410; (case hr_410 => kernel_rfl); (case hf_410 => kernel_rfl); (case hs_410 => kernel_rfl); (case ho_410 => (simp only [List.getElem?_toArray, List.getElem?_cons_succ, List.getElem?_cons_zero]; rfl)); (case hS_410 => assumption); (case hQ_410 => exact fun _ _ _ h => h); (case hy_410 => (refine Or.inl ⟨by rfl, ?_⟩; (intro w hSw; obtain ⟨s0, s1⟩ := hSw; obtain ⟨e0, g0⟩ := cells_of s0; have hstr := run_str (P := Try.prog) _ 30 9 5 Try.underlying30 Try.underlying5 Try.underlying9 _ _ s1; go_simp) <;> with_reducible rfl)); (try simp only [Act.put, List.setIfInBounds_toArray, List.set_cons_zero, List.set_cons_succ]))
  (refine wpAnyH_take (i := 10) (oi := ?oi_411) (v := ?v_411) ?ho_411 ?hs_411 ?hf_411 ?hr_411 ?hQ_411 ?hy_411 ?hS_411 ?rest_411; (case hr_411 => kernel_rfl); (case hf_411 => kernel_rfl); (case hs_411 => kernel_rfl); (case ho_411 => (simp only [List.getElem?_toArray, List.getElem?_cons_succ, List.getElem?_cons_zero]; rfl)); (case hS_411 => assumption); (case hQ_411 => exact fun _ _ _ h => h); (case hy_411 => (refine Or.inl ⟨by rfl, ?_⟩; (intro w hSw; obtain ⟨s0, s1⟩ := hSw; obtain ⟨e0, g0⟩ := cells_of s0; have hstr := run_str (P := Try.prog) _ 30 9 5 Try.underlying30 Try.underlying5 Try.underlying9 _ _ s1; go_simp) <;> with_reducible rfl)); (try simp only [Act.put, List.setIfInBounds_toArray, List.set_cons_zero, List.set_cons_succ]))
  (refine wpAnyH_take (i := 11) (oi := ?oi_412) (v := ?v_412) ?ho_412 ?hs_412 ?hf_412 ?hr_412 ?hQ_412 ?hy_412 ?hS_412 ?rest_412; (case hr_412 => kernel_rfl); (case hf_412 => kernel_rfl); (case hs_412 => kernel_rfl); (case ho_412 => (simp only [List.getElem?_toArray, List.getElem?_cons_succ, List.getElem?_cons_zero]; rfl)); (case hS_412 => assumption); (case hQ_412 => exact fun _ _ _ h => h); (case hy_412 => (refine Or.inl ⟨by rfl, ?_⟩; (intro w hSw; obtain ⟨s0, s1⟩ := hSw; obtain ⟨e0, g0⟩ := cells_of s0; have hstr := run_str (P := Try.prog) _ 30 9 5 Try.underlying30 Try.underlying5 Try.underlying9 _ _ s1; go_simp) <;> with_reducible rfl)); (try simp only [Act.put, List.setIfInBounds_toArray, List.set_cons_zero, List.set_cons_succ]))
  refine wpAnyH_ready (rs := [12]) (by kernel_rfl) (by simp) ?_
  refine (AllReadyH.cons (o := ?oo413_0) ?ho413_0 ?hs413_0 AllReadyH.nil)
  case ho413_0 => (simp only [List.getElem?_toArray, List.getElem?_cons_succ, List.getElem?_cons_zero]; rfl)
  case hs413_0 =>
    intro K hK
    refine step_store_blk rfl 48 _ _ rfl (w.heap.size + 1 + 1) #[.int .i64 m, .slice ka kn kc, .slice pa pn pc, .int .i64 f, .bool dd] _ _ rfl rfl y2d rfl hs5.out (by simp [Value.oneCell']) ?_
    intro w8 hT8 hu8
    try go_wp2_with fail
    refine hK.out _ _ (by exact ⟨hu8.heap y0 (fun h => by omega), hvd.upd hu8 (fun k hk h => by have := hg7 _ hk; omega)⟩) (fun hHeld => ?_)
    clear hK K
    try simp only [Act.put, List.setIfInBounds_toArray, List.set_cons_zero, List.set_cons_succ]
    (refine wpAnyH_take (i := 13) (oi := ?oi_414) (v := ?v_414) ?ho_414 ?hs_414 ?hf_414 ?hr_414 ?hQ_414 ?hy_414 ?hS_414 ?rest_414; (case hr_414 => kernel_rfl); (case hf_414 => kernel_rfl); (case hs_414 => kernel_rfl); (case ho_414 => (simp only [List.getElem?_toArray, List.getElem?_cons_succ, List.getElem?_cons_zero]; rfl)); (case hS_414 => assumption); (case hQ_414 => exact fun _ _ _ h => h); (case hy_414 => (refine Or.inl ⟨by rfl, ?_⟩; (intro w hSw; obtain ⟨s0, s1⟩ := hSw; obtain ⟨e0, g0⟩ := cells_of s0; have hstr := run_str (P := Try.prog) _ 30 9 5 Try.underlying30 Try.underlying5 Try.underlying9 _ _ s1; go_simp) <;> with_reducible rfl)); (try simp only [Act.put, List.setIfInBounds_toArray, List.set_cons_zero, List.set_cons_succ]))
    refine wpAnyH_done (by kernel_rfl) ?_ _
    have hUF : Upd F w w8 := hUw.trans hu8 fun k hk h => by omega
    have hB8 := (hB7.out.upd hu8 (fun k hk => by subst hk; exact hb2.out)).sub (B' := B) (fun k hk => .inl hk)
    obtain ⟨c1, f1⟩ := cells_of hT8
    clear hu8 hB7
    go_wp2_with fail
    refine bodyPost_ret (v := .tuple #[.pointer (some ⟨D, 0, none⟩), .agg #[.int .i64 m, .slice ka kn kc, .slice pa pn pc, .int .i64 f, .bool dd], .bool true]) (by simp [results, Try.results20, go_sem, c1]; try rfl) rfl ⟨D, F, _, _, _, _, by rw [hlit.out], hB8, hS.out.1, hS.out.2, rfl, hUF⟩
end Go.Proofs.Ytgkiglodhhlnmaa
