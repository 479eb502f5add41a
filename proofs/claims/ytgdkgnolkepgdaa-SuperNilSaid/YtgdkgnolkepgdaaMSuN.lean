/- super.look, Find, Save of no disk. -/
import Derived.Test.YtgdkgnolkepgdaaMSuL
import Derived.Test.YtgdkgnolkepgdaaMBlO
namespace Go.Proofs.Ytgdkgnolkepgdaa
set_option maxRecDepth 100000
open Go.RowKit Go.Amb Go.Shelf
set_option linter.unusedVariables false
set_option linter.unusedSimpArgs false
attribute [local go_sem ↓] Go.wp_at_zero Go.wp_at_succ
theorem nLook {w : World} {v : Value} (h : NoDisk w v) (i : Int) : Calls Try.prog 48 #[v, .int .i64 i] w (Ret (.tuple #[.agg #[.int .i64 0, .int .i64 0, .int .i64 0, .int .i64 0, .int .i64 0, .int .i64 0, .int .i64 0, .bool false], .int .i64 1]) w) := by
  have hrd := Lib.hid (fun w' (hu : Upd Non w w') => nRead (h.non hu) i)
  go_enter Try.func48, Try.ntmps48
  go_wp2_with fail
  refine (hrd.out _ ((Upd.refl Non w).then_alloc _)).mono ?_
  rintro en w1 ⟨rfl, hu⟩
  have hX : Upd Non (w.alloc (.cells #[.int .i64 0, .int .i64 0, .int .i64 0, .int .i64 0, .int .i64 0, .int .i64 0, .int .i64 0, .bool false] 92)) w1 := hu
  clear hu
  have hbA := hX.heap (heap_alloc_new w _) fun h => h
  have hU := (hX.own1 (fun _ h => h.elim)).2.2.2
  clear hX
  go_wp2_with ((with_reducible (show wpList _ _ _ (⟨_, Op.store _ _ _, _, _, _, _⟩ :: _) _ _)); refine storeB_list rfl 92 _ _ rfl w.heap.size #[.int .i64 0, .int .i64 0, .int .i64 0, .int .i64 0, .int .i64 0, .int .i64 0, .int .i64 0, .bool false] _ _ rfl rfl hbA rfl size_fd.out (by simp [Value.oneCell']) ?_)
  intro w18 hb18 hu18
  obtain ⟨x0, x1, x2, x3, x4, x5, x6, x7⟩ := cells8 hb18
  have hU18 := hU.trans hu18 (fun k hk e => by (have : k = w.heap.size := e); omega)
  go_wp2_with fail
  refine bodyPost_ret (v := .tuple #[.agg #[.int .i64 0, .int .i64 0, .int .i64 0, .int .i64 0, .int .i64 0, .int .i64 0, .int .i64 0, .bool false], .int .i64 1]) (by simp [results, Try.results48, go_sem, x0, x1, x2, x3, x4, x5, x6, x7]; try rfl) rfl ⟨rfl, hU18⟩
set_option maxHeartbeats 1000000 in
theorem nFind {w : World} {v : Value} (h : NoDisk w v) : Calls Try.prog 21 #[v] w (Ret (.tuple #[.agg #[.int .i64 0, .int .i64 0, .int .i64 0, .int .i64 0, .int .i64 0, .int .i64 0], .int .i64 0, .int .i64 1]) w) := by
  have hlk := Lib.hid (fun w' (hu : Upd Non w w') i => nLook (h.non hu) i)
  clear h
  go_enter Try.func21, Try.ntmps21
  go_wp2_with fail
  have hbA0 := heap_alloc2_old w (.cells #[.int .i64 0, .int .i64 0, .int .i64 0, .int .i64 0, .int .i64 0, .int .i64 0] 23) (.cells #[.int .i64 0, .int .i64 0, .int .i64 0, .int .i64 0, .int .i64 0, .int .i64 0, .int .i64 0, .bool false] 92)
  have hU0 := ((Upd.refl Non w).then_alloc (.cells #[.int .i64 0, .int .i64 0, .int .i64 0, .int .i64 0, .int .i64 0, .int .i64 0] 23)).then_alloc (.cells #[.int .i64 0, .int .i64 0, .int .i64 0, .int .i64 0, .int .i64 0, .int .i64 0, .int .i64 0, .bool false] 92)
  go_loopw [9] (fun i wr => i = .int .i64 0 ∧ wr.heap[w.heap.size]? = some (.cells #[.int .i64 0, .int .i64 0, .int .i64 0, .int .i64 0, .int .i64 0, .int .i64 0] 23 (0, 0)) ∧ Upd Non w wr) (fun i _ => 2 - (intOf i).toNat)
  case atStart => exact ⟨rfl, hbA0, hU0⟩
  case round =>
    clear hbA0 hU0
    obtain ⟨rfl, hbA, hU⟩ := hrel
    go_wp2_with fail
    refine (hlk.out _ hU _).mono ?_
    rintro en w2 ⟨rfl, hu⟩
    replace hU := (hU.trans hu fun _ _ h => h).then_alloc (.cells #[.int .i64 0, .int .i64 0, .int .i64 0, .int .i64 0, .int .i64 0, .int .i64 0, .int .i64 0, .bool false] 92)
    replace hbA := (Upd.alloc Non w2 (.cells #[.int .i64 0, .int .i64 0, .int .i64 0, .int .i64 0, .int .i64 0, .int .i64 0, .int .i64 0, .bool false] 92)).heap (hu.heap hbA fun h => h) fun h => h
    clear hu hlk
    go_wp2_with ((with_reducible (show wpList _ _ _ (⟨_, Op.store _ _ _, _, _, _, _⟩ :: _) _ _)); refine storeB_list rfl 23 _ _ rfl w.heap.size #[.int .i64 0, .int .i64 0, .int .i64 0, .int .i64 0, .int .i64 0, .int .i64 0] _ _ rfl rfl hbA rfl size_sp.out (by simp [Value.oneCell']) ?_)
    intro w18 hb18 hu18
    obtain ⟨x0, x1, x2, x3, x4, x5⟩ := cells6 hb18
    have hU18 := hU.trans hu18 (fun k hk e => by (have : k = w.heap.size := e); omega)
    go_wp2_with fail
    refine bodyPost_ret (v := .tuple #[.agg #[.int .i64 0, .int .i64 0, .int .i64 0, .int .i64 0, .int .i64 0, .int .i64 0], .int .i64 0, .int .i64 1]) (by simp [results, Try.results21, go_sem, x0, x1, x2, x3, x4, x5]; try rfl) rfl ⟨rfl, hU18⟩
set_option maxHeartbeats 1000000 in
theorem nSave {w : World} {v : Value} (h : NoDisk w v) (s : Sp) : Calls Try.prog 19 #[v, spV s] w (Ret (.tuple #[.agg #[.int .i64 0, .int .i64 0, .int .i64 0, .int .i64 0, .int .i64 0, .int .i64 0], .int .i64 1]) w) := by
  have hfi := Lib.hid (fun w' (hu : Upd Non w w') => nFind (h.non hu))
  clear h
  obtain ⟨g, r, st, ep, la, ma⟩ := s
  unfold spV
  simp only
  go_enter Try.func19, Try.ntmps19
  go_wp2_with fail
  refine (hfi.out _ (((Upd.refl Non w).then_alloc _).then_alloc _)).mono ?_
  rintro en w1 ⟨rfl, hX⟩
  have hbA := (Upd.alloc Non w1 (.cells #[.int .i64 0, .int .i64 0, .int .i64 0, .int .i64 0, .int .i64 0, .int .i64 0] 23)).heap (hX.heap (heap_alloc2_new w (.cells #[.int .i64 g, .int .i64 r, .int .i64 st, .int .i64 ep, .int .i64 la, .int .i64 ma] 23) (.cells #[.int .i64 0, .int .i64 0, .int .i64 0, .int .i64 0, .int .i64 0, .int .i64 0] 23)) fun h => h) fun h => h
  have hU : Upd Non w (w1.alloc (.cells #[.int .i64 0, .int .i64 0, .int .i64 0, .int .i64 0, .int .i64 0, .int .i64 0] 23)) := ((((Upd.refl Non w).then_alloc _).then_alloc _).trans hX fun _ _ h => h).then_alloc _
  clear hX hfi
  go_wp2_with ((with_reducible (show wpList _ _ _ (⟨_, Op.store _ _ _, _, _, _, _⟩ :: _) _ _)); refine storeB_list rfl 23 _ _ rfl (w.heap.size + 1) #[.int .i64 0, .int .i64 0, .int .i64 0, .int .i64 0, .int .i64 0, .int .i64 0] _ _ rfl rfl hbA rfl size_sp.out (by simp [Value.oneCell']) ?_)
  intro w18 hb18 hu18
  obtain ⟨x0, x1, x2, x3, x4, x5⟩ := cells6 hb18
  have hU18 := hU.trans hu18 (fun k hk e => by (have : k = (w.heap.size + 1) := e); omega)
  go_wp2_with fail
  refine bodyPost_ret (v := .tuple #[.agg #[.int .i64 0, .int .i64 0, .int .i64 0, .int .i64 0, .int .i64 0, .int .i64 0], .int .i64 1]) (by simp [results, Try.results19, go_sem, x0, x1, x2, x3, x4, x5]; try rfl) rfl ⟨rfl, hU18⟩
end Go.Proofs.Ytgdkgnolkepgdaa
