/- The walk over ambryref11.Find. -/
import Derived.Test.YtgdkgnolkepgdaaMSuJ
import Derived.Test.YtgdkgnolkepgdaaMBmC
import Derived.Test.YtgdkgnolkepgdaaMSuK
namespace Go.Proofs.Ytgdkgnolkepgdaa
set_option maxRecDepth 100000
open Go.RowKit Go.Amb Go.Shelf
set_option linter.unusedVariables false
set_option linter.unusedSimpArgs false
attribute [local go_sem ↓] Go.wp_at_zero Go.wp_at_succ

theorem upd_three {S : Nat → Prop} {w w1 : World} {ca cb cc : Array Value} {ea eb ec : TypeId} (hu : Upd S (((w.alloc (.cells ca ea)).alloc (.cells cb eb)).alloc (.cells cc ec)) w1) (hS : ∀ k, S k → k < w.heap.size ∨ w.heap.size + 3 ≤ k) :
    w1.heap[w.heap.size]? = some (.cells ca ea (0, 0)) ∧ w1.heap[w.heap.size + 1]? = some (.cells cb eb (0, 0)) ∧ w1.heap[w.heap.size + 1 + 1]? = some (.cells cc ec (0, 0)) ∧ w.heap.size + 3 ≤ w1.heap.size := by
  have hs := hu.size
  simp at hs
  have h2 := heap_alloc_new ((w.alloc (.cells ca ea)).alloc (.cells cb eb)) (.cells cc ec)
  simp only [World.size_alloc] at h2
  have hA := Upd.alloc Non ((w.alloc (.cells ca ea)).alloc (.cells cb eb)) (.cells cc ec)
  exact ⟨hu.heap (hA.heap (heap_alloc2_old w (.cells ca ea) (.cells cb eb)) fun h => h) fun h => by have := hS _ h; omega, hu.heap (hA.heap (heap_alloc2_new w (.cells ca ea) (.cells cb eb)) fun h => h) fun h => by have := hS _ h; omega, hu.heap h2 fun h => by have := hS _ h; omega, by omega⟩
theorem rfv_lit {w : World} {r : Dk} {kv pv : Value} (h : RAt w r kv pv) : ∃ m ka kn kc pa pn pc f dd, rfv r kv pv = .agg #[.int .i64 m, .slice ka kn kc, .slice pa pn pc, .int .i64 f, .bool dd] := by
  obtain ⟨_, ka, kc, rfl, -⟩ := id h.k
  obtain ⟨_, pa, pcp, rfl, -⟩ := id h.p
  exact ⟨_, _, _, _, _, _, _, _, _, rfl⟩
/-- A call of the disk, beside the reference. -/
theorem Bth.call {B : Nat → Prop} {w0 w w' : World} {D : Nat} {F : Nat → Prop} {d d' r : Dk} {kv pv v : Value} {en : Ending} (h : Bth B w0 w D F d r kv pv) (hc : en = .returned v ∧ ∃ F', Lv w0 D w' F' d' ∧ Kp w F w' F') :
    en = .returned v ∧ ∃ F', Bth B w0 w' D F' d' r kv pv ∧ Upd F w w' := by
  obtain ⟨he, F', hL, hk⟩ := hc
  exact ⟨he, F', h.disk hL hk, hk.upd⟩
theorem find_both {d : Dk} (h0 : d.within 0 = 0) (h1 : d.within 1 = 0) {x y : Sp × Int} (hx : readR (d.reads 0) = x) (hy : readR (d.reads 1) = y) :
    findR d = if x.2 ≠ 0 ∧ y.2 ≠ 0 then (Sp.none, 0, 4) else if x.2 ≠ 0 ∨ (y.2 = 0 ∧ x.1.gen < y.1.gen) then (y.1, 1, 0) else (x.1, 0, 0) := by
  have e0 : d.reads 0 = d.has 0 := if_pos h0
  have e1 : d.reads 1 = d.has 1 := if_pos h1
  unfold findR
  rw [if_neg (by simp [h0]), if_neg (by simp [h1]), ← e0, ← e1, hx, hy]
set_option maxHeartbeats 4000000 in
theorem qFind {w : World} {d r : Dk} {kv pv : Value} (h : RAt w r kv pv) (hs : Same d r) (hok : d.Ok) (hP : d.P.length ≤ 1000000) :
    Calls Try.prog 27 #[rfv r kv pv] w (Ret (.tuple #[spV (findR d).1, .int .i64 (findR d).2.1, .int .i64 (findR d).2.2]) w) := by
  have hr : ∀ i w', Upd Non w w' → Calls Try.prog 53 #[rfv r kv pv, .int .i64 i] w' (Ret (.tuple #[.string ⟨(d.reads i).toArray⟩, .int .i64 (d.within i)]) w') := fun i w' hu => by
    have e2 : r.K.length = d.K.length := by rw [hs.k, List.length_map]
    have hn2 := hok.n2
    have := refRead r kv pv w' (h.non hu) hs.l (by rw [← hs.p]; exact hP) (by omega) i
    rw [← hs.reads, ← hs.within] at this
    exact this
  obtain ⟨m, ka, kn, kc, pa, pn, pc, f, dd, hlit⟩ := rfv_lit h
  rw [hlit] at hr ⊢
  have hr0 := Lib.hid (fun w' hu => hr 0 w' hu)
  have hr1 := Lib.hid (fun w' hu => hr 1 w' hu)
  have hq0 := Lib.hid (fun w' => qRead (d.reads 0) w' (by have := read_len hok 0; omega))
  have hq1 := Lib.hid (fun w' => qRead (d.reads 1) w' (by have := read_len hok 1; omega))
  clear hr hlit h hs hok hP
  by_cases h0 : d.within 0 = 0
  · by_cases h1 : d.within 1 = 0
    · have hff := find_both h0 h1 (x := readR (d.reads 0)) (y := readR (d.reads 1)) rfl rfl
      rw [h0] at hr0
      rw [h1] at hr1
      clear h0 h1
      generalize readR (d.reads 0) = x at *
      generalize readR (d.reads 1) = y at *
      generalize d.reads 0 = b0 at *
      generalize d.reads 1 = b1 at *
      obtain ⟨⟨xg, xr, xs, xe, xl, xm⟩, xc⟩ := x
      obtain ⟨⟨yg, yr, ys, ye, yl, ym⟩, yc⟩ := y
      unfold spV at hq0 hq1
      simp only at hq0 hq1 hff
      by_cases hx : xc = 0
      · subst hx
        by_cases hy : yc = 0
        · subst hy
          rw [if_neg (by decide)] at hff
          by_cases hg : xg < yg
          · rw [if_pos (.inr ⟨rfl, hg⟩)] at hff
            replace hff := Lib.hid hff
            go_enter Try.func27, Try.ntmps27
            go_wp2_with fail
            refine (hr0.out _ (((Upd.refl Non w).then_alloc _).then_alloc _)).mono ?_
            rintro en w1 ⟨rfl, hX⟩
            have hbA := hX.heap (heap_alloc2_new w (.cells #[.int .i64 m, .slice ka kn kc, .slice pa pn pc, .int .i64 f, .bool dd] 64) (.cells #[.int .i64 0, .int .i64 0, .int .i64 0, .int .i64 0, .int .i64 0, .int .i64 0] 23)) fun h => h
            have hbD := hX.heap (heap_alloc2_old w (.cells #[.int .i64 m, .slice ka kn kc, .slice pa pn pc, .int .i64 f, .bool dd] 64) (.cells #[.int .i64 0, .int .i64 0, .int .i64 0, .int .i64 0, .int .i64 0, .int .i64 0] 23)) fun h => h
            have hU : Upd Non w w1 := (((Upd.refl Non w).then_alloc _).then_alloc _).trans hX fun _ _ h => h
            clear hX hr0
            obtain ⟨c0, f0⟩ := cells_of hbD
            go_wp2_with fail
            refine (hr1.out _ hU).mono ?_
            rintro en w2 ⟨rfl, hu⟩
            replace hU := hU.trans hu fun _ _ h => h
            replace hbA := hu.heap hbA fun h => h
            clear hu hr1 hbD c0 f0
            go_wp2_with fail
            refine (hq0.out _).mono ?_
            rintro en w3 ⟨rfl, hu⟩
            replace hU := (hU.trans hu fun _ _ h => h).then_alloc (.cells #[.int .i64 xg, .int .i64 xr, .int .i64 xs, .int .i64 xe, .int .i64 xl, .int .i64 xm] 23)
            replace hbA := (Upd.alloc Non w3 (.cells #[.int .i64 xg, .int .i64 xr, .int .i64 xs, .int .i64 xe, .int .i64 xl, .int .i64 xm] 23)).heap (hu.heap hbA fun h => h) fun h => h
            have hbX := heap_alloc_new w3 (.cells #[.int .i64 xg, .int .i64 xr, .int .i64 xs, .int .i64 xe, .int .i64 xl, .int .i64 xm] 23)
            clear hu hq0
            go_wp2_with fail
            refine (hq1.out _).mono ?_
            rintro en w4 ⟨rfl, hu⟩
            replace hU := (hU.trans hu fun _ _ h => h).then_alloc (.cells #[.int .i64 yg, .int .i64 yr, .int .i64 ys, .int .i64 ye, .int .i64 yl, .int .i64 ym] 23)
            replace hbA := (Upd.alloc Non w4 (.cells #[.int .i64 yg, .int .i64 yr, .int .i64 ys, .int .i64 ye, .int .i64 yl, .int .i64 ym] 23)).heap (hu.heap hbA fun h => h) fun h => h
            replace hbX := (Upd.alloc Non w4 (.cells #[.int .i64 yg, .int .i64 yr, .int .i64 ys, .int .i64 ye, .int .i64 yl, .int .i64 ym] 23)).heap (hu.heap hbX fun h => h) fun h => h
            have hbY := heap_alloc_new w4 (.cells #[.int .i64 yg, .int .i64 yr, .int .i64 ys, .int .i64 ye, .int .i64 yl, .int .i64 ym] 23)
            clear hu hq1
            obtain ⟨p0, p1, p2, p3, p4, p5⟩ := cells6 hbX
            obtain ⟨q0, q1, q2, q3, q4, q5⟩ := cells6 hbY
            clear hbX hbY
            go_wp2_with ((with_reducible (show wpList _ _ _ (⟨_, Op.store _ _ _, _, _, _, _⟩ :: _) _ _)); refine storeB_list rfl 23 _ _ rfl (w.heap.size + 1) #[.int .i64 yg, .int .i64 yr, .int .i64 ys, .int .i64 ye, .int .i64 yl, .int .i64 ym] _ _ rfl rfl hbA rfl size_sp.out (by simp [Value.oneCell']) ?_)
            intro w18 hb18 hu18
            obtain ⟨x0, x1, x2, x3, x4, x5⟩ := cells6 hb18
            have hU18 := hU.trans hu18 (fun k hk e => by (have : k = w.heap.size + 1 := e); omega)
            go_wp2_with fail
            refine bodyPost_ret (v := .tuple #[.agg #[.int .i64 yg, .int .i64 yr, .int .i64 ys, .int .i64 ye, .int .i64 yl, .int .i64 ym], .int .i64 1, .int .i64 0]) (by simp [results, Try.results27, go_sem, x0, x1, x2, x3, x4, x5]; try rfl) rfl ⟨by rw [hff.out]; rfl, hU18⟩
          · rw [if_neg (by rintro (h | h); exact h rfl; exact hg h.2)] at hff
            replace hff := Lib.hid hff
            have hg2 : decide (xg < yg) = false := decide_eq_false hg
            go_enter Try.func27, Try.ntmps27
            go_wp2_with fail
            refine (hr0.out _ (((Upd.refl Non w).then_alloc _).then_alloc _)).mono ?_
            rintro en w1 ⟨rfl, hX⟩
            have hbA := hX.heap (heap_alloc2_new w (.cells #[.int .i64 m, .slice ka kn kc, .slice pa pn pc, .int .i64 f, .bool dd] 64) (.cells #[.int .i64 0, .int .i64 0, .int .i64 0, .int .i64 0, .int .i64 0, .int .i64 0] 23)) fun h => h
            have hbD := hX.heap (heap_alloc2_old w (.cells #[.int .i64 m, .slice ka kn kc, .slice pa pn pc, .int .i64 f, .bool dd] 64) (.cells #[.int .i64 0, .int .i64 0, .int .i64 0, .int .i64 0, .int .i64 0, .int .i64 0] 23)) fun h => h
            have hU : Upd Non w w1 := (((Upd.refl Non w).then_alloc _).then_alloc _).trans hX fun _ _ h => h
            clear hX hr0
            obtain ⟨c0, f0⟩ := cells_of hbD
            go_wp2_with fail
            refine (hr1.out _ hU).mono ?_
            rintro en w2 ⟨rfl, hu⟩
            replace hU := hU.trans hu fun _ _ h => h
            replace hbA := hu.heap hbA fun h => h
            clear hu hr1 hbD c0 f0
            go_wp2_with fail
            refine (hq0.out _).mono ?_
            rintro en w3 ⟨rfl, hu⟩
            replace hU := (hU.trans hu fun _ _ h => h).then_alloc (.cells #[.int .i64 xg, .int .i64 xr, .int .i64 xs, .int .i64 xe, .int .i64 xl, .int .i64 xm] 23)
            replace hbA := (Upd.alloc Non w3 (.cells #[.int .i64 xg, .int .i64 xr, .int .i64 xs, .int .i64 xe, .int .i64 xl, .int .i64 xm] 23)).heap (hu.heap hbA fun h => h) fun h => h
            have hbX := heap_alloc_new w3 (.cells #[.int .i64 xg, .int .i64 xr, .int .i64 xs, .int .i64 xe, .int .i64 xl, .int .i64 xm] 23)
            clear hu hq0
            go_wp2_with fail
            refine (hq1.out _).mono ?_
            rintro en w4 ⟨rfl, hu⟩
            replace hU := (hU.trans hu fun _ _ h => h).then_alloc (.cells #[.int .i64 yg, .int .i64 yr, .int .i64 ys, .int .i64 ye, .int .i64 yl, .int .i64 ym] 23)
            replace hbA := (Upd.alloc Non w4 (.cells #[.int .i64 yg, .int .i64 yr, .int .i64 ys, .int .i64 ye, .int .i64 yl, .int .i64 ym] 23)).heap (hu.heap hbA fun h => h) fun h => h
            replace hbX := (Upd.alloc Non w4 (.cells #[.int .i64 yg, .int .i64 yr, .int .i64 ys, .int .i64 ye, .int .i64 yl, .int .i64 ym] 23)).heap (hu.heap hbX fun h => h) fun h => h
            have hbY := heap_alloc_new w4 (.cells #[.int .i64 yg, .int .i64 yr, .int .i64 ys, .int .i64 ye, .int .i64 yl, .int .i64 ym] 23)
            clear hu hq1
            obtain ⟨p0, p1, p2, p3, p4, p5⟩ := cells6 hbX
            obtain ⟨q0, q1, q2, q3, q4, q5⟩ := cells6 hbY
            clear hbX hbY
            go_wp2_with ((with_reducible (show wpList _ _ _ (⟨_, Op.store _ _ _, _, _, _, _⟩ :: _) _ _)); refine storeB_list rfl 23 _ _ rfl (w.heap.size + 1) #[.int .i64 xg, .int .i64 xr, .int .i64 xs, .int .i64 xe, .int .i64 xl, .int .i64 xm] _ _ rfl rfl hbA rfl size_sp.out (by simp [Value.oneCell']) ?_)
            intro w18 hb18 hu18
            obtain ⟨x0, x1, x2, x3, x4, x5⟩ := cells6 hb18
            have hU18 := hU.trans hu18 (fun k hk e => by (have : k = w.heap.size + 1 := e); omega)
            go_wp2_with fail
            refine bodyPost_ret (v := .tuple #[.agg #[.int .i64 xg, .int .i64 xr, .int .i64 xs, .int .i64 xe, .int .i64 xl, .int .i64 xm], .int .i64 0, .int .i64 0]) (by simp [results, Try.results27, go_sem, x0, x1, x2, x3, x4, x5]; try rfl) rfl ⟨by rw [hff.out]; rfl, hU18⟩
        · rw [if_neg (fun e => e.1 rfl), if_neg (by rintro (h | h); exact h rfl; exact hy h.1)] at hff
          replace hff := Lib.hid hff
          have hy1 : (yc == 0) = false := by simp [hy]
          have hy2 : (yc != 0) = true := by simp [hy]
          go_enter Try.func27, Try.ntmps27
          go_wp2_with fail
          refine (hr0.out _ (((Upd.refl Non w).then_alloc _).then_alloc _)).mono ?_
          rintro en w1 ⟨rfl, hX⟩
          have hbA := hX.heap (heap_alloc2_new w (.cells #[.int .i64 m, .slice ka kn kc, .slice pa pn pc, .int .i64 f, .bool dd] 64) (.cells #[.int .i64 0, .int .i64 0, .int .i64 0, .int .i64 0, .int .i64 0, .int .i64 0] 23)) fun h => h
          have hbD := hX.heap (heap_alloc2_old w (.cells #[.int .i64 m, .slice ka kn kc, .slice pa pn pc, .int .i64 f, .bool dd] 64) (.cells #[.int .i64 0, .int .i64 0, .int .i64 0, .int .i64 0, .int .i64 0, .int .i64 0] 23)) fun h => h
          have hU : Upd Non w w1 := (((Upd.refl Non w).then_alloc _).then_alloc _).trans hX fun _ _ h => h
          clear hX hr0
          obtain ⟨c0, f0⟩ := cells_of hbD
          go_wp2_with fail
          refine (hr1.out _ hU).mono ?_
          rintro en w2 ⟨rfl, hu⟩
          replace hU := hU.trans hu fun _ _ h => h
          replace hbA := hu.heap hbA fun h => h
          clear hu hr1 hbD c0 f0
          go_wp2_with fail
          refine (hq0.out _).mono ?_
          rintro en w3 ⟨rfl, hu⟩
          replace hU := (hU.trans hu fun _ _ h => h).then_alloc (.cells #[.int .i64 xg, .int .i64 xr, .int .i64 xs, .int .i64 xe, .int .i64 xl, .int .i64 xm] 23)
          replace hbA := (Upd.alloc Non w3 (.cells #[.int .i64 xg, .int .i64 xr, .int .i64 xs, .int .i64 xe, .int .i64 xl, .int .i64 xm] 23)).heap (hu.heap hbA fun h => h) fun h => h
          have hbX := heap_alloc_new w3 (.cells #[.int .i64 xg, .int .i64 xr, .int .i64 xs, .int .i64 xe, .int .i64 xl, .int .i64 xm] 23)
          clear hu hq0
          go_wp2_with fail
          refine (hq1.out _).mono ?_
          rintro en w4 ⟨rfl, hu⟩
          replace hU := (hU.trans hu fun _ _ h => h).then_alloc (.cells #[.int .i64 yg, .int .i64 yr, .int .i64 ys, .int .i64 ye, .int .i64 yl, .int .i64 ym] 23)
          replace hbA := (Upd.alloc Non w4 (.cells #[.int .i64 yg, .int .i64 yr, .int .i64 ys, .int .i64 ye, .int .i64 yl, .int .i64 ym] 23)).heap (hu.heap hbA fun h => h) fun h => h
          replace hbX := (Upd.alloc Non w4 (.cells #[.int .i64 yg, .int .i64 yr, .int .i64 ys, .int .i64 ye, .int .i64 yl, .int .i64 ym] 23)).heap (hu.heap hbX fun h => h) fun h => h
          have hbY := heap_alloc_new w4 (.cells #[.int .i64 yg, .int .i64 yr, .int .i64 ys, .int .i64 ye, .int .i64 yl, .int .i64 ym] 23)
          clear hu hq1
          obtain ⟨p0, p1, p2, p3, p4, p5⟩ := cells6 hbX
          obtain ⟨q0, q1, q2, q3, q4, q5⟩ := cells6 hbY
          clear hbX hbY
          go_wp2_with ((with_reducible (show wpList _ _ _ (⟨_, Op.store _ _ _, _, _, _, _⟩ :: _) _ _)); refine storeB_list rfl 23 _ _ rfl (w.heap.size + 1) #[.int .i64 xg, .int .i64 xr, .int .i64 xs, .int .i64 xe, .int .i64 xl, .int .i64 xm] _ _ rfl rfl hbA rfl size_sp.out (by simp [Value.oneCell']) ?_)
          intro w18 hb18 hu18
          obtain ⟨x0, x1, x2, x3, x4, x5⟩ := cells6 hb18
          have hU18 := hU.trans hu18 (fun k hk e => by (have : k = w.heap.size + 1 := e); omega)
          go_wp2_with fail
          refine bodyPost_ret (v := .tuple #[.agg #[.int .i64 xg, .int .i64 xr, .int .i64 xs, .int .i64 xe, .int .i64 xl, .int .i64 xm], .int .i64 0, .int .i64 0]) (by simp [results, Try.results27, go_sem, x0, x1, x2, x3, x4, x5]; try rfl) rfl ⟨by rw [hff.out]; rfl, hU18⟩
      · have hx1 : (xc == 0) = false := by simp [hx]
        have hx2 : (xc != 0) = true := by simp [hx]
        by_cases hy : yc = 0
        · subst hy
          rw [if_neg (fun e => e.2 rfl), if_pos (.inl hx)] at hff
          replace hff := Lib.hid hff
          go_enter Try.func27, Try.ntmps27
          go_wp2_with fail
          refine (hr0.out _ (((Upd.refl Non w).then_alloc _).then_alloc _)).mono ?_
          rintro en w1 ⟨rfl, hX⟩
          have hbA := hX.heap (heap_alloc2_new w (.cells #[.int .i64 m, .slice ka kn kc, .slice pa pn pc, .int .i64 f, .bool dd] 64) (.cells #[.int .i64 0, .int .i64 0, .int .i64 0, .int .i64 0, .int .i64 0, .int .i64 0] 23)) fun h => h
          have hbD := hX.heap (heap_alloc2_old w (.cells #[.int .i64 m, .slice ka kn kc, .slice pa pn pc, .int .i64 f, .bool dd] 64) (.cells #[.int .i64 0, .int .i64 0, .int .i64 0, .int .i64 0, .int .i64 0, .int .i64 0] 23)) fun h => h
          have hU : Upd Non w w1 := (((Upd.refl Non w).then_alloc _).then_alloc _).trans hX fun _ _ h => h
          clear hX hr0
          obtain ⟨c0, f0⟩ := cells_of hbD
          go_wp2_with fail
          refine (hr1.out _ hU).mono ?_
          rintro en w2 ⟨rfl, hu⟩
          replace hU := hU.trans hu fun _ _ h => h
          replace hbA := hu.heap hbA fun h => h
          clear hu hr1 hbD c0 f0
          go_wp2_with fail
          refine (hq0.out _).mono ?_
          rintro en w3 ⟨rfl, hu⟩
          replace hU := (hU.trans hu fun _ _ h => h).then_alloc (.cells #[.int .i64 xg, .int .i64 xr, .int .i64 xs, .int .i64 xe, .int .i64 xl, .int .i64 xm] 23)
          replace hbA := (Upd.alloc Non w3 (.cells #[.int .i64 xg, .int .i64 xr, .int .i64 xs, .int .i64 xe, .int .i64 xl, .int .i64 xm] 23)).heap (hu.heap hbA fun h => h) fun h => h
          have hbX := heap_alloc_new w3 (.cells #[.int .i64 xg, .int .i64 xr, .int .i64 xs, .int .i64 xe, .int .i64 xl, .int .i64 xm] 23)
          clear hu hq0
          go_wp2_with fail
          refine (hq1.out _).mono ?_
          rintro en w4 ⟨rfl, hu⟩
          replace hU := (hU.trans hu fun _ _ h => h).then_alloc (.cells #[.int .i64 yg, .int .i64 yr, .int .i64 ys, .int .i64 ye, .int .i64 yl, .int .i64 ym] 23)
          replace hbA := (Upd.alloc Non w4 (.cells #[.int .i64 yg, .int .i64 yr, .int .i64 ys, .int .i64 ye, .int .i64 yl, .int .i64 ym] 23)).heap (hu.heap hbA fun h => h) fun h => h
          replace hbX := (Upd.alloc Non w4 (.cells #[.int .i64 yg, .int .i64 yr, .int .i64 ys, .int .i64 ye, .int .i64 yl, .int .i64 ym] 23)).heap (hu.heap hbX fun h => h) fun h => h
          have hbY := heap_alloc_new w4 (.cells #[.int .i64 yg, .int .i64 yr, .int .i64 ys, .int .i64 ye, .int .i64 yl, .int .i64 ym] 23)
          clear hu hq1
          obtain ⟨p0, p1, p2, p3, p4, p5⟩ := cells6 hbX
          obtain ⟨q0, q1, q2, q3, q4, q5⟩ := cells6 hbY
          clear hbX hbY
          go_wp2_with ((with_reducible (show wpList _ _ _ (⟨_, Op.store _ _ _, _, _, _, _⟩ :: _) _ _)); refine storeB_list rfl 23 _ _ rfl (w.heap.size + 1) #[.int .i64 yg, .int .i64 yr, .int .i64 ys, .int .i64 ye, .int .i64 yl, .int .i64 ym] _ _ rfl rfl hbA rfl size_sp.out (by simp [Value.oneCell']) ?_)
          intro w18 hb18 hu18
          obtain ⟨x0, x1, x2, x3, x4, x5⟩ := cells6 hb18
          have hU18 := hU.trans hu18 (fun k hk e => by (have : k = w.heap.size + 1 := e); omega)
          go_wp2_with fail
          refine bodyPost_ret (v := .tuple #[.agg #[.int .i64 yg, .int .i64 yr, .int .i64 ys, .int .i64 ye, .int .i64 yl, .int .i64 ym], .int .i64 1, .int .i64 0]) (by simp [results, Try.results27, go_sem, x0, x1, x2, x3, x4, x5]; try rfl) rfl ⟨by rw [hff.out]; rfl, hU18⟩
        · rw [if_pos ⟨hx, hy⟩] at hff
          replace hff := Lib.hid hff
          have hy1 : (yc == 0) = false := by simp [hy]
          have hy2 : (yc != 0) = true := by simp [hy]
          go_enter Try.func27, Try.ntmps27
          go_wp2_with fail
          refine (hr0.out _ (((Upd.refl Non w).then_alloc _).then_alloc _)).mono ?_
          rintro en w1 ⟨rfl, hX⟩
          have hbA := hX.heap (heap_alloc2_new w (.cells #[.int .i64 m, .slice ka kn kc, .slice pa pn pc, .int .i64 f, .bool dd] 64) (.cells #[.int .i64 0, .int .i64 0, .int .i64 0, .int .i64 0, .int .i64 0, .int .i64 0] 23)) fun h => h
          have hbD := hX.heap (heap_alloc2_old w (.cells #[.int .i64 m, .slice ka kn kc, .slice pa pn pc, .int .i64 f, .bool dd] 64) (.cells #[.int .i64 0, .int .i64 0, .int .i64 0, .int .i64 0, .int .i64 0, .int .i64 0] 23)) fun h => h
          have hU : Upd Non w w1 := (((Upd.refl Non w).then_alloc _).then_alloc _).trans hX fun _ _ h => h
          clear hX hr0
          obtain ⟨c0, f0⟩ := cells_of hbD
          go_wp2_with fail
          refine (hr1.out _ hU).mono ?_
          rintro en w2 ⟨rfl, hu⟩
          replace hU := hU.trans hu fun _ _ h => h
          replace hbA := hu.heap hbA fun h => h
          clear hu hr1 hbD c0 f0
          go_wp2_with fail
          refine (hq0.out _).mono ?_
          rintro en w3 ⟨rfl, hu⟩
          replace hU := (hU.trans hu fun _ _ h => h).then_alloc (.cells #[.int .i64 xg, .int .i64 xr, .int .i64 xs, .int .i64 xe, .int .i64 xl, .int .i64 xm] 23)
          replace hbA := (Upd.alloc Non w3 (.cells #[.int .i64 xg, .int .i64 xr, .int .i64 xs, .int .i64 xe, .int .i64 xl, .int .i64 xm] 23)).heap (hu.heap hbA fun h => h) fun h => h
          have hbX := heap_alloc_new w3 (.cells #[.int .i64 xg, .int .i64 xr, .int .i64 xs, .int .i64 xe, .int .i64 xl, .int .i64 xm] 23)
          clear hu hq0
          go_wp2_with fail
          refine (hq1.out _).mono ?_
          rintro en w4 ⟨rfl, hu⟩
          replace hU := (hU.trans hu fun _ _ h => h).then_alloc (.cells #[.int .i64 yg, .int .i64 yr, .int .i64 ys, .int .i64 ye, .int .i64 yl, .int .i64 ym] 23)
          replace hbA := (Upd.alloc Non w4 (.cells #[.int .i64 yg, .int .i64 yr, .int .i64 ys, .int .i64 ye, .int .i64 yl, .int .i64 ym] 23)).heap (hu.heap hbA fun h => h) fun h => h
          replace hbX := (Upd.alloc Non w4 (.cells #[.int .i64 yg, .int .i64 yr, .int .i64 ys, .int .i64 ye, .int .i64 yl, .int .i64 ym] 23)).heap (hu.heap hbX fun h => h) fun h => h
          have hbY := heap_alloc_new w4 (.cells #[.int .i64 yg, .int .i64 yr, .int .i64 ys, .int .i64 ye, .int .i64 yl, .int .i64 ym] 23)
          clear hu hq1
          obtain ⟨p0, p1, p2, p3, p4, p5⟩ := cells6 hbX
          obtain ⟨q0, q1, q2, q3, q4, q5⟩ := cells6 hbY
          clear hbX hbY
          go_wp2_with ((with_reducible (show wpList _ _ _ (⟨_, Op.store _ _ _, _, _, _, _⟩ :: _) _ _)); refine storeB_list rfl 23 _ _ rfl (w.heap.size + 1) #[.int .i64 0, .int .i64 0, .int .i64 0, .int .i64 0, .int .i64 0, .int .i64 0] _ _ rfl rfl hbA rfl size_sp.out (by simp [Value.oneCell']) ?_)
          intro w18 hb18 hu18
          obtain ⟨x0, x1, x2, x3, x4, x5⟩ := cells6 hb18
          have hU18 := hU.trans hu18 (fun k hk e => by (have : k = w.heap.size + 1 := e); omega)
          go_wp2_with fail
          refine bodyPost_ret (v := .tuple #[.agg #[.int .i64 0, .int .i64 0, .int .i64 0, .int .i64 0, .int .i64 0, .int .i64 0], .int .i64 0, .int .i64 4]) (by simp [results, Try.results27, go_sem, x0, x1, x2, x3, x4, x5]; try rfl) rfl ⟨by rw [hff.out]; rfl, hU18⟩
    · have hff := Lib.hid (find_no1 h0 h1)
      rw [h0] at hr0
      have hy1 : (d.within 1 == 0) = false := by simp [h1]
      have hy2 : (d.within 1 != 0) = true := by simp [h1]
      generalize d.within 1 = e1 at *
      clear h0 hq0 hq1
      go_enter Try.func27, Try.ntmps27
      go_wp2_with fail
      refine (hr0.out _ (((Upd.refl Non w).then_alloc _).then_alloc _)).mono ?_
      rintro en w1 ⟨rfl, hX⟩
      have hbA := hX.heap (heap_alloc2_new w (.cells #[.int .i64 m, .slice ka kn kc, .slice pa pn pc, .int .i64 f, .bool dd] 64) (.cells #[.int .i64 0, .int .i64 0, .int .i64 0, .int .i64 0, .int .i64 0, .int .i64 0] 23)) fun h => h
      have hbD := hX.heap (heap_alloc2_old w (.cells #[.int .i64 m, .slice ka kn kc, .slice pa pn pc, .int .i64 f, .bool dd] 64) (.cells #[.int .i64 0, .int .i64 0, .int .i64 0, .int .i64 0, .int .i64 0, .int .i64 0] 23)) fun h => h
      have hU : Upd Non w w1 := (((Upd.refl Non w).then_alloc _).then_alloc _).trans hX fun _ _ h => h
      clear hX hr0
      obtain ⟨c0, f0⟩ := cells_of hbD
      go_wp2_with fail
      refine (hr1.out _ hU).mono ?_
      rintro en w2 ⟨rfl, hu⟩
      replace hU := hU.trans hu fun _ _ h => h
      replace hbA := hu.heap hbA fun h => h
      clear hu hr1 hbD c0 f0
      go_wp2_with ((with_reducible (show wpList _ _ _ (⟨_, Op.store _ _ _, _, _, _, _⟩ :: _) _ _)); refine storeB_list rfl 23 _ _ rfl (w.heap.size + 1) #[.int .i64 0, .int .i64 0, .int .i64 0, .int .i64 0, .int .i64 0, .int .i64 0] _ _ rfl rfl hbA rfl size_sp.out (by simp [Value.oneCell']) ?_)
      intro w18 hb18 hu18
      obtain ⟨x0, x1, x2, x3, x4, x5⟩ := cells6 hb18
      have hU18 := hU.trans hu18 (fun k hk e => by (have : k = w.heap.size + 1 := e); omega)
      go_wp2_with fail
      refine bodyPost_ret (v := .tuple #[.agg #[.int .i64 0, .int .i64 0, .int .i64 0, .int .i64 0, .int .i64 0, .int .i64 0], .int .i64 0, .int .i64 e1]) (by simp [results, Try.results27, go_sem, x0, x1, x2, x3, x4, x5]; try rfl) rfl ⟨by rw [hff.out]; rfl, hU18⟩
  · have hff := Lib.hid (find_no0 h0)
    have hy1 : (d.within 0 == 0) = false := by simp [h0]
    have hy2 : (d.within 0 != 0) = true := by simp [h0]
    generalize d.within 0 = e0 at *
    clear hq0 hq1 hr1
    go_enter Try.func27, Try.ntmps27
    go_wp2_with fail
    refine (hr0.out _ (((Upd.refl Non w).then_alloc _).then_alloc _)).mono ?_
    rintro en w1 ⟨rfl, hX⟩
    have hbA := hX.heap (heap_alloc2_new w (.cells #[.int .i64 m, .slice ka kn kc, .slice pa pn pc, .int .i64 f, .bool dd] 64) (.cells #[.int .i64 0, .int .i64 0, .int .i64 0, .int .i64 0, .int .i64 0, .int .i64 0] 23)) fun h => h
    have hbD := hX.heap (heap_alloc2_old w (.cells #[.int .i64 m, .slice ka kn kc, .slice pa pn pc, .int .i64 f, .bool dd] 64) (.cells #[.int .i64 0, .int .i64 0, .int .i64 0, .int .i64 0, .int .i64 0, .int .i64 0] 23)) fun h => h
    have hU : Upd Non w w1 := (((Upd.refl Non w).then_alloc _).then_alloc _).trans hX fun _ _ h => h
    clear hX hr0
    obtain ⟨c0, f0⟩ := cells_of hbD
    go_wp2_with ((with_reducible (show wpList _ _ _ (⟨_, Op.store _ _ _, _, _, _, _⟩ :: _) _ _)); refine storeB_list rfl 23 _ _ rfl (w.heap.size + 1) #[.int .i64 0, .int .i64 0, .int .i64 0, .int .i64 0, .int .i64 0, .int .i64 0] _ _ rfl rfl hbA rfl size_sp.out (by simp [Value.oneCell']) ?_)
    intro w18 hb18 hu18
    obtain ⟨x0, x1, x2, x3, x4, x5⟩ := cells6 hb18
    have hU18 := hU.trans hu18 (fun k hk e => by (have : k = w.heap.size + 1 := e); omega)
    go_wp2_with fail
    refine bodyPost_ret (v := .tuple #[.agg #[.int .i64 0, .int .i64 0, .int .i64 0, .int .i64 0, .int .i64 0, .int .i64 0], .int .i64 0, .int .i64 e0]) (by simp [results, Try.results27, go_sem, x0, x1, x2, x3, x4, x5]; try rfl) rfl ⟨by rw [hff.out]; rfl, hU18⟩
end Go.Proofs.Ytgdkgnolkepgdaa

namespace Go.Proofs.Ytgdkgnolkepgdaa
open Go.RowKit Go.Amb Go.Shelf
set_option linter.unusedVariables false
set_option linter.unusedSimpArgs false
set_option maxRecDepth 100000
attribute [local go_sem ↓] Go.wp_at_zero Go.wp_at_succ

theorem upd_four {w w1 : World} {c0 c1 c2 c3 : Array Value} {e0 e1 e2 e3 : TypeId} (hu : Upd Non ((((w.alloc (.cells c0 e0)).alloc (.cells c1 e1)).alloc (.cells c2 e2)).alloc (.cells c3 e3)) w1) :
    w1.heap[w.heap.size]? = some (.cells c0 e0 (0, 0)) ∧ w1.heap[w.heap.size + 1]? = some (.cells c1 e1 (0, 0)) ∧ w1.heap[w.heap.size + 1 + 1]? = some (.cells c2 e2 (0, 0)) ∧ w1.heap[w.heap.size + 1 + 1 + 1]? = some (.cells c3 e3 (0, 0)) ∧ w.heap.size + 4 ≤ w1.heap.size := by
  have hs := hu.size
  simp at hs
  have h3 := heap_alloc_new (((w.alloc (.cells c0 e0)).alloc (.cells c1 e1)).alloc (.cells c2 e2)) (.cells c3 e3)
  simp only [World.size_alloc] at h3
  obtain ⟨a0, a1, a2, -⟩ := upd_three (Upd.alloc Non (((w.alloc (.cells c0 e0)).alloc (.cells c1 e1)).alloc (.cells c2 e2)) (.cells c3 e3)) fun _ h => h.elim
  exact ⟨hu.heap a0 fun h => h, hu.heap a1 fun h => h, hu.heap a2 fun h => h, hu.heap h3 fun h => h, by omega⟩
section
variable {B : Nat → Prop} {w0 w : World} {D : Nat} {F : Nat → Prop} {d d1 r : Dk} {kv pv : Value}
theorem bthWrite (h : Bth B w0 w D F d r kv pv) (hs : Same d1 r) (hok : d1.Ok) (hP : d1.P.length ≤ 1000000) (i : Int) (s : List UInt8) (hl : s.length ≤ 1000000) :
    Calls Try.prog 23 #[rfv r kv pv, .int .i64 i, .string ⟨s.toArray⟩] w (fun en w9 => ∃ m ka kn kc pa pn pc f dd, en = .returned (.tuple #[.agg #[.int .i64 m, .slice ka kn kc, .slice pa pn pc, .int .i64 f, .bool dd], .int .i64 (d1.write i s).2]) ∧
      rfv (r.write i s).1 (.slice ka kn kc) (.slice pa pn pc) = .agg #[.int .i64 m, .slice ka kn kc, .slice pa pn pc, .int .i64 f, .bool dd] ∧ Bth B w0 w9 D F d (r.write i s).1 (.slice ka kn kc) (.slice pa pn pc) ∧ Upd Non w w9) := by
  have e2 : r.K.length = d1.K.length := by rw [hs.k, List.length_map]
  have hn2 := hok.n2
  have hc := refWrite r kv pv w h.rat (by rw [← hs.p]; exact hP) (by omega) (by rw [← hs.f]; exact hok.f1) (by rw [← hs.f]; exact hok.f2) i s hl
  rw [← (hs.write i s).2] at hc
  exact hc.mono fun en w9 ha => h.anew ha
theorem bthFlush (h : Bth B w0 w D F d r kv pv) (hs : Same d1 r) (hok : d1.Ok) (hP : d1.P.length ≤ 1000000) :
    Calls Try.prog 54 #[rfv r kv pv] w (fun en w9 => ∃ m ka kn kc pa pn pc f dd, en = .returned (.tuple #[.agg #[.int .i64 m, .slice ka kn kc, .slice pa pn pc, .int .i64 f, .bool dd], .int .i64 d1.flush.2]) ∧
      rfv r.flushR.1 (.slice ka kn kc) (.slice pa pn pc) = .agg #[.int .i64 m, .slice ka kn kc, .slice pa pn pc, .int .i64 f, .bool dd] ∧ Bth B w0 w9 D F d r.flushR.1 (.slice ka kn kc) (.slice pa pn pc) ∧ Upd Non w w9) := by
  have e2 : r.K.length = d1.K.length := by rw [hs.k, List.length_map]
  have hn1 := hok.n1
  have hn2 := hok.n2
  have hc := refFlush r kv pv w h.rat (fun p hp => by rw [e2]; exact (hok.p p (by rw [hs.p]; exact hp)).2) (by omega) (by rw [← hs.p]; exact hP) (by omega) (by rw [← hs.f]; exact hok.f1) (by rw [← hs.f]; exact hok.f2)
  rw [← (hs.flush hok).2] at hc
  exact hc.mono fun en w9 ha => h.anew ha
end
/-- What the reference's Save answers, beside a disk. -/
def QSave (B : Nat → Prop) (w0 w : World) (D : Nat) (F : Nat → Prop) (d d1 : Dk) (x : Dk × Sp × Int) (en : Ending) (w' : World) : Prop :=
  ∃ r' kv' pv', en = .returned (.tuple #[rfv r' kv' pv', spV x.2.1, .int .i64 x.2.2]) ∧ Same x.1 r' ∧ Bth B w0 w' D F d r' kv' pv' ∧ Upd Non w w'
set_option maxHeartbeats 8000000 in
theorem qSave {B : Nat → Prop} {w0 w : World} {D : Nat} {F : Nat → Prop} {d0 d r : Dk} {kv pv : Value} (hB : Bth B w0 w D F d0 r kv pv) (hs : Same d r) (hok : d.Ok) (hP : d.P.length ≤ 999999) (s : Sp) :
    Calls Try.prog 28 #[rfv r kv pv, spV s] w (QSave B w0 w D F d0 d (saveR d s)) := by
  have hfo := @find_ok d
  have hs5 := Lib.hid size_disk5
  obtain ⟨m, ka, kn, kc, pa, pn, pc, f, dd, hlit⟩ := rfv_lit hB.rat
  have cFi := Lib.hid (fun w' (hu : Upd Non w w') => qFind (hB.rat.non hu) hs hok (by omega))
  rw [hlit] at cFi ⊢
  replace hlit := Lib.hid hlit
  replace hB := Lib.hid hB
  obtain ⟨⟨xs, xat, xc⟩, hfr⟩ : ∃ fr, findR d = fr := ⟨_, rfl⟩
  rw [hfr] at cFi hfo
  simp only at cFi hfo
  obtain ⟨xg, xr, xs, xe, xl, xm⟩ := xs
  obtain ⟨sg, sr, ss, se, sl, sm⟩ := s
  unfold spV at *
  simp only at cFi
  by_cases he0 : xc = 0
  · subst he0
    have hxo := hfo rfl
    have hG : Hid (nextG d = xg + 1) := Lib.hid (by unfold nextG; rw [hfr]; rfl)
    have hx0 := hxo.1.1
    have hx1 := hxo.1.2
    simp only at hx0 hx1
    have hw : IntKind.i64.wrap (xg + 1) = xg + 1 := IntWalk.i64_in _ ⟨by omega, by omega⟩
    have hGb : 0 ≤ xg + 1 ∧ xg + 1 ≤ 1152921504606846977 := ⟨by omega, by omega⟩
    clear hfo hxo
    generalize hGe : xg + 1 = G at *
    by_cases hgm : (1152921504606846976 : Int) < G
    · have hres : Hid (saveR d ⟨sg, sr, ss, se, sl, sm⟩ = (d, Sp.none, 18)) := Lib.hid (save_time (by rw [hfr]; simp) hG.out hgm)
      replace hs := Lib.hid hs
      clear hfr hok hP
      go_enter Try.func28, Try.ntmps28
      go_wp2_with fail
      refine (cFi.out _ (((((Upd.refl Non w).then_alloc _).then_alloc _).then_alloc _).then_alloc _)).mono ?_
      rintro en w1 ⟨rfl, hX⟩
      obtain ⟨bD, bS, bZ, bY, hz1⟩ := upd_four hX
      have hU : Upd Non w (w1.alloc (.cells #[.int .i64 xg, .int .i64 xr, .int .i64 xs, .int .i64 xe, .int .i64 xl, .int .i64 xm] 23)) := ((((((Upd.refl Non w).then_alloc _).then_alloc _).then_alloc _).then_alloc _).trans hX fun _ _ h => h).then_alloc (.cells #[.int .i64 xg, .int .i64 xr, .int .i64 xs, .int .i64 xe, .int .i64 xl, .int .i64 xm] 23)
      replace bD := (Upd.alloc Non w1 (.cells #[.int .i64 xg, .int .i64 xr, .int .i64 xs, .int .i64 xe, .int .i64 xl, .int .i64 xm] 23)).heap bD fun h => h
      replace bS := (Upd.alloc Non w1 (.cells #[.int .i64 xg, .int .i64 xr, .int .i64 xs, .int .i64 xe, .int .i64 xl, .int .i64 xm] 23)).heap bS fun h => h
      replace bZ := (Upd.alloc Non w1 (.cells #[.int .i64 xg, .int .i64 xr, .int .i64 xs, .int .i64 xe, .int .i64 xl, .int .i64 xm] 23)).heap bZ fun h => h
      replace bY := (Upd.alloc Non w1 (.cells #[.int .i64 xg, .int .i64 xr, .int .i64 xs, .int .i64 xe, .int .i64 xl, .int .i64 xm] 23)).heap bY fun h => h
      have bX := heap_alloc_new w1 (.cells #[.int .i64 xg, .int .i64 xr, .int .i64 xs, .int .i64 xe, .int .i64 xl, .int .i64 xm] 23)
      have hB1 := Lib.hid (hB.out.grow hU)
      have hzA : w1.heap.size + 1 = (w1.alloc (.cells #[.int .i64 xg, .int .i64 xr, .int .i64 xs, .int .i64 xe, .int .i64 xl, .int .i64 xm] 23)).heap.size := by simp
      clear hX cFi
      have zf := (cells_of bS).2 0
      have zc := (cells_of bS).1 0
      obtain ⟨u0, u1, u2, u3, u4, u5⟩ := cells6 bS
      have hT := Upd.setCell (S := fun k => k = w.heap.size + 1) (a := ⟨w.heap.size + 1, 0, none⟩) (w1.alloc (.cells #[.int .i64 xg, .int .i64 xr, .int .i64 xs, .int .i64 xe, .int .i64 xl, .int .i64 xm] 23)) rfl (.int .i64 0)
      have bS0 := set_blk (j := 0) bS (.int .i64 0)
      have bD0 := hT.heap bD (fun e => by (have : w.heap.size = w.heap.size + 1 := e); omega)
      have bZ0 := hT.heap bZ (fun e => by (have : w.heap.size + 1 + 1 = w.heap.size + 1 := e); omega)
      have bY0 := hT.heap bY (fun e => by (have : w.heap.size + 1 + 1 + 1 = w.heap.size + 1 := e); omega)
      have bX0 := hT.heap bX (fun e => by (have : w1.heap.size = w.heap.size + 1 := e); omega)
      have hB0 := Lib.hid (hB1.out.upd hT fun k hk => by subst hk; exact .inr ⟨by omega, by omega⟩)
      have hU0 := hU.trans hT (fun k hk e => by (have : k = w.heap.size + 1 := e); omega)
      have hzS : (w1.alloc (.cells #[.int .i64 xg, .int .i64 xr, .int .i64 xs, .int .i64 xe, .int .i64 xl, .int .i64 xm] 23)).heap.size ≤ ((w1.alloc (.cells #[.int .i64 xg, .int .i64 xr, .int .i64 xs, .int .i64 xe, .int .i64 xl, .int .i64 xm] 23)).setCell ⟨w.heap.size + 1, 0, none⟩ (.int .i64 0)).heap.size := hT.size
      clear hT bS bD bZ bY bX hB1 hU
      have zf0 := (cells_of bS0).2 0
      have zc0 := (cells_of bS0).1 0
      have hT := Upd.setCell (S := fun k => k = w.heap.size + 1) (a := ⟨w.heap.size + 1, 0, none⟩) ((w1.alloc (.cells #[.int .i64 xg, .int .i64 xr, .int .i64 xs, .int .i64 xe, .int .i64 xl, .int .i64 xm] 23)).setCell ⟨w.heap.size + 1, 0, none⟩ (.int .i64 0)) rfl (.int .i64 G)
      have bS := set_blk (j := 0) bS0 (.int .i64 G)
      have bD := hT.heap bD0 (fun e => by (have : w.heap.size = w.heap.size + 1 := e); omega)
      have bZ := hT.heap bZ0 (fun e => by (have : w.heap.size + 1 + 1 = w.heap.size + 1 := e); omega)
      have bY := hT.heap bY0 (fun e => by (have : w.heap.size + 1 + 1 + 1 = w.heap.size + 1 := e); omega)
      have hB1 := Lib.hid (hB0.out.upd hT fun k hk => by subst hk; exact .inr ⟨by omega, by omega⟩)
      have hU := hU0.trans hT (fun k hk e => by (have : k = w.heap.size + 1 := e); omega)
      have hzT := hT.size
      obtain ⟨q0, q1, q2, q3, q4, q5⟩ := cells6 bX0
      clear hT bS0 bD0 bZ0 bY0 bX0 hB0 hU0
      obtain ⟨y0, y1, y2, y3, y4, y5⟩ := cells6 bS
      obtain ⟨v0, v1⟩ := cells_of bD
      go_wp2_with ((with_reducible (show wpList _ _ _ (⟨_, Op.store _ _ _, _, _, _, _⟩ :: _) _ _)); refine storeB_list rfl 64 _ _ rfl (w.heap.size + 1 + 1) #[.int .i64 m, .slice ka kn kc, .slice pa pn pc, .int .i64 f, .bool dd] _ _ rfl rfl bZ rfl hs5.out (by simp [Value.oneCell']) ?_)
      intro wa ba hua
      have bYa := hua.heap bY (fun e => by (have : w.heap.size + 1 + 1 + 1 = w.heap.size + 1 + 1 := e); omega)
      have hBa := hB1.out.upd hua fun k hk => by subst hk; exact .inr ⟨by omega, by omega⟩
      have hUa := hU.trans hua (fun k hk e => by (have : k = w.heap.size + 1 + 1 := e); omega)
      have hza := hua.size
      clear hua bY bZ
      go_wp2_with ((with_reducible (show wpList _ _ _ (⟨_, Op.store _ _ _, _, _, _, _⟩ :: _) _ _)); refine storeB_list rfl 23 _ _ rfl (w.heap.size + 1 + 1 + 1) #[.int .i64 0, .int .i64 0, .int .i64 0, .int .i64 0, .int .i64 0, .int .i64 0] _ _ rfl rfl bYa rfl size_sp.out (by simp [Value.oneCell']) ?_)
      intro wb bb hub
      have bab := hub.heap ba (fun e => by (have : w.heap.size + 1 + 1 = w.heap.size + 1 + 1 + 1 := e); omega)
      have hBb := hBa.upd hub fun k hk => by subst hk; exact .inr ⟨by omega, by omega⟩
      have hUb := hUa.trans hub (fun k hk e => by (have : k = w.heap.size + 1 + 1 + 1 := e); omega)
      obtain ⟨e0, g0⟩ := cells_of bab
      obtain ⟨x0, x1, x2, x3, x4, x5⟩ := cells6 bb
      go_wp2_with fail
      refine bodyPost_ret (v := .tuple #[.agg #[.int .i64 m, .slice ka kn kc, .slice pa pn pc, .int .i64 f, .bool dd], .agg #[.int .i64 0, .int .i64 0, .int .i64 0, .int .i64 0, .int .i64 0, .int .i64 0], .int .i64 18]) (by simp [results, Try.results28, go_sem, e0, x0, x1, x2, x3, x4, x5]; try rfl) rfl ⟨_, _, _, by rw [hres.out, hlit.out]; rfl, by rw [hres.out]; exact hs.out, hBb.sub fun k hk => .inl hk, hUb⟩
    · have htm : G.tmod 2 = G % 2 := Int.tmod_eq_emod_of_nonneg hGb.1
      have hgm2 : decide ((1152921504606846976 : Int) < G) = false := decide_eq_false hgm
      have hrt := Lib.hid (fun w' => qRight ⟨G, sr, ss, se, sl, sm⟩ w')
      by_cases hsp : SpOk ⟨G, sr, ss, se, sl, sm⟩
      · have hput := Lib.hid (fun w' => qPut ⟨G, sr, ss, se, sl, sm⟩ w' hsp)
        rw [decide_eq_true hsp] at hrt
        have hpl : (putS ⟨G, sr, ss, se, sl, sm⟩).length ≤ 1000000 := by rw [putS_length]; decide
        have cW : Hid (∀ (w' : World) B', Bth B' w0 w' D F d0 r kv pv → _) := Lib.hid (fun w' B' hB => bthWrite hB hs hok (Nat.le_trans hP (by decide)) (G % 2) (putS ⟨G, sr, ss, se, sl, sm⟩) hpl)
        simp only [hlit.out] at cW
        have hsw : Hid ((d.write (G % 2) (putS ⟨G, sr, ss, se, sl, sm⟩)).2 ≠ 0 → saveR d ⟨sg, sr, ss, se, sl, sm⟩ = _) := Lib.hid (fun h3 => save_w (s := ⟨sg, sr, ss, se, sl, sm⟩) (by rw [hfr]; simp) hG.out hgm hsp h3)
        have hsf : Hid ((d.write (G % 2) (putS ⟨G, sr, ss, se, sl, sm⟩)).2 = 0 → (d.write (G % 2) (putS ⟨G, sr, ss, se, sl, sm⟩)).1.flush.2 ≠ 0 → saveR d ⟨sg, sr, ss, se, sl, sm⟩ = _) := Lib.hid (fun h3 h4 => save_f (s := ⟨sg, sr, ss, se, sl, sm⟩) (by rw [hfr]; simp) hG.out hgm hsp h3 h4)
        have hso : Hid ((d.write (G % 2) (putS ⟨G, sr, ss, se, sl, sm⟩)).2 = 0 → (d.write (G % 2) (putS ⟨G, sr, ss, se, sl, sm⟩)).1.flush.2 = 0 → saveR d ⟨sg, sr, ss, se, sl, sm⟩ = _) := Lib.hid (fun h3 h4 => save_ok (s := ⟨sg, sr, ss, se, sl, sm⟩) (by rw [hfr]; simp) hG.out hgm hsp h3 h4)
        unfold Sp.at_ at hsw hsf hso
        unfold spV at hrt hput
        simp only at hrt hput hsw hsf hso
        try simp only [show ((0 : Int) % 2) = 0 from rfl] at hsw hsf hso
        have hS1 := Lib.hid ((hs.write (G % 2) (putS ⟨G, sr, ss, se, sl, sm⟩)).1)
        have hok4 := Lib.hid (hok.write (G % 2) (putS ⟨G, sr, ss, se, sl, sm⟩))
        have hP4 : Hid ((d.write (G % 2) (putS ⟨G, sr, ss, se, sl, sm⟩)).1.P.length ≤ 1000000) := Lib.hid (by have := write_P d (G % 2) (putS ⟨G, sr, ss, se, sl, sm⟩); omega)
        clear hfr hsp hs hok hP hpl
        replace hgm := Lib.hid hgm
        go_enter Try.func28, Try.ntmps28
        go_wp2_with fail
        refine (cFi.out _ (((((Upd.refl Non w).then_alloc _).then_alloc _).then_alloc _).then_alloc _)).mono ?_
        rintro en w1 ⟨rfl, hX⟩
        obtain ⟨bD, bS, bZ, bY, hz1⟩ := upd_four hX
        have hU : Upd Non w (w1.alloc (.cells #[.int .i64 xg, .int .i64 xr, .int .i64 xs, .int .i64 xe, .int .i64 xl, .int .i64 xm] 23)) := ((((((Upd.refl Non w).then_alloc _).then_alloc _).then_alloc _).then_alloc _).trans hX fun _ _ h => h).then_alloc (.cells #[.int .i64 xg, .int .i64 xr, .int .i64 xs, .int .i64 xe, .int .i64 xl, .int .i64 xm] 23)
        replace bD := (Upd.alloc Non w1 (.cells #[.int .i64 xg, .int .i64 xr, .int .i64 xs, .int .i64 xe, .int .i64 xl, .int .i64 xm] 23)).heap bD fun h => h
        replace bS := (Upd.alloc Non w1 (.cells #[.int .i64 xg, .int .i64 xr, .int .i64 xs, .int .i64 xe, .int .i64 xl, .int .i64 xm] 23)).heap bS fun h => h
        replace bZ := (Upd.alloc Non w1 (.cells #[.int .i64 xg, .int .i64 xr, .int .i64 xs, .int .i64 xe, .int .i64 xl, .int .i64 xm] 23)).heap bZ fun h => h
        replace bY := (Upd.alloc Non w1 (.cells #[.int .i64 xg, .int .i64 xr, .int .i64 xs, .int .i64 xe, .int .i64 xl, .int .i64 xm] 23)).heap bY fun h => h
        have bX := heap_alloc_new w1 (.cells #[.int .i64 xg, .int .i64 xr, .int .i64 xs, .int .i64 xe, .int .i64 xl, .int .i64 xm] 23)
        have hB1 := Lib.hid (hB.out.grow hU)
        have hzA : w1.heap.size + 1 = (w1.alloc (.cells #[.int .i64 xg, .int .i64 xr, .int .i64 xs, .int .i64 xe, .int .i64 xl, .int .i64 xm] 23)).heap.size := by simp
        clear hX cFi
        have zf := (cells_of bS).2 0
        have zc := (cells_of bS).1 0
        obtain ⟨u0, u1, u2, u3, u4, u5⟩ := cells6 bS
        have hT := Upd.setCell (S := fun k => k = w.heap.size + 1) (a := ⟨w.heap.size + 1, 0, none⟩) (w1.alloc (.cells #[.int .i64 xg, .int .i64 xr, .int .i64 xs, .int .i64 xe, .int .i64 xl, .int .i64 xm] 23)) rfl (.int .i64 0)
        have bS0 := set_blk (j := 0) bS (.int .i64 0)
        have bD0 := hT.heap bD (fun e => by (have : w.heap.size = w.heap.size + 1 := e); omega)
        have bZ0 := hT.heap bZ (fun e => by (have : w.heap.size + 1 + 1 = w.heap.size + 1 := e); omega)
        have bY0 := hT.heap bY (fun e => by (have : w.heap.size + 1 + 1 + 1 = w.heap.size + 1 := e); omega)
        have bX0 := hT.heap bX (fun e => by (have : w1.heap.size = w.heap.size + 1 := e); omega)
        have hB0 := Lib.hid (hB1.out.upd hT fun k hk => by subst hk; exact .inr ⟨by omega, by omega⟩)
        have hU0 := hU.trans hT (fun k hk e => by (have : k = w.heap.size + 1 := e); omega)
        have hzS : (w1.alloc (.cells #[.int .i64 xg, .int .i64 xr, .int .i64 xs, .int .i64 xe, .int .i64 xl, .int .i64 xm] 23)).heap.size ≤ ((w1.alloc (.cells #[.int .i64 xg, .int .i64 xr, .int .i64 xs, .int .i64 xe, .int .i64 xl, .int .i64 xm] 23)).setCell ⟨w.heap.size + 1, 0, none⟩ (.int .i64 0)).heap.size := hT.size
        clear hT bS bD bZ bY bX hB1 hU
        have zf0 := (cells_of bS0).2 0
        have zc0 := (cells_of bS0).1 0
        have hT := Upd.setCell (S := fun k => k = w.heap.size + 1) (a := ⟨w.heap.size + 1, 0, none⟩) ((w1.alloc (.cells #[.int .i64 xg, .int .i64 xr, .int .i64 xs, .int .i64 xe, .int .i64 xl, .int .i64 xm] 23)).setCell ⟨w.heap.size + 1, 0, none⟩ (.int .i64 0)) rfl (.int .i64 G)
        have bS := set_blk (j := 0) bS0 (.int .i64 G)
        have bD := hT.heap bD0 (fun e => by (have : w.heap.size = w.heap.size + 1 := e); omega)
        have bZ := hT.heap bZ0 (fun e => by (have : w.heap.size + 1 + 1 = w.heap.size + 1 := e); omega)
        have bY := hT.heap bY0 (fun e => by (have : w.heap.size + 1 + 1 + 1 = w.heap.size + 1 := e); omega)
        have hB1 := Lib.hid (hB0.out.upd hT fun k hk => by subst hk; exact .inr ⟨by omega, by omega⟩)
        have hU := hU0.trans hT (fun k hk e => by (have : k = w.heap.size + 1 := e); omega)
        have hzT := hT.size
        obtain ⟨q0, q1, q2, q3, q4, q5⟩ := cells6 bX0
        clear hT bS0 bD0 bZ0 bY0 bX0 hB0 hU0
        obtain ⟨y0, y1, y2, y3, y4, y5⟩ := cells6 bS
        obtain ⟨v0, v1⟩ := cells_of bD
        go_wp2_with fail
        refine (hrt.out _).mono ?_
        rintro en w3 ⟨rfl, hu⟩
        replace bD := hu.heap bD fun h => h
        replace bS := hu.heap bS fun h => h
        replace bZ := hu.heap bZ fun h => h
        replace bY := hu.heap bY fun h => h
        replace hB1 := Lib.hid (hB1.out.non hu)
        replace hU := hU.trans hu fun _ _ h => h
        have hz3 : w.heap.size + 4 ≤ w3.heap.size := by have := hu.size; omega
        clear hu y0 y1 y2 y3 y4 y5 v0 v1
        obtain ⟨y0, y1, y2, y3, y4, y5⟩ := cells6 bS
        obtain ⟨v0, v1⟩ := cells_of bD
        clear hrt
        go_wp2_with fail
        refine wp_region_held_drew (S := (fun w' => w'.heap[w.heap.size + 1]? = some (.cells #[.int .i64 G, .int .i64 sr, .int .i64 ss, .int .i64 se, .int .i64 sl, .int .i64 sm] 23 (0, 0)))) (by kernel_rfl) (by exact bS) (fun hHeld => ?_)
        replace bD := (Upd.drew Non w3).heap bD fun h => h
        replace bS := (Upd.drew Non w3).heap bS fun h => h
        replace bZ := (Upd.drew Non w3).heap bZ fun h => h
        replace bY := (Upd.drew Non w3).heap bY fun h => h
        replace hB1 := Lib.hid (hB1.out.non (Upd.drew Non w3))
        replace hU := hU.then_drew
        have hz3' : w.heap.size + 4 ≤ w3.drew.heap.size := hz3
        clear y0 y1 y2 y3 y4 y5 v0 v1 hz3
        (refine wpAnyH_take (i := 1) (oi := ?oi_wb1) (v := ?v_wb1) ?ho_wb1 ?hs_wb1 ?hf_wb1 ?hr_wb1 ?hQ_wb1 ?hy_wb1 ?hS_wb1 ?rest_wb1; (case hr_wb1 => kernel_rfl); (case hf_wb1 => kernel_rfl); (case hs_wb1 => kernel_rfl); (case ho_wb1 => (simp only [List.getElem?_toArray, List.getElem?_cons_succ, List.getElem?_cons_zero]; rfl)); (case hS_wb1 => assumption); (case hQ_wb1 => exact fun _ _ _ h => h); (case hy_wb1 => (refine Or.inl ⟨by rfl, ?_⟩; (intro w hSw; obtain ⟨e1, g1⟩ := cells_of hSw; go_simp) <;> with_reducible rfl)); (try simp only [Act.put, List.setIfInBounds_toArray, List.set_cons_zero, List.set_cons_succ]))
        (refine wpAnyH_take (i := 2) (oi := ?oi_wb2) (v := ?v_wb2) ?ho_wb2 ?hs_wb2 ?hf_wb2 ?hr_wb2 ?hQ_wb2 ?hy_wb2 ?hS_wb2 ?rest_wb2; (case hr_wb2 => kernel_rfl); (case hf_wb2 => kernel_rfl); (case hs_wb2 => kernel_rfl); (case ho_wb2 => (simp only [List.getElem?_toArray, List.getElem?_cons_succ, List.getElem?_cons_zero]; rfl)); (case hS_wb2 => assumption); (case hQ_wb2 => exact fun _ _ _ h => h); (case hy_wb2 => (refine Or.inl ⟨by rfl, ?_⟩; (intro w hSw; obtain ⟨e1, g1⟩ := cells_of hSw; go_simp) <;> with_reducible rfl)); (try simp only [Act.put, List.setIfInBounds_toArray, List.set_cons_zero, List.set_cons_succ]))
        (refine wpAnyH_take (i := 3) (oi := ?oi_wb3) (v := ?v_wb3) ?ho_wb3 ?hs_wb3 ?hf_wb3 ?hr_wb3 ?hQ_wb3 ?hy_wb3 ?hS_wb3 ?rest_wb3; (case hr_wb3 => kernel_rfl); (case hf_wb3 => kernel_rfl); (case hs_wb3 => kernel_rfl); (case ho_wb3 => (simp only [List.getElem?_toArray, List.getElem?_cons_succ, List.getElem?_cons_zero]; rfl)); (case hS_wb3 => assumption); (case hQ_wb3 => exact fun _ _ _ h => h); (case hy_wb3 => (refine Or.inl ⟨by rfl, ?_⟩; (intro w hSw; obtain ⟨e1, g1⟩ := cells_of hSw; go_simp) <;> with_reducible rfl)); (try simp only [Act.put, List.setIfInBounds_toArray, List.set_cons_zero, List.set_cons_succ]))
        (refine wpAnyH_take (i := 4) (oi := ?oi_wb4) (v := ?v_wb4) ?ho_wb4 ?hs_wb4 ?hf_wb4 ?hr_wb4 ?hQ_wb4 ?hy_wb4 ?hS_wb4 ?rest_wb4; (case hr_wb4 => kernel_rfl); (case hf_wb4 => kernel_rfl); (case hs_wb4 => kernel_rfl); (case ho_wb4 => (simp only [List.getElem?_toArray, List.getElem?_cons_succ, List.getElem?_cons_zero]; rfl)); (case hS_wb4 => assumption); (case hQ_wb4 => exact fun _ _ _ h => h); (case hy_wb4 => (refine Or.inl ⟨by rfl, ?_⟩; (intro w hSw; obtain ⟨e1, g1⟩ := cells_of hSw; go_simp) <;> with_reducible rfl)); (try simp only [Act.put, List.setIfInBounds_toArray, List.set_cons_zero, List.set_cons_succ]))
        refine wpAnyH_ready (rs := [0, 5]) (by kernel_rfl) (by simp) ?_
        refine (AllReadyH.cons (o := ?oowb5_0) ?howb5_0 ?hswb5_0 (AllReadyH.cons (o := ?oowb5_1) ?howb5_1 ?hswb5_1 AllReadyH.nil))
        case howb5_0 => (simp only [List.getElem?_toArray, List.getElem?_cons_succ, List.getElem?_cons_zero]; rfl)
        case howb5_1 => (simp only [List.getElem?_toArray, List.getElem?_cons_succ, List.getElem?_cons_zero]; rfl)
        case hswb5_0 =>
          intro K hK
          obtain ⟨v0, v1⟩ := cells_of bD
          go_simp
          try go_wp2_with fail
          refine hK.out _ _ (by exact bS) (fun hHeld => ?_)
          clear hK K v0 v1
          try simp only [Act.put, List.setIfInBounds_toArray, List.set_cons_zero, List.set_cons_succ]
          refine wpAnyH_ready (rs := [5]) (by kernel_rfl) (by simp) ?_
          refine (AllReadyH.cons (o := ?oowb6_0) ?howb6_0 ?hswb6_0 AllReadyH.nil)
          case howb6_0 => (simp only [List.getElem?_toArray, List.getElem?_cons_succ, List.getElem?_cons_zero]; rfl)
          case hswb6_0 =>
            intro K hK
            go_simp
            go_at_call 36
            refine (hput.out w3.drew).mono ?_
            rintro en w4 ⟨rfl, hu⟩
            replace bD := hu.heap bD fun h => h
            replace bS := hu.heap bS fun h => h
            replace bZ := hu.heap bZ fun h => h
            replace bY := hu.heap bY fun h => h
            replace hB1 := Lib.hid (hB1.out.non hu)
            replace hU := hU.trans hu fun _ _ h => h
            have hz4 := hu.size
            clear hu hput
            try go_wp2_with fail
            refine hK.out _ _ (by exact bS) (fun hHeld => ?_)
            clear hK K
            try simp only [Act.put, List.setIfInBounds_toArray, List.set_cons_zero, List.set_cons_succ]
            refine wpAnyH_ready (rs := [6]) (by kernel_rfl) (by simp) ?_
            refine (AllReadyH.cons (o := ?oowb7_0) ?howb7_0 ?hswb7_0 AllReadyH.nil)
            case howb7_0 => (simp only [List.getElem?_toArray, List.getElem?_cons_succ, List.getElem?_cons_zero]; rfl)
            case hswb7_0 =>
              intro K hK
              go_simp
              go_at_call 23
              refine (cW.out _ _ hB1.out).mono ?_
              rintro en w5 ⟨m1, ka1, kn1, kc1, pa1, pn1, pc1, f1, dd1, rfl, hlit1, hB2, hu⟩
              replace bD := hu.heap bD fun h => h
              replace bS := hu.heap bS fun h => h
              replace bZ := hu.heap bZ fun h => h
              replace bY := hu.heap bY fun h => h
              replace hU := hU.trans hu fun _ _ h => h
              have hz5 := hu.size
              clear hu cW hB1
              replace hB2 := Lib.hid hB2
              replace hlit1 := Lib.hid hlit1
              try go_wp2_with fail
              refine hK.out _ _ (by exact bS) (fun hHeld => ?_)
              clear hK K
              try simp only [Act.put, List.setIfInBounds_toArray, List.set_cons_zero, List.set_cons_succ]
              (refine wpAnyH_take (i := 7) (oi := ?oi_wb8) (v := ?v_wb8) ?ho_wb8 ?hs_wb8 ?hf_wb8 ?hr_wb8 ?hQ_wb8 ?hy_wb8 ?hS_wb8 ?rest_wb8; (case hr_wb8 => kernel_rfl); (case hf_wb8 => kernel_rfl); (case hs_wb8 => kernel_rfl); (case ho_wb8 => (simp only [List.getElem?_toArray, List.getElem?_cons_succ, List.getElem?_cons_zero]; rfl)); (case hS_wb8 => assumption); (case hQ_wb8 => exact fun _ _ _ h => h); (case hy_wb8 => (refine Or.inl ⟨by rfl, ?_⟩; (intro w hSw; obtain ⟨e1, g1⟩ := cells_of hSw; go_simp) <;> with_reducible rfl)); (try simp only [Act.put, List.setIfInBounds_toArray, List.set_cons_zero, List.set_cons_succ]))
              (refine wpAnyH_take (i := 8) (oi := ?oi_wb9) (v := ?v_wb9) ?ho_wb9 ?hs_wb9 ?hf_wb9 ?hr_wb9 ?hQ_wb9 ?hy_wb9 ?hS_wb9 ?rest_wb9; (case hr_wb9 => kernel_rfl); (case hf_wb9 => kernel_rfl); (case hs_wb9 => kernel_rfl); (case ho_wb9 => (simp only [List.getElem?_toArray, List.getElem?_cons_succ, List.getElem?_cons_zero]; rfl)); (case hS_wb9 => assumption); (case hQ_wb9 => exact fun _ _ _ h => h); (case hy_wb9 => (refine Or.inl ⟨by rfl, ?_⟩; (intro w hSw; obtain ⟨e1, g1⟩ := cells_of hSw; go_simp) <;> with_reducible rfl)); (try simp only [Act.put, List.setIfInBounds_toArray, List.set_cons_zero, List.set_cons_succ]))
              (refine wpAnyH_take (i := 9) (oi := ?oi_wb10) (v := ?v_wb10) ?ho_wb10 ?hs_wb10 ?hf_wb10 ?hr_wb10 ?hQ_wb10 ?hy_wb10 ?hS_wb10 ?rest_wb10; (case hr_wb10 => kernel_rfl); (case hf_wb10 => kernel_rfl); (case hs_wb10 => kernel_rfl); (case ho_wb10 => (simp only [List.getElem?_toArray, List.getElem?_cons_succ, List.getElem?_cons_zero]; rfl)); (case hS_wb10 => assumption); (case hQ_wb10 => exact fun _ _ _ h => h); (case hy_wb10 => (refine Or.inl ⟨by rfl, ?_⟩; (intro w hSw; obtain ⟨e1, g1⟩ := cells_of hSw; go_simp) <;> with_reducible rfl)); (try simp only [Act.put, List.setIfInBounds_toArray, List.set_cons_zero, List.set_cons_succ]))
              refine wpAnyH_ready (rs := [10]) (by kernel_rfl) (by simp) ?_
              refine (AllReadyH.cons (o := ?oowb11_0) ?howb11_0 ?hswb11_0 AllReadyH.nil)
              case howb11_0 => (simp only [List.getElem?_toArray, List.getElem?_cons_succ, List.getElem?_cons_zero]; rfl)
              case hswb11_0 =>
                intro K hK
                refine storeB_step rfl 64 _ _ rfl w.heap.size #[.int .i64 m1, .slice ka1 kn1 kc1, .slice pa1 pn1 pc1, .int .i64 f1, .bool dd1] _ _ rfl rfl bD rfl hs5.out (by simp [Value.oneCell']) ?_
                intro w6 bD6 hu
                replace bS := hu.heap bS (fun e => by (have : w.heap.size + 1 = w.heap.size := e); omega)
                replace bZ := hu.heap bZ (fun e => by (have : w.heap.size + 1 + 1 = w.heap.size := e); omega)
                replace bY := hu.heap bY (fun e => by (have : w.heap.size + 1 + 1 + 1 = w.heap.size := e); omega)
                replace hB2 := Lib.hid (hB2.out.upd hu fun k hk => by subst hk; exact .inr ⟨by omega, by omega⟩)
                replace hU := hU.trans hu (fun k hk e => by (have : k = w.heap.size := e); omega)
                have hz6 := hu.size
                clear hu bD
                try go_wp2_with fail
                refine hK.out _ _ (by exact bS) (fun hHeld => ?_)
                clear hK K
                try simp only [Act.put, List.setIfInBounds_toArray, List.set_cons_zero, List.set_cons_succ]
                (refine wpAnyH_take (i := 11) (oi := ?oi_wb12) (v := ?v_wb12) ?ho_wb12 ?hs_wb12 ?hf_wb12 ?hr_wb12 ?hQ_wb12 ?hy_wb12 ?hS_wb12 ?rest_wb12; (case hr_wb12 => kernel_rfl); (case hf_wb12 => kernel_rfl); (case hs_wb12 => kernel_rfl); (case ho_wb12 => (simp only [List.getElem?_toArray, List.getElem?_cons_succ, List.getElem?_cons_zero]; rfl)); (case hS_wb12 => assumption); (case hQ_wb12 => exact fun _ _ _ h => h); (case hy_wb12 => (refine Or.inl ⟨by rfl, ?_⟩; (intro w hSw; skip; go_simp) <;> with_reducible rfl)); (try simp only [Act.put, List.setIfInBounds_toArray, List.set_cons_zero, List.set_cons_succ]))
                refine wpAnyH_done (by kernel_rfl) ?_ _
                clear hHeld
                generalize d.write (G % 2) (putS ⟨G, sr, ss, se, sl, sm⟩) = wr at *
                obtain ⟨d4, e4⟩ := wr
                simp only at hsw hsf hso hS1 hok4 hP4
                obtain ⟨v0, v1⟩ := cells_of bD6
                by_cases he4 : e4 = 0
                · subst he4
                  replace hsf := Lib.hid (hsf.out rfl)
                  replace hso := Lib.hid (hso.out rfl)
                  have hflu := (hS1.out.flush hok4.out).1
                  have cF : Hid (∀ (w' : World) B', Bth B' w0 w' D F d0 (r.write (G % 2) (putS ⟨G, sr, ss, se, sl, sm⟩)).1 (.slice ka1 kn1 kc1) (.slice pa1 pn1 pc1) → _) := Lib.hid (fun w' B' hB => bthFlush hB hS1.out hok4.out hP4.out)
                  simp only [hlit1.out] at cF
                  generalize (r.write (G % 2) (putS ⟨G, sr, ss, se, sl, sm⟩)).1.flushR.1 = r5 at *
                  generalize d4.flush = fr at *
                  obtain ⟨d5, e5⟩ := fr
                  simp only at hsf hso hflu cF
                  have hS2 := Lib.hid hflu
                  clear hflu hsw
                  go_wp2_with fail
                  refine (cF.out _ _ hB2.out).mono ?_
                  rintro en w7 ⟨m2, ka2, kn2, kc2, pa2, pn2, pc2, f2, dd2, rfl, hlit2, hB3, hu⟩
                  replace bD6 := hu.heap bD6 fun h => h
                  replace bS := hu.heap bS fun h => h
                  replace bZ := hu.heap bZ fun h => h
                  replace bY := hu.heap bY fun h => h
                  replace hU := hU.trans hu fun _ _ h => h
                  have hz7 := hu.size
                  replace hlit2 := Lib.hid hlit2
                  clear hu hB2 cF v0 v1 hlit1 hlit
                  replace hB3 := Lib.hid hB3
                  go_wp2_with ((with_reducible (show wpList _ _ _ (⟨_, Op.store _ _ _, _, _, _, _⟩ :: _) _ _)); refine storeB_list rfl 64 _ _ rfl w.heap.size #[.int .i64 m2, .slice ka2 kn2 kc2, .slice pa2 pn2 pc2, .int .i64 f2, .bool dd2] _ _ rfl rfl bD6 rfl hs5.out (by simp [Value.oneCell']) ?_)
                  intro w8 bD hu
                  replace bS := hu.heap bS (fun e => by (have : w.heap.size + 1 = w.heap.size := e); omega)
                  replace bZ := hu.heap bZ (fun e => by (have : w.heap.size + 1 + 1 = w.heap.size := e); omega)
                  replace bY := hu.heap bY (fun e => by (have : w.heap.size + 1 + 1 + 1 = w.heap.size := e); omega)
                  replace hB3 := Lib.hid (hB3.out.upd hu fun k hk => by subst hk; exact .inr ⟨by omega, by omega⟩)
                  replace hU := hU.trans hu (fun k hk e => by (have : k = w.heap.size := e); omega)
                  have hz8 := hu.size
                  clear hu bD6
                  obtain ⟨v0, v1⟩ := cells_of bD
                  by_cases he5 : e5 = 0
                  · subst he5
                    have hres := Lib.hid (hso.out rfl)
                    clear hso hsf v0 v1
                    go_wp2_with fail
                    refine wp_region_held_drew (S := (fun w' => w'.heap[w.heap.size]? = some (.cells #[.int .i64 m2, .slice ka2 kn2 kc2, .slice pa2 pn2 pc2, .int .i64 f2, .bool dd2] 64 (0, 0)) ∧ w'.heap[w.heap.size + 1]? = some (.cells #[.int .i64 G, .int .i64 sr, .int .i64 ss, .int .i64 se, .int .i64 sl, .int .i64 sm] 23 (0, 0)))) (by kernel_rfl) (by exact ⟨bD, bS⟩) (fun hHeld => ?_)
                    (refine wpAnyH_take (i := 0) (oi := ?oi_zc1) (v := ?v_zc1) ?ho_zc1 ?hs_zc1 ?hf_zc1 ?hr_zc1 ?hQ_zc1 ?hy_zc1 ?hS_zc1 ?rest_zc1; (case hr_zc1 => kernel_rfl); (case hf_zc1 => kernel_rfl); (case hs_zc1 => kernel_rfl); (case ho_zc1 => (simp only [List.getElem?_toArray, List.getElem?_cons_succ, List.getElem?_cons_zero]; rfl)); (case hS_zc1 => assumption); (case hQ_zc1 => exact fun _ _ _ h => h); (case hy_zc1 => (refine Or.inl ⟨by rfl, ?_⟩; (intro w hSw; obtain ⟨s0, s1⟩ := hSw; obtain ⟨e0, g0⟩ := cells_of s0; obtain ⟨e1, g1⟩ := cells_of s1; go_simp) <;> with_reducible rfl)); (try simp only [Act.put, List.setIfInBounds_toArray, List.set_cons_zero, List.set_cons_succ]))
                    (refine wpAnyH_take (i := 1) (oi := ?oi_zc2) (v := ?v_zc2) ?ho_zc2 ?hs_zc2 ?hf_zc2 ?hr_zc2 ?hQ_zc2 ?hy_zc2 ?hS_zc2 ?rest_zc2; (case hr_zc2 => kernel_rfl); (case hf_zc2 => kernel_rfl); (case hs_zc2 => kernel_rfl); (case ho_zc2 => (simp only [List.getElem?_toArray, List.getElem?_cons_succ, List.getElem?_cons_zero]; rfl)); (case hS_zc2 => assumption); (case hQ_zc2 => exact fun _ _ _ h => h); (case hy_zc2 => (refine Or.inl ⟨by rfl, ?_⟩; (intro w hSw; obtain ⟨s0, s1⟩ := hSw; obtain ⟨e0, g0⟩ := cells_of s0; obtain ⟨e1, g1⟩ := cells_of s1; go_simp) <;> with_reducible rfl)); (try simp only [Act.put, List.setIfInBounds_toArray, List.set_cons_zero, List.set_cons_succ]))
                    refine wpAnyH_ready (rs := [2]) (by kernel_rfl) (by simp) ?_
                    refine (AllReadyH.cons (o := ?oozc3_0) ?hozc3_0 ?hszc3_0 AllReadyH.nil)
                    case hozc3_0 => (simp only [List.getElem?_toArray, List.getElem?_cons_succ, List.getElem?_cons_zero]; rfl)
                    case hszc3_0 =>
                      intro K hK
                      refine storeB_step rfl 64 _ _ rfl (w.heap.size + 1 + 1) #[.int .i64 m2, .slice ka2 kn2 kc2, .slice pa2 pn2 pc2, .int .i64 f2, .bool dd2] _ _ rfl rfl bZ rfl hs5.out (by simp [Value.oneCell']) ?_
                      intro w9 bZ9 hu
                      have bY9 := hu.heap bY (fun e => by (have : w.heap.size + 1 + 1 + 1 = w.heap.size + 1 + 1 := e); omega)
                      have bD9 := hu.heap bD (fun e => by (have : w.heap.size = w.heap.size + 1 + 1 := e); omega)
                      have bS9 := hu.heap bS (fun e => by (have : w.heap.size + 1 = w.heap.size + 1 + 1 := e); omega)
                      have hB9 := (hB3.out.non (Upd.drew Non w8)).upd hu fun k hk => by subst hk; exact .inr ⟨by omega, by omega⟩
                      have hU9 := hU.then_drew.trans hu (fun k hk e => by (have : k = w.heap.size + 1 + 1 := e); omega)
                      have hz9 := hu.size
                      try go_wp2_with fail
                      refine hK.out _ _ (by exact ⟨bD9, bS9⟩) (fun hHeld => ?_)
                      clear hK K hu
                      try simp only [Act.put, List.setIfInBounds_toArray, List.set_cons_zero, List.set_cons_succ]
                      refine wpAnyH_ready (rs := [3]) (by kernel_rfl) (by simp) ?_
                      refine (AllReadyH.cons (o := ?oozc4_0) ?hozc4_0 ?hszc4_0 AllReadyH.nil)
                      case hozc4_0 => (simp only [List.getElem?_toArray, List.getElem?_cons_succ, List.getElem?_cons_zero]; rfl)
                      case hszc4_0 =>
                        intro K hK
                        refine storeB_step rfl 23 _ _ rfl (w.heap.size + 1 + 1 + 1) #[.int .i64 G, .int .i64 sr, .int .i64 ss, .int .i64 se, .int .i64 sl, .int .i64 sm] _ _ rfl rfl bY9 rfl size_sp.out (by simp [Value.oneCell']) ?_
                        intro w10 bY10 hu
                        have bZ10 := hu.heap bZ9 (fun e => by (have : w.heap.size + 1 + 1 = w.heap.size + 1 + 1 + 1 := e); omega)
                        have bD10 := hu.heap bD9 (fun e => by (have : w.heap.size = w.heap.size + 1 + 1 + 1 := e); omega)
                        have bS10 := hu.heap bS9 (fun e => by (have : w.heap.size + 1 = w.heap.size + 1 + 1 + 1 := e); omega)
                        have hB10 := hB9.upd hu fun k hk => by subst hk; exact .inr ⟨by omega, by omega⟩
                        have hU10 := hU9.trans hu (fun k hk e => by (have : k = w.heap.size + 1 + 1 + 1 := e); omega)
                        try go_wp2_with fail
                        refine hK.out _ _ (by exact ⟨bD10, bS10⟩) (fun hHeld => ?_)
                        clear hK K hu
                        try simp only [Act.put, List.setIfInBounds_toArray, List.set_cons_zero, List.set_cons_succ]
                        (refine wpAnyH_take (i := 4) (oi := ?oi_zc5) (v := ?v_zc5) ?ho_zc5 ?hs_zc5 ?hf_zc5 ?hr_zc5 ?hQ_zc5 ?hy_zc5 ?hS_zc5 ?rest_zc5; (case hr_zc5 => kernel_rfl); (case hf_zc5 => kernel_rfl); (case hs_zc5 => kernel_rfl); (case ho_zc5 => (simp only [List.getElem?_toArray, List.getElem?_cons_succ, List.getElem?_cons_zero]; rfl)); (case hS_zc5 => assumption); (case hQ_zc5 => exact fun _ _ _ h => h); (case hy_zc5 => (refine Or.inl ⟨by rfl, ?_⟩; (intro w hSw; skip; go_simp) <;> with_reducible rfl)); (try simp only [Act.put, List.setIfInBounds_toArray, List.set_cons_zero, List.set_cons_succ]))
                        refine wpAnyH_done (by kernel_rfl) ?_ _
                        obtain ⟨e0, g0⟩ := cells_of bZ10
                        obtain ⟨x0, x1, x2, x3, x4, x5⟩ := cells6 bY10
                        clear hHeld
                        go_wp2_with fail
                        refine bodyPost_ret (v := .tuple #[.agg #[.int .i64 m2, .slice ka2 kn2 kc2, .slice pa2 pn2 pc2, .int .i64 f2, .bool dd2], .agg #[.int .i64 G, .int .i64 sr, .int .i64 ss, .int .i64 se, .int .i64 sl, .int .i64 sm], .int .i64 0]) (by simp [results, Try.results28, go_sem, e0, x0, x1, x2, x3, x4, x5]; try rfl) rfl ⟨_, _, _, by rw [hres.out, hlit2.out]; rfl, by rw [hres.out]; exact hS2.out, hB10.sub fun k hk => .inl hk, hU10⟩
                  · have hres := Lib.hid (hsf.out he5)
                    have he52 : (e5 != 0) = true := by simp [he5]
                    replace he5 := Lib.hid he5
                    clear hso hsf
                    go_wp2_with ((with_reducible (show wpList _ _ _ (⟨_, Op.store _ _ _, _, _, _, _⟩ :: _) _ _)); refine storeB_list rfl 64 _ _ rfl (w.heap.size + 1 + 1) #[.int .i64 m2, .slice ka2 kn2 kc2, .slice pa2 pn2 pc2, .int .i64 f2, .bool dd2] _ _ rfl rfl bZ rfl hs5.out (by simp [Value.oneCell']) ?_)
                    intro wa ba hua
                    have bYa := hua.heap bY (fun e => by (have : w.heap.size + 1 + 1 + 1 = w.heap.size + 1 + 1 := e); omega)
                    have hBa := hB3.out.upd hua fun k hk => by subst hk; exact .inr ⟨by omega, by omega⟩
                    have hUa := hU.trans hua (fun k hk e => by (have : k = w.heap.size + 1 + 1 := e); omega)
                    have hza := hua.size
                    clear hua bY bZ
                    go_wp2_with ((with_reducible (show wpList _ _ _ (⟨_, Op.store _ _ _, _, _, _, _⟩ :: _) _ _)); refine storeB_list rfl 23 _ _ rfl (w.heap.size + 1 + 1 + 1) #[.int .i64 0, .int .i64 0, .int .i64 0, .int .i64 0, .int .i64 0, .int .i64 0] _ _ rfl rfl bYa rfl size_sp.out (by simp [Value.oneCell']) ?_)
                    intro wb bb hub
                    have bab := hub.heap ba (fun e => by (have : w.heap.size + 1 + 1 = w.heap.size + 1 + 1 + 1 := e); omega)
                    have hBb := hBa.upd hub fun k hk => by subst hk; exact .inr ⟨by omega, by omega⟩
                    have hUb := hUa.trans hub (fun k hk e => by (have : k = w.heap.size + 1 + 1 + 1 := e); omega)
                    obtain ⟨e0, g0⟩ := cells_of bab
                    obtain ⟨x0, x1, x2, x3, x4, x5⟩ := cells6 bb
                    go_wp2_with fail
                    refine bodyPost_ret (v := .tuple #[.agg #[.int .i64 m2, .slice ka2 kn2 kc2, .slice pa2 pn2 pc2, .int .i64 f2, .bool dd2], .agg #[.int .i64 0, .int .i64 0, .int .i64 0, .int .i64 0, .int .i64 0, .int .i64 0], .int .i64 e5]) (by simp [results, Try.results28, go_sem, e0, x0, x1, x2, x3, x4, x5]; try rfl) rfl ⟨_, _, _, by rw [hres.out, hlit2.out]; rfl, by rw [hres.out]; exact hS2.out, hBb.sub fun k hk => .inl hk, hUb⟩
                · have hres := Lib.hid (hsw.out he4)
                  have he43 : (e4 != 0) = true := by simp [he4]
                  replace he4 := Lib.hid he4
                  clear hsw hsf hso
                  go_wp2_with ((with_reducible (show wpList _ _ _ (⟨_, Op.store _ _ _, _, _, _, _⟩ :: _) _ _)); refine storeB_list rfl 64 _ _ rfl (w.heap.size + 1 + 1) #[.int .i64 m1, .slice ka1 kn1 kc1, .slice pa1 pn1 pc1, .int .i64 f1, .bool dd1] _ _ rfl rfl bZ rfl hs5.out (by simp [Value.oneCell']) ?_)
                  intro wa ba hua
                  have bYa := hua.heap bY (fun e => by (have : w.heap.size + 1 + 1 + 1 = w.heap.size + 1 + 1 := e); omega)
                  have hBa := hB2.out.upd hua fun k hk => by subst hk; exact .inr ⟨by omega, by omega⟩
                  have hUa := hU.trans hua (fun k hk e => by (have : k = w.heap.size + 1 + 1 := e); omega)
                  have hza := hua.size
                  clear hua bY bZ
                  go_wp2_with ((with_reducible (show wpList _ _ _ (⟨_, Op.store _ _ _, _, _, _, _⟩ :: _) _ _)); refine storeB_list rfl 23 _ _ rfl (w.heap.size + 1 + 1 + 1) #[.int .i64 0, .int .i64 0, .int .i64 0, .int .i64 0, .int .i64 0, .int .i64 0] _ _ rfl rfl bYa rfl size_sp.out (by simp [Value.oneCell']) ?_)
                  intro wb bb hub
                  have bab := hub.heap ba (fun e => by (have : w.heap.size + 1 + 1 = w.heap.size + 1 + 1 + 1 := e); omega)
                  have hBb := hBa.upd hub fun k hk => by subst hk; exact .inr ⟨by omega, by omega⟩
                  have hUb := hUa.trans hub (fun k hk e => by (have : k = w.heap.size + 1 + 1 + 1 := e); omega)
                  obtain ⟨e0, g0⟩ := cells_of bab
                  obtain ⟨x0, x1, x2, x3, x4, x5⟩ := cells6 bb
                  go_wp2_with fail
                  refine bodyPost_ret (v := .tuple #[.agg #[.int .i64 m1, .slice ka1 kn1 kc1, .slice pa1 pn1 pc1, .int .i64 f1, .bool dd1], .agg #[.int .i64 0, .int .i64 0, .int .i64 0, .int .i64 0, .int .i64 0, .int .i64 0], .int .i64 e4]) (by simp [results, Try.results28, go_sem, e0, x0, x1, x2, x3, x4, x5]; try rfl) rfl ⟨_, _, _, by rw [hres.out, hlit1.out]; rfl, by rw [hres.out]; exact hS1.out, hBb.sub fun k hk => .inl hk, hUb⟩
        case hswb5_1 =>
          intro K hK
          go_simp
          go_at_call 36
          refine (hput.out w3.drew).mono ?_
          rintro en w4 ⟨rfl, hu⟩
          replace bD := hu.heap bD fun h => h
          replace bS := hu.heap bS fun h => h
          replace bZ := hu.heap bZ fun h => h
          replace bY := hu.heap bY fun h => h
          replace hB1 := Lib.hid (hB1.out.non hu)
          replace hU := hU.trans hu fun _ _ h => h
          have hz4 := hu.size
          clear hu hput
          try go_wp2_with fail
          refine hK.out _ _ (by exact bS) (fun hHeld => ?_)
          clear hK K
          try simp only [Act.put, List.setIfInBounds_toArray, List.set_cons_zero, List.set_cons_succ]
          refine wpAnyH_ready (rs := [0]) (by kernel_rfl) (by simp) ?_
          refine (AllReadyH.cons (o := ?oowb13_0) ?howb13_0 ?hswb13_0 AllReadyH.nil)
          case howb13_0 => (simp only [List.getElem?_toArray, List.getElem?_cons_succ, List.getElem?_cons_zero]; rfl)
          case hswb13_0 =>
            intro K hK
            obtain ⟨v0, v1⟩ := cells_of bD
            go_simp
            try go_wp2_with fail
            refine hK.out _ _ (by exact bS) (fun hHeld => ?_)
            clear hK K v0 v1
            try simp only [Act.put, List.setIfInBounds_toArray, List.set_cons_zero, List.set_cons_succ]
            refine wpAnyH_ready (rs := [6]) (by kernel_rfl) (by simp) ?_
            refine (AllReadyH.cons (o := ?oowb14_0) ?howb14_0 ?hswb14_0 AllReadyH.nil)
            case howb14_0 => (simp only [List.getElem?_toArray, List.getElem?_cons_succ, List.getElem?_cons_zero]; rfl)
            case hswb14_0 =>
              intro K hK
              go_simp
              go_at_call 23
              refine (cW.out _ _ hB1.out).mono ?_
              rintro en w5 ⟨m1, ka1, kn1, kc1, pa1, pn1, pc1, f1, dd1, rfl, hlit1, hB2, hu⟩
              replace bD := hu.heap bD fun h => h
              replace bS := hu.heap bS fun h => h
              replace bZ := hu.heap bZ fun h => h
              replace bY := hu.heap bY fun h => h
              replace hU := hU.trans hu fun _ _ h => h
              have hz5 := hu.size
              clear hu cW hB1
              replace hB2 := Lib.hid hB2
              replace hlit1 := Lib.hid hlit1
              try go_wp2_with fail
              refine hK.out _ _ (by exact bS) (fun hHeld => ?_)
              clear hK K
              try simp only [Act.put, List.setIfInBounds_toArray, List.set_cons_zero, List.set_cons_succ]
              (refine wpAnyH_take (i := 7) (oi := ?oi_wb15) (v := ?v_wb15) ?ho_wb15 ?hs_wb15 ?hf_wb15 ?hr_wb15 ?hQ_wb15 ?hy_wb15 ?hS_wb15 ?rest_wb15; (case hr_wb15 => kernel_rfl); (case hf_wb15 => kernel_rfl); (case hs_wb15 => kernel_rfl); (case ho_wb15 => (simp only [List.getElem?_toArray, List.getElem?_cons_succ, List.getElem?_cons_zero]; rfl)); (case hS_wb15 => assumption); (case hQ_wb15 => exact fun _ _ _ h => h); (case hy_wb15 => (refine Or.inl ⟨by rfl, ?_⟩; (intro w hSw; obtain ⟨e1, g1⟩ := cells_of hSw; go_simp) <;> with_reducible rfl)); (try simp only [Act.put, List.setIfInBounds_toArray, List.set_cons_zero, List.set_cons_succ]))
              (refine wpAnyH_take (i := 8) (oi := ?oi_wb16) (v := ?v_wb16) ?ho_wb16 ?hs_wb16 ?hf_wb16 ?hr_wb16 ?hQ_wb16 ?hy_wb16 ?hS_wb16 ?rest_wb16; (case hr_wb16 => kernel_rfl); (case hf_wb16 => kernel_rfl); (case hs_wb16 => kernel_rfl); (case ho_wb16 => (simp only [List.getElem?_toArray, List.getElem?_cons_succ, List.getElem?_cons_zero]; rfl)); (case hS_wb16 => assumption); (case hQ_wb16 => exact fun _ _ _ h => h); (case hy_wb16 => (refine Or.inl ⟨by rfl, ?_⟩; (intro w hSw; obtain ⟨e1, g1⟩ := cells_of hSw; go_simp) <;> with_reducible rfl)); (try simp only [Act.put, List.setIfInBounds_toArray, List.set_cons_zero, List.set_cons_succ]))
              (refine wpAnyH_take (i := 9) (oi := ?oi_wb17) (v := ?v_wb17) ?ho_wb17 ?hs_wb17 ?hf_wb17 ?hr_wb17 ?hQ_wb17 ?hy_wb17 ?hS_wb17 ?rest_wb17; (case hr_wb17 => kernel_rfl); (case hf_wb17 => kernel_rfl); (case hs_wb17 => kernel_rfl); (case ho_wb17 => (simp only [List.getElem?_toArray, List.getElem?_cons_succ, List.getElem?_cons_zero]; rfl)); (case hS_wb17 => assumption); (case hQ_wb17 => exact fun _ _ _ h => h); (case hy_wb17 => (refine Or.inl ⟨by rfl, ?_⟩; (intro w hSw; obtain ⟨e1, g1⟩ := cells_of hSw; go_simp) <;> with_reducible rfl)); (try simp only [Act.put, List.setIfInBounds_toArray, List.set_cons_zero, List.set_cons_succ]))
              refine wpAnyH_ready (rs := [10]) (by kernel_rfl) (by simp) ?_
              refine (AllReadyH.cons (o := ?oowb18_0) ?howb18_0 ?hswb18_0 AllReadyH.nil)
              case howb18_0 => (simp only [List.getElem?_toArray, List.getElem?_cons_succ, List.getElem?_cons_zero]; rfl)
              case hswb18_0 =>
                intro K hK
                refine storeB_step rfl 64 _ _ rfl w.heap.size #[.int .i64 m1, .slice ka1 kn1 kc1, .slice pa1 pn1 pc1, .int .i64 f1, .bool dd1] _ _ rfl rfl bD rfl hs5.out (by simp [Value.oneCell']) ?_
                intro w6 bD6 hu
                replace bS := hu.heap bS (fun e => by (have : w.heap.size + 1 = w.heap.size := e); omega)
                replace bZ := hu.heap bZ (fun e => by (have : w.heap.size + 1 + 1 = w.heap.size := e); omega)
                replace bY := hu.heap bY (fun e => by (have : w.heap.size + 1 + 1 + 1 = w.heap.size := e); omega)
                replace hB2 := Lib.hid (hB2.out.upd hu fun k hk => by subst hk; exact .inr ⟨by omega, by omega⟩)
                replace hU := hU.trans hu (fun k hk e => by (have : k = w.heap.size := e); omega)
                have hz6 := hu.size
                clear hu bD
                try go_wp2_with fail
                refine hK.out _ _ (by exact bS) (fun hHeld => ?_)
                clear hK K
                try simp only [Act.put, List.setIfInBounds_toArray, List.set_cons_zero, List.set_cons_succ]
                (refine wpAnyH_take (i := 11) (oi := ?oi_wb19) (v := ?v_wb19) ?ho_wb19 ?hs_wb19 ?hf_wb19 ?hr_wb19 ?hQ_wb19 ?hy_wb19 ?hS_wb19 ?rest_wb19; (case hr_wb19 => kernel_rfl); (case hf_wb19 => kernel_rfl); (case hs_wb19 => kernel_rfl); (case ho_wb19 => (simp only [List.getElem?_toArray, List.getElem?_cons_succ, List.getElem?_cons_zero]; rfl)); (case hS_wb19 => assumption); (case hQ_wb19 => exact fun _ _ _ h => h); (case hy_wb19 => (refine Or.inl ⟨by rfl, ?_⟩; (intro w hSw; skip; go_simp) <;> with_reducible rfl)); (try simp only [Act.put, List.setIfInBounds_toArray, List.set_cons_zero, List.set_cons_succ]))
                refine wpAnyH_done (by kernel_rfl) ?_ _
                clear hHeld
                generalize d.write (G % 2) (putS ⟨G, sr, ss, se, sl, sm⟩) = wr at *
                obtain ⟨d4, e4⟩ := wr
                simp only at hsw hsf hso hS1 hok4 hP4
                obtain ⟨v0, v1⟩ := cells_of bD6
                by_cases he4 : e4 = 0
                · subst he4
                  replace hsf := Lib.hid (hsf.out rfl)
                  replace hso := Lib.hid (hso.out rfl)
                  have hflu := (hS1.out.flush hok4.out).1
                  have cF : Hid (∀ (w' : World) B', Bth B' w0 w' D F d0 (r.write (G % 2) (putS ⟨G, sr, ss, se, sl, sm⟩)).1 (.slice ka1 kn1 kc1) (.slice pa1 pn1 pc1) → _) := Lib.hid (fun w' B' hB => bthFlush hB hS1.out hok4.out hP4.out)
                  simp only [hlit1.out] at cF
                  generalize (r.write (G % 2) (putS ⟨G, sr, ss, se, sl, sm⟩)).1.flushR.1 = r5 at *
                  generalize d4.flush = fr at *
                  obtain ⟨d5, e5⟩ := fr
                  simp only at hsf hso hflu cF
                  have hS2 := Lib.hid hflu
                  clear hflu hsw
                  go_wp2_with fail
                  refine (cF.out _ _ hB2.out).mono ?_
                  rintro en w7 ⟨m2, ka2, kn2, kc2, pa2, pn2, pc2, f2, dd2, rfl, hlit2, hB3, hu⟩
                  replace bD6 := hu.heap bD6 fun h => h
                  replace bS := hu.heap bS fun h => h
                  replace bZ := hu.heap bZ fun h => h
                  replace bY := hu.heap bY fun h => h
                  replace hU := hU.trans hu fun _ _ h => h
                  have hz7 := hu.size
                  replace hlit2 := Lib.hid hlit2
                  clear hu hB2 cF v0 v1 hlit1 hlit
                  replace hB3 := Lib.hid hB3
                  go_wp2_with ((with_reducible (show wpList _ _ _ (⟨_, Op.store _ _ _, _, _, _, _⟩ :: _) _ _)); refine storeB_list rfl 64 _ _ rfl w.heap.size #[.int .i64 m2, .slice ka2 kn2 kc2, .slice pa2 pn2 pc2, .int .i64 f2, .bool dd2] _ _ rfl rfl bD6 rfl hs5.out (by simp [Value.oneCell']) ?_)
                  intro w8 bD hu
                  replace bS := hu.heap bS (fun e => by (have : w.heap.size + 1 = w.heap.size := e); omega)
                  replace bZ := hu.heap bZ (fun e => by (have : w.heap.size + 1 + 1 = w.heap.size := e); omega)
                  replace bY := hu.heap bY (fun e => by (have : w.heap.size + 1 + 1 + 1 = w.heap.size := e); omega)
                  replace hB3 := Lib.hid (hB3.out.upd hu fun k hk => by subst hk; exact .inr ⟨by omega, by omega⟩)
                  replace hU := hU.trans hu (fun k hk e => by (have : k = w.heap.size := e); omega)
                  have hz8 := hu.size
                  clear hu bD6
                  obtain ⟨v0, v1⟩ := cells_of bD
                  by_cases he5 : e5 = 0
                  · subst he5
                    have hres := Lib.hid (hso.out rfl)
                    clear hso hsf v0 v1
                    go_wp2_with fail
                    refine wp_region_held_drew (S := (fun w' => w'.heap[w.heap.size]? = some (.cells #[.int .i64 m2, .slice ka2 kn2 kc2, .slice pa2 pn2 pc2, .int .i64 f2, .bool dd2] 64 (0, 0)) ∧ w'.heap[w.heap.size + 1]? = some (.cells #[.int .i64 G, .int .i64 sr, .int .i64 ss, .int .i64 se, .int .i64 sl, .int .i64 sm] 23 (0, 0)))) (by kernel_rfl) (by exact ⟨bD, bS⟩) (fun hHeld => ?_)
                    (refine wpAnyH_take (i := 0) (oi := ?oi_zd1) (v := ?v_zd1) ?ho_zd1 ?hs_zd1 ?hf_zd1 ?hr_zd1 ?hQ_zd1 ?hy_zd1 ?hS_zd1 ?rest_zd1; (case hr_zd1 => kernel_rfl); (case hf_zd1 => kernel_rfl); (case hs_zd1 => kernel_rfl); (case ho_zd1 => (simp only [List.getElem?_toArray, List.getElem?_cons_succ, List.getElem?_cons_zero]; rfl)); (case hS_zd1 => assumption); (case hQ_zd1 => exact fun _ _ _ h => h); (case hy_zd1 => (refine Or.inl ⟨by rfl, ?_⟩; (intro w hSw; obtain ⟨s0, s1⟩ := hSw; obtain ⟨e0, g0⟩ := cells_of s0; obtain ⟨e1, g1⟩ := cells_of s1; go_simp) <;> with_reducible rfl)); (try simp only [Act.put, List.setIfInBounds_toArray, List.set_cons_zero, List.set_cons_succ]))
                    (refine wpAnyH_take (i := 1) (oi := ?oi_zd2) (v := ?v_zd2) ?ho_zd2 ?hs_zd2 ?hf_zd2 ?hr_zd2 ?hQ_zd2 ?hy_zd2 ?hS_zd2 ?rest_zd2; (case hr_zd2 => kernel_rfl); (case hf_zd2 => kernel_rfl); (case hs_zd2 => kernel_rfl); (case ho_zd2 => (simp only [List.getElem?_toArray, List.getElem?_cons_succ, List.getElem?_cons_zero]; rfl)); (case hS_zd2 => assumption); (case hQ_zd2 => exact fun _ _ _ h => h); (case hy_zd2 => (refine Or.inl ⟨by rfl, ?_⟩; (intro w hSw; obtain ⟨s0, s1⟩ := hSw; obtain ⟨e0, g0⟩ := cells_of s0; obtain ⟨e1, g1⟩ := cells_of s1; go_simp) <;> with_reducible rfl)); (try simp only [Act.put, List.setIfInBounds_toArray, List.set_cons_zero, List.set_cons_succ]))
                    refine wpAnyH_ready (rs := [2]) (by kernel_rfl) (by simp) ?_
                    refine (AllReadyH.cons (o := ?oozd3_0) ?hozd3_0 ?hszd3_0 AllReadyH.nil)
                    case hozd3_0 => (simp only [List.getElem?_toArray, List.getElem?_cons_succ, List.getElem?_cons_zero]; rfl)
                    case hszd3_0 =>
                      intro K hK
                      refine storeB_step rfl 64 _ _ rfl (w.heap.size + 1 + 1) #[.int .i64 m2, .slice ka2 kn2 kc2, .slice pa2 pn2 pc2, .int .i64 f2, .bool dd2] _ _ rfl rfl bZ rfl hs5.out (by simp [Value.oneCell']) ?_
                      intro w9 bZ9 hu
                      have bY9 := hu.heap bY (fun e => by (have : w.heap.size + 1 + 1 + 1 = w.heap.size + 1 + 1 := e); omega)
                      have bD9 := hu.heap bD (fun e => by (have : w.heap.size = w.heap.size + 1 + 1 := e); omega)
                      have bS9 := hu.heap bS (fun e => by (have : w.heap.size + 1 = w.heap.size + 1 + 1 := e); omega)
                      have hB9 := (hB3.out.non (Upd.drew Non w8)).upd hu fun k hk => by subst hk; exact .inr ⟨by omega, by omega⟩
                      have hU9 := hU.then_drew.trans hu (fun k hk e => by (have : k = w.heap.size + 1 + 1 := e); omega)
                      have hz9 := hu.size
                      try go_wp2_with fail
                      refine hK.out _ _ (by exact ⟨bD9, bS9⟩) (fun hHeld => ?_)
                      clear hK K hu
                      try simp only [Act.put, List.setIfInBounds_toArray, List.set_cons_zero, List.set_cons_succ]
                      refine wpAnyH_ready (rs := [3]) (by kernel_rfl) (by simp) ?_
                      refine (AllReadyH.cons (o := ?oozd4_0) ?hozd4_0 ?hszd4_0 AllReadyH.nil)
                      case hozd4_0 => (simp only [List.getElem?_toArray, List.getElem?_cons_succ, List.getElem?_cons_zero]; rfl)
                      case hszd4_0 =>
                        intro K hK
                        refine storeB_step rfl 23 _ _ rfl (w.heap.size + 1 + 1 + 1) #[.int .i64 G, .int .i64 sr, .int .i64 ss, .int .i64 se, .int .i64 sl, .int .i64 sm] _ _ rfl rfl bY9 rfl size_sp.out (by simp [Value.oneCell']) ?_
                        intro w10 bY10 hu
                        have bZ10 := hu.heap bZ9 (fun e => by (have : w.heap.size + 1 + 1 = w.heap.size + 1 + 1 + 1 := e); omega)
                        have bD10 := hu.heap bD9 (fun e => by (have : w.heap.size = w.heap.size + 1 + 1 + 1 := e); omega)
                        have bS10 := hu.heap bS9 (fun e => by (have : w.heap.size + 1 = w.heap.size + 1 + 1 + 1 := e); omega)
                        have hB10 := hB9.upd hu fun k hk => by subst hk; exact .inr ⟨by omega, by omega⟩
                        have hU10 := hU9.trans hu (fun k hk e => by (have : k = w.heap.size + 1 + 1 + 1 := e); omega)
                        try go_wp2_with fail
                        refine hK.out _ _ (by exact ⟨bD10, bS10⟩) (fun hHeld => ?_)
                        clear hK K hu
                        try simp only [Act.put, List.setIfInBounds_toArray, List.set_cons_zero, List.set_cons_succ]
                        (refine wpAnyH_take (i := 4) (oi := ?oi_zd5) (v := ?v_zd5) ?ho_zd5 ?hs_zd5 ?hf_zd5 ?hr_zd5 ?hQ_zd5 ?hy_zd5 ?hS_zd5 ?rest_zd5; (case hr_zd5 => kernel_rfl); (case hf_zd5 => kernel_rfl); (case hs_zd5 => kernel_rfl); (case ho_zd5 => (simp only [List.getElem?_toArray, List.getElem?_cons_succ, List.getElem?_cons_zero]; rfl)); (case hS_zd5 => assumption); (case hQ_zd5 => exact fun _ _ _ h => h); (case hy_zd5 => (refine Or.inl ⟨by rfl, ?_⟩; (intro w hSw; skip; go_simp) <;> with_reducible rfl)); (try simp only [Act.put, List.setIfInBounds_toArray, List.set_cons_zero, List.set_cons_succ]))
                        refine wpAnyH_done (by kernel_rfl) ?_ _
                        obtain ⟨e0, g0⟩ := cells_of bZ10
                        obtain ⟨x0, x1, x2, x3, x4, x5⟩ := cells6 bY10
                        clear hHeld
                        go_wp2_with fail
                        refine bodyPost_ret (v := .tuple #[.agg #[.int .i64 m2, .slice ka2 kn2 kc2, .slice pa2 pn2 pc2, .int .i64 f2, .bool dd2], .agg #[.int .i64 G, .int .i64 sr, .int .i64 ss, .int .i64 se, .int .i64 sl, .int .i64 sm], .int .i64 0]) (by simp [results, Try.results28, go_sem, e0, x0, x1, x2, x3, x4, x5]; try rfl) rfl ⟨_, _, _, by rw [hres.out, hlit2.out]; rfl, by rw [hres.out]; exact hS2.out, hB10.sub fun k hk => .inl hk, hU10⟩
                  · have hres := Lib.hid (hsf.out he5)
                    have he52 : (e5 != 0) = true := by simp [he5]
                    replace he5 := Lib.hid he5
                    clear hso hsf
                    go_wp2_with ((with_reducible (show wpList _ _ _ (⟨_, Op.store _ _ _, _, _, _, _⟩ :: _) _ _)); refine storeB_list rfl 64 _ _ rfl (w.heap.size + 1 + 1) #[.int .i64 m2, .slice ka2 kn2 kc2, .slice pa2 pn2 pc2, .int .i64 f2, .bool dd2] _ _ rfl rfl bZ rfl hs5.out (by simp [Value.oneCell']) ?_)
                    intro wa ba hua
                    have bYa := hua.heap bY (fun e => by (have : w.heap.size + 1 + 1 + 1 = w.heap.size + 1 + 1 := e); omega)
                    have hBa := hB3.out.upd hua fun k hk => by subst hk; exact .inr ⟨by omega, by omega⟩
                    have hUa := hU.trans hua (fun k hk e => by (have : k = w.heap.size + 1 + 1 := e); omega)
                    have hza := hua.size
                    clear hua bY bZ
                    go_wp2_with ((with_reducible (show wpList _ _ _ (⟨_, Op.store _ _ _, _, _, _, _⟩ :: _) _ _)); refine storeB_list rfl 23 _ _ rfl (w.heap.size + 1 + 1 + 1) #[.int .i64 0, .int .i64 0, .int .i64 0, .int .i64 0, .int .i64 0, .int .i64 0] _ _ rfl rfl bYa rfl size_sp.out (by simp [Value.oneCell']) ?_)
                    intro wb bb hub
                    have bab := hub.heap ba (fun e => by (have : w.heap.size + 1 + 1 = w.heap.size + 1 + 1 + 1 := e); omega)
                    have hBb := hBa.upd hub fun k hk => by subst hk; exact .inr ⟨by omega, by omega⟩
                    have hUb := hUa.trans hub (fun k hk e => by (have : k = w.heap.size + 1 + 1 + 1 := e); omega)
                    obtain ⟨e0, g0⟩ := cells_of bab
                    obtain ⟨x0, x1, x2, x3, x4, x5⟩ := cells6 bb
                    go_wp2_with fail
                    refine bodyPost_ret (v := .tuple #[.agg #[.int .i64 m2, .slice ka2 kn2 kc2, .slice pa2 pn2 pc2, .int .i64 f2, .bool dd2], .agg #[.int .i64 0, .int .i64 0, .int .i64 0, .int .i64 0, .int .i64 0, .int .i64 0], .int .i64 e5]) (by simp [results, Try.results28, go_sem, e0, x0, x1, x2, x3, x4, x5]; try rfl) rfl ⟨_, _, _, by rw [hres.out, hlit2.out]; rfl, by rw [hres.out]; exact hS2.out, hBb.sub fun k hk => .inl hk, hUb⟩
                · have hres := Lib.hid (hsw.out he4)
                  have he43 : (e4 != 0) = true := by simp [he4]
                  replace he4 := Lib.hid he4
                  clear hsw hsf hso
                  go_wp2_with ((with_reducible (show wpList _ _ _ (⟨_, Op.store _ _ _, _, _, _, _⟩ :: _) _ _)); refine storeB_list rfl 64 _ _ rfl (w.heap.size + 1 + 1) #[.int .i64 m1, .slice ka1 kn1 kc1, .slice pa1 pn1 pc1, .int .i64 f1, .bool dd1] _ _ rfl rfl bZ rfl hs5.out (by simp [Value.oneCell']) ?_)
                  intro wa ba hua
                  have bYa := hua.heap bY (fun e => by (have : w.heap.size + 1 + 1 + 1 = w.heap.size + 1 + 1 := e); omega)
                  have hBa := hB2.out.upd hua fun k hk => by subst hk; exact .inr ⟨by omega, by omega⟩
                  have hUa := hU.trans hua (fun k hk e => by (have : k = w.heap.size + 1 + 1 := e); omega)
                  have hza := hua.size
                  clear hua bY bZ
                  go_wp2_with ((with_reducible (show wpList _ _ _ (⟨_, Op.store _ _ _, _, _, _, _⟩ :: _) _ _)); refine storeB_list rfl 23 _ _ rfl (w.heap.size + 1 + 1 + 1) #[.int .i64 0, .int .i64 0, .int .i64 0, .int .i64 0, .int .i64 0, .int .i64 0] _ _ rfl rfl bYa rfl size_sp.out (by simp [Value.oneCell']) ?_)
                  intro wb bb hub
                  have bab := hub.heap ba (fun e => by (have : w.heap.size + 1 + 1 = w.heap.size + 1 + 1 + 1 := e); omega)
                  have hBb := hBa.upd hub fun k hk => by subst hk; exact .inr ⟨by omega, by omega⟩
                  have hUb := hUa.trans hub (fun k hk e => by (have : k = w.heap.size + 1 + 1 + 1 := e); omega)
                  obtain ⟨e0, g0⟩ := cells_of bab
                  obtain ⟨x0, x1, x2, x3, x4, x5⟩ := cells6 bb
                  go_wp2_with fail
                  refine bodyPost_ret (v := .tuple #[.agg #[.int .i64 m1, .slice ka1 kn1 kc1, .slice pa1 pn1 pc1, .int .i64 f1, .bool dd1], .agg #[.int .i64 0, .int .i64 0, .int .i64 0, .int .i64 0, .int .i64 0, .int .i64 0], .int .i64 e4]) (by simp [results, Try.results28, go_sem, e0, x0, x1, x2, x3, x4, x5]; try rfl) rfl ⟨_, _, _, by rw [hres.out, hlit1.out]; rfl, by rw [hres.out]; exact hS1.out, hBb.sub fun k hk => .inl hk, hUb⟩
      · have hres : Hid (saveR d ⟨sg, sr, ss, se, sl, sm⟩ = (d, Sp.none, 2)) := Lib.hid (save_arg (by rw [hfr]; simp) hG.out hgm hsp)
        rw [decide_eq_false hsp] at hrt
        unfold spV at hrt
        simp only at hrt
        replace hs := Lib.hid hs
        clear hfr hsp hok hP
        replace hgm := Lib.hid hgm
        go_enter Try.func28, Try.ntmps28
        go_wp2_with fail
        refine (cFi.out _ (((((Upd.refl Non w).then_alloc _).then_alloc _).then_alloc _).then_alloc _)).mono ?_
        rintro en w1 ⟨rfl, hX⟩
        obtain ⟨bD, bS, bZ, bY, hz1⟩ := upd_four hX
        have hU : Upd Non w (w1.alloc (.cells #[.int .i64 xg, .int .i64 xr, .int .i64 xs, .int .i64 xe, .int .i64 xl, .int .i64 xm] 23)) := ((((((Upd.refl Non w).then_alloc _).then_alloc _).then_alloc _).then_alloc _).trans hX fun _ _ h => h).then_alloc (.cells #[.int .i64 xg, .int .i64 xr, .int .i64 xs, .int .i64 xe, .int .i64 xl, .int .i64 xm] 23)
        replace bD := (Upd.alloc Non w1 (.cells #[.int .i64 xg, .int .i64 xr, .int .i64 xs, .int .i64 xe, .int .i64 xl, .int .i64 xm] 23)).heap bD fun h => h
        replace bS := (Upd.alloc Non w1 (.cells #[.int .i64 xg, .int .i64 xr, .int .i64 xs, .int .i64 xe, .int .i64 xl, .int .i64 xm] 23)).heap bS fun h => h
        replace bZ := (Upd.alloc Non w1 (.cells #[.int .i64 xg, .int .i64 xr, .int .i64 xs, .int .i64 xe, .int .i64 xl, .int .i64 xm] 23)).heap bZ fun h => h
        replace bY := (Upd.alloc Non w1 (.cells #[.int .i64 xg, .int .i64 xr, .int .i64 xs, .int .i64 xe, .int .i64 xl, .int .i64 xm] 23)).heap bY fun h => h
        have bX := heap_alloc_new w1 (.cells #[.int .i64 xg, .int .i64 xr, .int .i64 xs, .int .i64 xe, .int .i64 xl, .int .i64 xm] 23)
        have hB1 := Lib.hid (hB.out.grow hU)
        have hzA : w1.heap.size + 1 = (w1.alloc (.cells #[.int .i64 xg, .int .i64 xr, .int .i64 xs, .int .i64 xe, .int .i64 xl, .int .i64 xm] 23)).heap.size := by simp
        clear hX cFi
        have zf := (cells_of bS).2 0
        have zc := (cells_of bS).1 0
        obtain ⟨u0, u1, u2, u3, u4, u5⟩ := cells6 bS
        have hT := Upd.setCell (S := fun k => k = w.heap.size + 1) (a := ⟨w.heap.size + 1, 0, none⟩) (w1.alloc (.cells #[.int .i64 xg, .int .i64 xr, .int .i64 xs, .int .i64 xe, .int .i64 xl, .int .i64 xm] 23)) rfl (.int .i64 0)
        have bS0 := set_blk (j := 0) bS (.int .i64 0)
        have bD0 := hT.heap bD (fun e => by (have : w.heap.size = w.heap.size + 1 := e); omega)
        have bZ0 := hT.heap bZ (fun e => by (have : w.heap.size + 1 + 1 = w.heap.size + 1 := e); omega)
        have bY0 := hT.heap bY (fun e => by (have : w.heap.size + 1 + 1 + 1 = w.heap.size + 1 := e); omega)
        have bX0 := hT.heap bX (fun e => by (have : w1.heap.size = w.heap.size + 1 := e); omega)
        have hB0 := Lib.hid (hB1.out.upd hT fun k hk => by subst hk; exact .inr ⟨by omega, by omega⟩)
        have hU0 := hU.trans hT (fun k hk e => by (have : k = w.heap.size + 1 := e); omega)
        have hzS : (w1.alloc (.cells #[.int .i64 xg, .int .i64 xr, .int .i64 xs, .int .i64 xe, .int .i64 xl, .int .i64 xm] 23)).heap.size ≤ ((w1.alloc (.cells #[.int .i64 xg, .int .i64 xr, .int .i64 xs, .int .i64 xe, .int .i64 xl, .int .i64 xm] 23)).setCell ⟨w.heap.size + 1, 0, none⟩ (.int .i64 0)).heap.size := hT.size
        clear hT bS bD bZ bY bX hB1 hU
        have zf0 := (cells_of bS0).2 0
        have zc0 := (cells_of bS0).1 0
        have hT := Upd.setCell (S := fun k => k = w.heap.size + 1) (a := ⟨w.heap.size + 1, 0, none⟩) ((w1.alloc (.cells #[.int .i64 xg, .int .i64 xr, .int .i64 xs, .int .i64 xe, .int .i64 xl, .int .i64 xm] 23)).setCell ⟨w.heap.size + 1, 0, none⟩ (.int .i64 0)) rfl (.int .i64 G)
        have bS := set_blk (j := 0) bS0 (.int .i64 G)
        have bD := hT.heap bD0 (fun e => by (have : w.heap.size = w.heap.size + 1 := e); omega)
        have bZ := hT.heap bZ0 (fun e => by (have : w.heap.size + 1 + 1 = w.heap.size + 1 := e); omega)
        have bY := hT.heap bY0 (fun e => by (have : w.heap.size + 1 + 1 + 1 = w.heap.size + 1 := e); omega)
        have hB1 := Lib.hid (hB0.out.upd hT fun k hk => by subst hk; exact .inr ⟨by omega, by omega⟩)
        have hU := hU0.trans hT (fun k hk e => by (have : k = w.heap.size + 1 := e); omega)
        have hzT := hT.size
        obtain ⟨q0, q1, q2, q3, q4, q5⟩ := cells6 bX0
        clear hT bS0 bD0 bZ0 bY0 bX0 hB0 hU0
        obtain ⟨y0, y1, y2, y3, y4, y5⟩ := cells6 bS
        obtain ⟨v0, v1⟩ := cells_of bD
        go_wp2_with fail
        refine (hrt.out _).mono ?_
        rintro en w3 ⟨rfl, hu⟩
        replace bD := hu.heap bD fun h => h
        replace bS := hu.heap bS fun h => h
        replace bZ := hu.heap bZ fun h => h
        replace bY := hu.heap bY fun h => h
        replace hB1 := Lib.hid (hB1.out.non hu)
        replace hU := hU.trans hu fun _ _ h => h
        have hz3 : w.heap.size + 4 ≤ w3.heap.size := by have := hu.size; omega
        clear hu y0 y1 y2 y3 y4 y5 v0 v1
        obtain ⟨y0, y1, y2, y3, y4, y5⟩ := cells6 bS
        obtain ⟨v0, v1⟩ := cells_of bD
        clear hrt
        go_wp2_with ((with_reducible (show wpList _ _ _ (⟨_, Op.store _ _ _, _, _, _, _⟩ :: _) _ _)); refine storeB_list rfl 64 _ _ rfl (w.heap.size + 1 + 1) #[.int .i64 m, .slice ka kn kc, .slice pa pn pc, .int .i64 f, .bool dd] _ _ rfl rfl bZ rfl hs5.out (by simp [Value.oneCell']) ?_)
        intro wa ba hua
        have bYa := hua.heap bY (fun e => by (have : w.heap.size + 1 + 1 + 1 = w.heap.size + 1 + 1 := e); omega)
        have hBa := hB1.out.upd hua fun k hk => by subst hk; exact .inr ⟨by omega, by omega⟩
        have hUa := hU.trans hua (fun k hk e => by (have : k = w.heap.size + 1 + 1 := e); omega)
        have hza := hua.size
        clear hua bY bZ
        go_wp2_with ((with_reducible (show wpList _ _ _ (⟨_, Op.store _ _ _, _, _, _, _⟩ :: _) _ _)); refine storeB_list rfl 23 _ _ rfl (w.heap.size + 1 + 1 + 1) #[.int .i64 0, .int .i64 0, .int .i64 0, .int .i64 0, .int .i64 0, .int .i64 0] _ _ rfl rfl bYa rfl size_sp.out (by simp [Value.oneCell']) ?_)
        intro wb bb hub
        have bab := hub.heap ba (fun e => by (have : w.heap.size + 1 + 1 = w.heap.size + 1 + 1 + 1 := e); omega)
        have hBb := hBa.upd hub fun k hk => by subst hk; exact .inr ⟨by omega, by omega⟩
        have hUb := hUa.trans hub (fun k hk e => by (have : k = w.heap.size + 1 + 1 + 1 := e); omega)
        obtain ⟨e0, g0⟩ := cells_of bab
        obtain ⟨x0, x1, x2, x3, x4, x5⟩ := cells6 bb
        go_wp2_with fail
        refine bodyPost_ret (v := .tuple #[.agg #[.int .i64 m, .slice ka kn kc, .slice pa pn pc, .int .i64 f, .bool dd], .agg #[.int .i64 0, .int .i64 0, .int .i64 0, .int .i64 0, .int .i64 0, .int .i64 0], .int .i64 2]) (by simp [results, Try.results28, go_sem, e0, x0, x1, x2, x3, x4, x5]; try rfl) rfl ⟨_, _, _, by rw [hres.out, hlit.out]; rfl, by rw [hres.out]; exact hs.out, hBb.sub fun k hk => .inl hk, hUb⟩
  · by_cases he4 : xc = 4
    · subst he4
      have hG : Hid (nextG d = 0) := Lib.hid (by unfold nextG; rw [hfr]; rfl)
      have hGb : (0 : Int) ≤ 0 ∧ (0 : Int) ≤ 1152921504606846977 := by decide
      clear hfo he0
      have hgm : ¬ (1152921504606846976 : Int) < 0 := by decide
      have hgm2 : decide ((1152921504606846976 : Int) < 0) = false := decide_eq_false hgm
      have hrt := Lib.hid (fun w' => qRight ⟨0, sr, ss, se, sl, sm⟩ w')
      by_cases hsp : SpOk ⟨0, sr, ss, se, sl, sm⟩
      · have hput := Lib.hid (fun w' => qPut ⟨0, sr, ss, se, sl, sm⟩ w' hsp)
        rw [decide_eq_true hsp] at hrt
        have hpl : (putS ⟨0, sr, ss, se, sl, sm⟩).length ≤ 1000000 := by rw [putS_length]; decide
        have cW : Hid (∀ (w' : World) B', Bth B' w0 w' D F d0 r kv pv → _) := Lib.hid (fun w' B' hB => bthWrite hB hs hok (Nat.le_trans hP (by decide)) 0 (putS ⟨0, sr, ss, se, sl, sm⟩) hpl)
        simp only [hlit.out] at cW
        have hsw : Hid ((d.write 0 (putS ⟨0, sr, ss, se, sl, sm⟩)).2 ≠ 0 → saveR d ⟨sg, sr, ss, se, sl, sm⟩ = _) := Lib.hid (fun h3 => save_w (s := ⟨sg, sr, ss, se, sl, sm⟩) (by rw [hfr]; simp) hG.out hgm hsp h3)
        have hsf : Hid ((d.write 0 (putS ⟨0, sr, ss, se, sl, sm⟩)).2 = 0 → (d.write 0 (putS ⟨0, sr, ss, se, sl, sm⟩)).1.flush.2 ≠ 0 → saveR d ⟨sg, sr, ss, se, sl, sm⟩ = _) := Lib.hid (fun h3 h4 => save_f (s := ⟨sg, sr, ss, se, sl, sm⟩) (by rw [hfr]; simp) hG.out hgm hsp h3 h4)
        have hso : Hid ((d.write 0 (putS ⟨0, sr, ss, se, sl, sm⟩)).2 = 0 → (d.write 0 (putS ⟨0, sr, ss, se, sl, sm⟩)).1.flush.2 = 0 → saveR d ⟨sg, sr, ss, se, sl, sm⟩ = _) := Lib.hid (fun h3 h4 => save_ok (s := ⟨sg, sr, ss, se, sl, sm⟩) (by rw [hfr]; simp) hG.out hgm hsp h3 h4)
        unfold Sp.at_ at hsw hsf hso
        unfold spV at hrt hput
        simp only at hrt hput hsw hsf hso
        try simp only [show ((0 : Int) % 2) = 0 from rfl] at hsw hsf hso
        have hS1 := Lib.hid ((hs.write 0 (putS ⟨0, sr, ss, se, sl, sm⟩)).1)
        have hok4 := Lib.hid (hok.write 0 (putS ⟨0, sr, ss, se, sl, sm⟩))
        have hP4 : Hid ((d.write 0 (putS ⟨0, sr, ss, se, sl, sm⟩)).1.P.length ≤ 1000000) := Lib.hid (by have := write_P d 0 (putS ⟨0, sr, ss, se, sl, sm⟩); omega)
        clear hfr hsp hs hok hP hpl
        replace hgm := Lib.hid hgm
        go_enter Try.func28, Try.ntmps28
        go_wp2_with fail
        refine (cFi.out _ (((((Upd.refl Non w).then_alloc _).then_alloc _).then_alloc _).then_alloc _)).mono ?_
        rintro en w1 ⟨rfl, hX⟩
        obtain ⟨bD, bS, bZ, bY, hz1⟩ := upd_four hX
        have hU : Upd Non w (w1.alloc (.cells #[.int .i64 xg, .int .i64 xr, .int .i64 xs, .int .i64 xe, .int .i64 xl, .int .i64 xm] 23)) := ((((((Upd.refl Non w).then_alloc _).then_alloc _).then_alloc _).then_alloc _).trans hX fun _ _ h => h).then_alloc (.cells #[.int .i64 xg, .int .i64 xr, .int .i64 xs, .int .i64 xe, .int .i64 xl, .int .i64 xm] 23)
        replace bD := (Upd.alloc Non w1 (.cells #[.int .i64 xg, .int .i64 xr, .int .i64 xs, .int .i64 xe, .int .i64 xl, .int .i64 xm] 23)).heap bD fun h => h
        replace bS := (Upd.alloc Non w1 (.cells #[.int .i64 xg, .int .i64 xr, .int .i64 xs, .int .i64 xe, .int .i64 xl, .int .i64 xm] 23)).heap bS fun h => h
        replace bZ := (Upd.alloc Non w1 (.cells #[.int .i64 xg, .int .i64 xr, .int .i64 xs, .int .i64 xe, .int .i64 xl, .int .i64 xm] 23)).heap bZ fun h => h
        replace bY := (Upd.alloc Non w1 (.cells #[.int .i64 xg, .int .i64 xr, .int .i64 xs, .int .i64 xe, .int .i64 xl, .int .i64 xm] 23)).heap bY fun h => h
        have bX := heap_alloc_new w1 (.cells #[.int .i64 xg, .int .i64 xr, .int .i64 xs, .int .i64 xe, .int .i64 xl, .int .i64 xm] 23)
        have hB1 := Lib.hid (hB.out.grow hU)
        have hzA : w1.heap.size + 1 = (w1.alloc (.cells #[.int .i64 xg, .int .i64 xr, .int .i64 xs, .int .i64 xe, .int .i64 xl, .int .i64 xm] 23)).heap.size := by simp
        clear hX cFi
        have zf := (cells_of bS).2 0
        have zc := (cells_of bS).1 0
        obtain ⟨u0, u1, u2, u3, u4, u5⟩ := cells6 bS
        have hT := Upd.setCell (S := fun k => k = w.heap.size + 1) (a := ⟨w.heap.size + 1, 0, none⟩) (w1.alloc (.cells #[.int .i64 xg, .int .i64 xr, .int .i64 xs, .int .i64 xe, .int .i64 xl, .int .i64 xm] 23)) rfl (.int .i64 0)
        have bS0 := set_blk (j := 0) bS (.int .i64 0)
        have bD0 := hT.heap bD (fun e => by (have : w.heap.size = w.heap.size + 1 := e); omega)
        have bZ0 := hT.heap bZ (fun e => by (have : w.heap.size + 1 + 1 = w.heap.size + 1 := e); omega)
        have bY0 := hT.heap bY (fun e => by (have : w.heap.size + 1 + 1 + 1 = w.heap.size + 1 := e); omega)
        have bX0 := hT.heap bX (fun e => by (have : w1.heap.size = w.heap.size + 1 := e); omega)
        have hB0 := Lib.hid (hB1.out.upd hT fun k hk => by subst hk; exact .inr ⟨by omega, by omega⟩)
        have hU0 := hU.trans hT (fun k hk e => by (have : k = w.heap.size + 1 := e); omega)
        have hzS : (w1.alloc (.cells #[.int .i64 xg, .int .i64 xr, .int .i64 xs, .int .i64 xe, .int .i64 xl, .int .i64 xm] 23)).heap.size ≤ ((w1.alloc (.cells #[.int .i64 xg, .int .i64 xr, .int .i64 xs, .int .i64 xe, .int .i64 xl, .int .i64 xm] 23)).setCell ⟨w.heap.size + 1, 0, none⟩ (.int .i64 0)).heap.size := hT.size
        clear hT bS bD bZ bY bX hB1 hU
        obtain ⟨bS, bD, bZ, bY⟩ := And.intro bS0 (And.intro bD0 (And.intro bZ0 bY0))
        have hB1 := hB0
        have hU := hU0
        clear bS0 bD0 bZ0 bY0 bX0 hB0 hU0
        obtain ⟨y0, y1, y2, y3, y4, y5⟩ := cells6 bS
        obtain ⟨v0, v1⟩ := cells_of bD
        go_wp2_with fail
        refine (hrt.out _).mono ?_
        rintro en w3 ⟨rfl, hu⟩
        replace bD := hu.heap bD fun h => h
        replace bS := hu.heap bS fun h => h
        replace bZ := hu.heap bZ fun h => h
        replace bY := hu.heap bY fun h => h
        replace hB1 := Lib.hid (hB1.out.non hu)
        replace hU := hU.trans hu fun _ _ h => h
        have hz3 : w.heap.size + 4 ≤ w3.heap.size := by have := hu.size; omega
        clear hu y0 y1 y2 y3 y4 y5 v0 v1
        obtain ⟨y0, y1, y2, y3, y4, y5⟩ := cells6 bS
        obtain ⟨v0, v1⟩ := cells_of bD
        clear hrt
        go_wp2_with fail
        refine wp_region_held_drew (S := (fun w' => w'.heap[w.heap.size + 1]? = some (.cells #[.int .i64 0, .int .i64 sr, .int .i64 ss, .int .i64 se, .int .i64 sl, .int .i64 sm] 23 (0, 0)))) (by kernel_rfl) (by exact bS) (fun hHeld => ?_)
        replace bD := (Upd.drew Non w3).heap bD fun h => h
        replace bS := (Upd.drew Non w3).heap bS fun h => h
        replace bZ := (Upd.drew Non w3).heap bZ fun h => h
        replace bY := (Upd.drew Non w3).heap bY fun h => h
        replace hB1 := Lib.hid (hB1.out.non (Upd.drew Non w3))
        replace hU := hU.then_drew
        have hz3' : w.heap.size + 4 ≤ w3.drew.heap.size := hz3
        clear y0 y1 y2 y3 y4 y5 v0 v1 hz3
        (refine wpAnyH_take (i := 1) (oi := ?oi_we1) (v := ?v_we1) ?ho_we1 ?hs_we1 ?hf_we1 ?hr_we1 ?hQ_we1 ?hy_we1 ?hS_we1 ?rest_we1; (case hr_we1 => kernel_rfl); (case hf_we1 => kernel_rfl); (case hs_we1 => kernel_rfl); (case ho_we1 => (simp only [List.getElem?_toArray, List.getElem?_cons_succ, List.getElem?_cons_zero]; rfl)); (case hS_we1 => assumption); (case hQ_we1 => exact fun _ _ _ h => h); (case hy_we1 => (refine Or.inl ⟨by rfl, ?_⟩; (intro w hSw; obtain ⟨e1, g1⟩ := cells_of hSw; go_simp) <;> with_reducible rfl)); (try simp only [Act.put, List.setIfInBounds_toArray, List.set_cons_zero, List.set_cons_succ]))
        (refine wpAnyH_take (i := 2) (oi := ?oi_we2) (v := ?v_we2) ?ho_we2 ?hs_we2 ?hf_we2 ?hr_we2 ?hQ_we2 ?hy_we2 ?hS_we2 ?rest_we2; (case hr_we2 => kernel_rfl); (case hf_we2 => kernel_rfl); (case hs_we2 => kernel_rfl); (case ho_we2 => (simp only [List.getElem?_toArray, List.getElem?_cons_succ, List.getElem?_cons_zero]; rfl)); (case hS_we2 => assumption); (case hQ_we2 => exact fun _ _ _ h => h); (case hy_we2 => (refine Or.inl ⟨by rfl, ?_⟩; (intro w hSw; obtain ⟨e1, g1⟩ := cells_of hSw; go_simp) <;> with_reducible rfl)); (try simp only [Act.put, List.setIfInBounds_toArray, List.set_cons_zero, List.set_cons_succ]))
        (refine wpAnyH_take (i := 3) (oi := ?oi_we3) (v := ?v_we3) ?ho_we3 ?hs_we3 ?hf_we3 ?hr_we3 ?hQ_we3 ?hy_we3 ?hS_we3 ?rest_we3; (case hr_we3 => kernel_rfl); (case hf_we3 => kernel_rfl); (case hs_we3 => kernel_rfl); (case ho_we3 => (simp only [List.getElem?_toArray, List.getElem?_cons_succ, List.getElem?_cons_zero]; rfl)); (case hS_we3 => assumption); (case hQ_we3 => exact fun _ _ _ h => h); (case hy_we3 => (refine Or.inl ⟨by rfl, ?_⟩; (intro w hSw; obtain ⟨e1, g1⟩ := cells_of hSw; go_simp) <;> with_reducible rfl)); (try simp only [Act.put, List.setIfInBounds_toArray, List.set_cons_zero, List.set_cons_succ]))
        (refine wpAnyH_take (i := 4) (oi := ?oi_we4) (v := ?v_we4) ?ho_we4 ?hs_we4 ?hf_we4 ?hr_we4 ?hQ_we4 ?hy_we4 ?hS_we4 ?rest_we4; (case hr_we4 => kernel_rfl); (case hf_we4 => kernel_rfl); (case hs_we4 => kernel_rfl); (case ho_we4 => (simp only [List.getElem?_toArray, List.getElem?_cons_succ, List.getElem?_cons_zero]; rfl)); (case hS_we4 => assumption); (case hQ_we4 => exact fun _ _ _ h => h); (case hy_we4 => (refine Or.inl ⟨by rfl, ?_⟩; (intro w hSw; obtain ⟨e1, g1⟩ := cells_of hSw; go_simp) <;> with_reducible rfl)); (try simp only [Act.put, List.setIfInBounds_toArray, List.set_cons_zero, List.set_cons_succ]))
        refine wpAnyH_ready (rs := [0, 5]) (by kernel_rfl) (by simp) ?_
        refine (AllReadyH.cons (o := ?oowe5_0) ?howe5_0 ?hswe5_0 (AllReadyH.cons (o := ?oowe5_1) ?howe5_1 ?hswe5_1 AllReadyH.nil))
        case howe5_0 => (simp only [List.getElem?_toArray, List.getElem?_cons_succ, List.getElem?_cons_zero]; rfl)
        case howe5_1 => (simp only [List.getElem?_toArray, List.getElem?_cons_succ, List.getElem?_cons_zero]; rfl)
        case hswe5_0 =>
          intro K hK
          obtain ⟨v0, v1⟩ := cells_of bD
          go_simp
          try go_wp2_with fail
          refine hK.out _ _ (by exact bS) (fun hHeld => ?_)
          clear hK K v0 v1
          try simp only [Act.put, List.setIfInBounds_toArray, List.set_cons_zero, List.set_cons_succ]
          refine wpAnyH_ready (rs := [5]) (by kernel_rfl) (by simp) ?_
          refine (AllReadyH.cons (o := ?oowe6_0) ?howe6_0 ?hswe6_0 AllReadyH.nil)
          case howe6_0 => (simp only [List.getElem?_toArray, List.getElem?_cons_succ, List.getElem?_cons_zero]; rfl)
          case hswe6_0 =>
            intro K hK
            go_simp
            go_at_call 36
            refine (hput.out w3.drew).mono ?_
            rintro en w4 ⟨rfl, hu⟩
            replace bD := hu.heap bD fun h => h
            replace bS := hu.heap bS fun h => h
            replace bZ := hu.heap bZ fun h => h
            replace bY := hu.heap bY fun h => h
            replace hB1 := Lib.hid (hB1.out.non hu)
            replace hU := hU.trans hu fun _ _ h => h
            have hz4 := hu.size
            clear hu hput
            try go_wp2_with fail
            refine hK.out _ _ (by exact bS) (fun hHeld => ?_)
            clear hK K
            try simp only [Act.put, List.setIfInBounds_toArray, List.set_cons_zero, List.set_cons_succ]
            refine wpAnyH_ready (rs := [6]) (by kernel_rfl) (by simp) ?_
            refine (AllReadyH.cons (o := ?oowe7_0) ?howe7_0 ?hswe7_0 AllReadyH.nil)
            case howe7_0 => (simp only [List.getElem?_toArray, List.getElem?_cons_succ, List.getElem?_cons_zero]; rfl)
            case hswe7_0 =>
              intro K hK
              go_simp
              go_at_call 23
              refine (cW.out _ _ hB1.out).mono ?_
              rintro en w5 ⟨m1, ka1, kn1, kc1, pa1, pn1, pc1, f1, dd1, rfl, hlit1, hB2, hu⟩
              replace bD := hu.heap bD fun h => h
              replace bS := hu.heap bS fun h => h
              replace bZ := hu.heap bZ fun h => h
              replace bY := hu.heap bY fun h => h
              replace hU := hU.trans hu fun _ _ h => h
              have hz5 := hu.size
              clear hu cW hB1
              replace hB2 := Lib.hid hB2
              replace hlit1 := Lib.hid hlit1
              try go_wp2_with fail
              refine hK.out _ _ (by exact bS) (fun hHeld => ?_)
              clear hK K
              try simp only [Act.put, List.setIfInBounds_toArray, List.set_cons_zero, List.set_cons_succ]
              (refine wpAnyH_take (i := 7) (oi := ?oi_we8) (v := ?v_we8) ?ho_we8 ?hs_we8 ?hf_we8 ?hr_we8 ?hQ_we8 ?hy_we8 ?hS_we8 ?rest_we8; (case hr_we8 => kernel_rfl); (case hf_we8 => kernel_rfl); (case hs_we8 => kernel_rfl); (case ho_we8 => (simp only [List.getElem?_toArray, List.getElem?_cons_succ, List.getElem?_cons_zero]; rfl)); (case hS_we8 => assumption); (case hQ_we8 => exact fun _ _ _ h => h); (case hy_we8 => (refine Or.inl ⟨by rfl, ?_⟩; (intro w hSw; obtain ⟨e1, g1⟩ := cells_of hSw; go_simp) <;> with_reducible rfl)); (try simp only [Act.put, List.setIfInBounds_toArray, List.set_cons_zero, List.set_cons_succ]))
              (refine wpAnyH_take (i := 8) (oi := ?oi_we9) (v := ?v_we9) ?ho_we9 ?hs_we9 ?hf_we9 ?hr_we9 ?hQ_we9 ?hy_we9 ?hS_we9 ?rest_we9; (case hr_we9 => kernel_rfl); (case hf_we9 => kernel_rfl); (case hs_we9 => kernel_rfl); (case ho_we9 => (simp only [List.getElem?_toArray, List.getElem?_cons_succ, List.getElem?_cons_zero]; rfl)); (case hS_we9 => assumption); (case hQ_we9 => exact fun _ _ _ h => h); (case hy_we9 => (refine Or.inl ⟨by rfl, ?_⟩; (intro w hSw; obtain ⟨e1, g1⟩ := cells_of hSw; go_simp) <;> with_reducible rfl)); (try simp only [Act.put, List.setIfInBounds_toArray, List.set_cons_zero, List.set_cons_succ]))
              (refine wpAnyH_take (i := 9) (oi := ?oi_we10) (v := ?v_we10) ?ho_we10 ?hs_we10 ?hf_we10 ?hr_we10 ?hQ_we10 ?hy_we10 ?hS_we10 ?rest_we10; (case hr_we10 => kernel_rfl); (case hf_we10 => kernel_rfl); (case hs_we10 => kernel_rfl); (case ho_we10 => (simp only [List.getElem?_toArray, List.getElem?_cons_succ, List.getElem?_cons_zero]; rfl)); (case hS_we10 => assumption); (case hQ_we10 => exact fun _ _ _ h => h); (case hy_we10 => (refine Or.inl ⟨by rfl, ?_⟩; (intro w hSw; obtain ⟨e1, g1⟩ := cells_of hSw; go_simp) <;> with_reducible rfl)); (try simp only [Act.put, List.setIfInBounds_toArray, List.set_cons_zero, List.set_cons_succ]))
              refine wpAnyH_ready (rs := [10]) (by kernel_rfl) (by simp) ?_
              refine (AllReadyH.cons (o := ?oowe11_0) ?howe11_0 ?hswe11_0 AllReadyH.nil)
              case howe11_0 => (simp only [List.getElem?_toArray, List.getElem?_cons_succ, List.getElem?_cons_zero]; rfl)
              case hswe11_0 =>
                intro K hK
                refine storeB_step rfl 64 _ _ rfl w.heap.size #[.int .i64 m1, .slice ka1 kn1 kc1, .slice pa1 pn1 pc1, .int .i64 f1, .bool dd1] _ _ rfl rfl bD rfl hs5.out (by simp [Value.oneCell']) ?_
                intro w6 bD6 hu
                replace bS := hu.heap bS (fun e => by (have : w.heap.size + 1 = w.heap.size := e); omega)
                replace bZ := hu.heap bZ (fun e => by (have : w.heap.size + 1 + 1 = w.heap.size := e); omega)
                replace bY := hu.heap bY (fun e => by (have : w.heap.size + 1 + 1 + 1 = w.heap.size := e); omega)
                replace hB2 := Lib.hid (hB2.out.upd hu fun k hk => by subst hk; exact .inr ⟨by omega, by omega⟩)
                replace hU := hU.trans hu (fun k hk e => by (have : k = w.heap.size := e); omega)
                have hz6 := hu.size
                clear hu bD
                try go_wp2_with fail
                refine hK.out _ _ (by exact bS) (fun hHeld => ?_)
                clear hK K
                try simp only [Act.put, List.setIfInBounds_toArray, List.set_cons_zero, List.set_cons_succ]
                (refine wpAnyH_take (i := 11) (oi := ?oi_we12) (v := ?v_we12) ?ho_we12 ?hs_we12 ?hf_we12 ?hr_we12 ?hQ_we12 ?hy_we12 ?hS_we12 ?rest_we12; (case hr_we12 => kernel_rfl); (case hf_we12 => kernel_rfl); (case hs_we12 => kernel_rfl); (case ho_we12 => (simp only [List.getElem?_toArray, List.getElem?_cons_succ, List.getElem?_cons_zero]; rfl)); (case hS_we12 => assumption); (case hQ_we12 => exact fun _ _ _ h => h); (case hy_we12 => (refine Or.inl ⟨by rfl, ?_⟩; (intro w hSw; skip; go_simp) <;> with_reducible rfl)); (try simp only [Act.put, List.setIfInBounds_toArray, List.set_cons_zero, List.set_cons_succ]))
                refine wpAnyH_done (by kernel_rfl) ?_ _
                clear hHeld
                generalize d.write 0 (putS ⟨0, sr, ss, se, sl, sm⟩) = wr at *
                obtain ⟨d4, e4⟩ := wr
                simp only at hsw hsf hso hS1 hok4 hP4
                obtain ⟨v0, v1⟩ := cells_of bD6
                by_cases he4 : e4 = 0
                · subst he4
                  replace hsf := Lib.hid (hsf.out rfl)
                  replace hso := Lib.hid (hso.out rfl)
                  have hflu := (hS1.out.flush hok4.out).1
                  have cF : Hid (∀ (w' : World) B', Bth B' w0 w' D F d0 (r.write 0 (putS ⟨0, sr, ss, se, sl, sm⟩)).1 (.slice ka1 kn1 kc1) (.slice pa1 pn1 pc1) → _) := Lib.hid (fun w' B' hB => bthFlush hB hS1.out hok4.out hP4.out)
                  simp only [hlit1.out] at cF
                  generalize (r.write 0 (putS ⟨0, sr, ss, se, sl, sm⟩)).1.flushR.1 = r5 at *
                  generalize d4.flush = fr at *
                  obtain ⟨d5, e5⟩ := fr
                  simp only at hsf hso hflu cF
                  have hS2 := Lib.hid hflu
                  clear hflu hsw
                  go_wp2_with fail
                  refine (cF.out _ _ hB2.out).mono ?_
                  rintro en w7 ⟨m2, ka2, kn2, kc2, pa2, pn2, pc2, f2, dd2, rfl, hlit2, hB3, hu⟩
                  replace bD6 := hu.heap bD6 fun h => h
                  replace bS := hu.heap bS fun h => h
                  replace bZ := hu.heap bZ fun h => h
                  replace bY := hu.heap bY fun h => h
                  replace hU := hU.trans hu fun _ _ h => h
                  have hz7 := hu.size
                  replace hlit2 := Lib.hid hlit2
                  clear hu hB2 cF v0 v1 hlit1 hlit
                  replace hB3 := Lib.hid hB3
                  go_wp2_with ((with_reducible (show wpList _ _ _ (⟨_, Op.store _ _ _, _, _, _, _⟩ :: _) _ _)); refine storeB_list rfl 64 _ _ rfl w.heap.size #[.int .i64 m2, .slice ka2 kn2 kc2, .slice pa2 pn2 pc2, .int .i64 f2, .bool dd2] _ _ rfl rfl bD6 rfl hs5.out (by simp [Value.oneCell']) ?_)
                  intro w8 bD hu
                  replace bS := hu.heap bS (fun e => by (have : w.heap.size + 1 = w.heap.size := e); omega)
                  replace bZ := hu.heap bZ (fun e => by (have : w.heap.size + 1 + 1 = w.heap.size := e); omega)
                  replace bY := hu.heap bY (fun e => by (have : w.heap.size + 1 + 1 + 1 = w.heap.size := e); omega)
                  replace hB3 := Lib.hid (hB3.out.upd hu fun k hk => by subst hk; exact .inr ⟨by omega, by omega⟩)
                  replace hU := hU.trans hu (fun k hk e => by (have : k = w.heap.size := e); omega)
                  have hz8 := hu.size
                  clear hu bD6
                  obtain ⟨v0, v1⟩ := cells_of bD
                  by_cases he5 : e5 = 0
                  · subst he5
                    have hres := Lib.hid (hso.out rfl)
                    clear hso hsf v0 v1
                    go_wp2_with fail
                    refine wp_region_held_drew (S := (fun w' => w'.heap[w.heap.size]? = some (.cells #[.int .i64 m2, .slice ka2 kn2 kc2, .slice pa2 pn2 pc2, .int .i64 f2, .bool dd2] 64 (0, 0)) ∧ w'.heap[w.heap.size + 1]? = some (.cells #[.int .i64 0, .int .i64 sr, .int .i64 ss, .int .i64 se, .int .i64 sl, .int .i64 sm] 23 (0, 0)))) (by kernel_rfl) (by exact ⟨bD, bS⟩) (fun hHeld => ?_)
                    (refine wpAnyH_take (i := 0) (oi := ?oi_zf1) (v := ?v_zf1) ?ho_zf1 ?hs_zf1 ?hf_zf1 ?hr_zf1 ?hQ_zf1 ?hy_zf1 ?hS_zf1 ?rest_zf1; (case hr_zf1 => kernel_rfl); (case hf_zf1 => kernel_rfl); (case hs_zf1 => kernel_rfl); (case ho_zf1 => (simp only [List.getElem?_toArray, List.getElem?_cons_succ, List.getElem?_cons_zero]; rfl)); (case hS_zf1 => assumption); (case hQ_zf1 => exact fun _ _ _ h => h); (case hy_zf1 => (refine Or.inl ⟨by rfl, ?_⟩; (intro w hSw; obtain ⟨s0, s1⟩ := hSw; obtain ⟨e0, g0⟩ := cells_of s0; obtain ⟨e1, g1⟩ := cells_of s1; go_simp) <;> with_reducible rfl)); (try simp only [Act.put, List.setIfInBounds_toArray, List.set_cons_zero, List.set_cons_succ]))
                    (refine wpAnyH_take (i := 1) (oi := ?oi_zf2) (v := ?v_zf2) ?ho_zf2 ?hs_zf2 ?hf_zf2 ?hr_zf2 ?hQ_zf2 ?hy_zf2 ?hS_zf2 ?rest_zf2; (case hr_zf2 => kernel_rfl); (case hf_zf2 => kernel_rfl); (case hs_zf2 => kernel_rfl); (case ho_zf2 => (simp only [List.getElem?_toArray, List.getElem?_cons_succ, List.getElem?_cons_zero]; rfl)); (case hS_zf2 => assumption); (case hQ_zf2 => exact fun _ _ _ h => h); (case hy_zf2 => (refine Or.inl ⟨by rfl, ?_⟩; (intro w hSw; obtain ⟨s0, s1⟩ := hSw; obtain ⟨e0, g0⟩ := cells_of s0; obtain ⟨e1, g1⟩ := cells_of s1; go_simp) <;> with_reducible rfl)); (try simp only [Act.put, List.setIfInBounds_toArray, List.set_cons_zero, List.set_cons_succ]))
                    refine wpAnyH_ready (rs := [2]) (by kernel_rfl) (by simp) ?_
                    refine (AllReadyH.cons (o := ?oozf3_0) ?hozf3_0 ?hszf3_0 AllReadyH.nil)
                    case hozf3_0 => (simp only [List.getElem?_toArray, List.getElem?_cons_succ, List.getElem?_cons_zero]; rfl)
                    case hszf3_0 =>
                      intro K hK
                      refine storeB_step rfl 64 _ _ rfl (w.heap.size + 1 + 1) #[.int .i64 m2, .slice ka2 kn2 kc2, .slice pa2 pn2 pc2, .int .i64 f2, .bool dd2] _ _ rfl rfl bZ rfl hs5.out (by simp [Value.oneCell']) ?_
                      intro w9 bZ9 hu
                      have bY9 := hu.heap bY (fun e => by (have : w.heap.size + 1 + 1 + 1 = w.heap.size + 1 + 1 := e); omega)
                      have bD9 := hu.heap bD (fun e => by (have : w.heap.size = w.heap.size + 1 + 1 := e); omega)
                      have bS9 := hu.heap bS (fun e => by (have : w.heap.size + 1 = w.heap.size + 1 + 1 := e); omega)
                      have hB9 := (hB3.out.non (Upd.drew Non w8)).upd hu fun k hk => by subst hk; exact .inr ⟨by omega, by omega⟩
                      have hU9 := hU.then_drew.trans hu (fun k hk e => by (have : k = w.heap.size + 1 + 1 := e); omega)
                      have hz9 := hu.size
                      try go_wp2_with fail
                      refine hK.out _ _ (by exact ⟨bD9, bS9⟩) (fun hHeld => ?_)
                      clear hK K hu
                      try simp only [Act.put, List.setIfInBounds_toArray, List.set_cons_zero, List.set_cons_succ]
                      refine wpAnyH_ready (rs := [3]) (by kernel_rfl) (by simp) ?_
                      refine (AllReadyH.cons (o := ?oozf4_0) ?hozf4_0 ?hszf4_0 AllReadyH.nil)
                      case hozf4_0 => (simp only [List.getElem?_toArray, List.getElem?_cons_succ, List.getElem?_cons_zero]; rfl)
                      case hszf4_0 =>
                        intro K hK
                        refine storeB_step rfl 23 _ _ rfl (w.heap.size + 1 + 1 + 1) #[.int .i64 0, .int .i64 sr, .int .i64 ss, .int .i64 se, .int .i64 sl, .int .i64 sm] _ _ rfl rfl bY9 rfl size_sp.out (by simp [Value.oneCell']) ?_
                        intro w10 bY10 hu
                        have bZ10 := hu.heap bZ9 (fun e => by (have : w.heap.size + 1 + 1 = w.heap.size + 1 + 1 + 1 := e); omega)
                        have bD10 := hu.heap bD9 (fun e => by (have : w.heap.size = w.heap.size + 1 + 1 + 1 := e); omega)
                        have bS10 := hu.heap bS9 (fun e => by (have : w.heap.size + 1 = w.heap.size + 1 + 1 + 1 := e); omega)
                        have hB10 := hB9.upd hu fun k hk => by subst hk; exact .inr ⟨by omega, by omega⟩
                        have hU10 := hU9.trans hu (fun k hk e => by (have : k = w.heap.size + 1 + 1 + 1 := e); omega)
                        try go_wp2_with fail
                        refine hK.out _ _ (by exact ⟨bD10, bS10⟩) (fun hHeld => ?_)
                        clear hK K hu
                        try simp only [Act.put, List.setIfInBounds_toArray, List.set_cons_zero, List.set_cons_succ]
                        (refine wpAnyH_take (i := 4) (oi := ?oi_zf5) (v := ?v_zf5) ?ho_zf5 ?hs_zf5 ?hf_zf5 ?hr_zf5 ?hQ_zf5 ?hy_zf5 ?hS_zf5 ?rest_zf5; (case hr_zf5 => kernel_rfl); (case hf_zf5 => kernel_rfl); (case hs_zf5 => kernel_rfl); (case ho_zf5 => (simp only [List.getElem?_toArray, List.getElem?_cons_succ, List.getElem?_cons_zero]; rfl)); (case hS_zf5 => assumption); (case hQ_zf5 => exact fun _ _ _ h => h); (case hy_zf5 => (refine Or.inl ⟨by rfl, ?_⟩; (intro w hSw; skip; go_simp) <;> with_reducible rfl)); (try simp only [Act.put, List.setIfInBounds_toArray, List.set_cons_zero, List.set_cons_succ]))
                        refine wpAnyH_done (by kernel_rfl) ?_ _
                        obtain ⟨e0, g0⟩ := cells_of bZ10
                        obtain ⟨x0, x1, x2, x3, x4, x5⟩ := cells6 bY10
                        clear hHeld
                        go_wp2_with fail
                        refine bodyPost_ret (v := .tuple #[.agg #[.int .i64 m2, .slice ka2 kn2 kc2, .slice pa2 pn2 pc2, .int .i64 f2, .bool dd2], .agg #[.int .i64 0, .int .i64 sr, .int .i64 ss, .int .i64 se, .int .i64 sl, .int .i64 sm], .int .i64 0]) (by simp [results, Try.results28, go_sem, e0, x0, x1, x2, x3, x4, x5]; try rfl) rfl ⟨_, _, _, by rw [hres.out, hlit2.out]; rfl, by rw [hres.out]; exact hS2.out, hB10.sub fun k hk => .inl hk, hU10⟩
                  · have hres := Lib.hid (hsf.out he5)
                    have he52 : (e5 != 0) = true := by simp [he5]
                    replace he5 := Lib.hid he5
                    clear hso hsf
                    go_wp2_with ((with_reducible (show wpList _ _ _ (⟨_, Op.store _ _ _, _, _, _, _⟩ :: _) _ _)); refine storeB_list rfl 64 _ _ rfl (w.heap.size + 1 + 1) #[.int .i64 m2, .slice ka2 kn2 kc2, .slice pa2 pn2 pc2, .int .i64 f2, .bool dd2] _ _ rfl rfl bZ rfl hs5.out (by simp [Value.oneCell']) ?_)
                    intro wa ba hua
                    have bYa := hua.heap bY (fun e => by (have : w.heap.size + 1 + 1 + 1 = w.heap.size + 1 + 1 := e); omega)
                    have hBa := hB3.out.upd hua fun k hk => by subst hk; exact .inr ⟨by omega, by omega⟩
                    have hUa := hU.trans hua (fun k hk e => by (have : k = w.heap.size + 1 + 1 := e); omega)
                    have hza := hua.size
                    clear hua bY bZ
                    go_wp2_with ((with_reducible (show wpList _ _ _ (⟨_, Op.store _ _ _, _, _, _, _⟩ :: _) _ _)); refine storeB_list rfl 23 _ _ rfl (w.heap.size + 1 + 1 + 1) #[.int .i64 0, .int .i64 0, .int .i64 0, .int .i64 0, .int .i64 0, .int .i64 0] _ _ rfl rfl bYa rfl size_sp.out (by simp [Value.oneCell']) ?_)
                    intro wb bb hub
                    have bab := hub.heap ba (fun e => by (have : w.heap.size + 1 + 1 = w.heap.size + 1 + 1 + 1 := e); omega)
                    have hBb := hBa.upd hub fun k hk => by subst hk; exact .inr ⟨by omega, by omega⟩
                    have hUb := hUa.trans hub (fun k hk e => by (have : k = w.heap.size + 1 + 1 + 1 := e); omega)
                    obtain ⟨e0, g0⟩ := cells_of bab
                    obtain ⟨x0, x1, x2, x3, x4, x5⟩ := cells6 bb
                    go_wp2_with fail
                    refine bodyPost_ret (v := .tuple #[.agg #[.int .i64 m2, .slice ka2 kn2 kc2, .slice pa2 pn2 pc2, .int .i64 f2, .bool dd2], .agg #[.int .i64 0, .int .i64 0, .int .i64 0, .int .i64 0, .int .i64 0, .int .i64 0], .int .i64 e5]) (by simp [results, Try.results28, go_sem, e0, x0, x1, x2, x3, x4, x5]; try rfl) rfl ⟨_, _, _, by rw [hres.out, hlit2.out]; rfl, by rw [hres.out]; exact hS2.out, hBb.sub fun k hk => .inl hk, hUb⟩
                · have hres := Lib.hid (hsw.out he4)
                  have he43 : (e4 != 0) = true := by simp [he4]
                  replace he4 := Lib.hid he4
                  clear hsw hsf hso
                  go_wp2_with ((with_reducible (show wpList _ _ _ (⟨_, Op.store _ _ _, _, _, _, _⟩ :: _) _ _)); refine storeB_list rfl 64 _ _ rfl (w.heap.size + 1 + 1) #[.int .i64 m1, .slice ka1 kn1 kc1, .slice pa1 pn1 pc1, .int .i64 f1, .bool dd1] _ _ rfl rfl bZ rfl hs5.out (by simp [Value.oneCell']) ?_)
                  intro wa ba hua
                  have bYa := hua.heap bY (fun e => by (have : w.heap.size + 1 + 1 + 1 = w.heap.size + 1 + 1 := e); omega)
                  have hBa := hB2.out.upd hua fun k hk => by subst hk; exact .inr ⟨by omega, by omega⟩
                  have hUa := hU.trans hua (fun k hk e => by (have : k = w.heap.size + 1 + 1 := e); omega)
                  have hza := hua.size
                  clear hua bY bZ
                  go_wp2_with ((with_reducible (show wpList _ _ _ (⟨_, Op.store _ _ _, _, _, _, _⟩ :: _) _ _)); refine storeB_list rfl 23 _ _ rfl (w.heap.size + 1 + 1 + 1) #[.int .i64 0, .int .i64 0, .int .i64 0, .int .i64 0, .int .i64 0, .int .i64 0] _ _ rfl rfl bYa rfl size_sp.out (by simp [Value.oneCell']) ?_)
                  intro wb bb hub
                  have bab := hub.heap ba (fun e => by (have : w.heap.size + 1 + 1 = w.heap.size + 1 + 1 + 1 := e); omega)
                  have hBb := hBa.upd hub fun k hk => by subst hk; exact .inr ⟨by omega, by omega⟩
                  have hUb := hUa.trans hub (fun k hk e => by (have : k = w.heap.size + 1 + 1 + 1 := e); omega)
                  obtain ⟨e0, g0⟩ := cells_of bab
                  obtain ⟨x0, x1, x2, x3, x4, x5⟩ := cells6 bb
                  go_wp2_with fail
                  refine bodyPost_ret (v := .tuple #[.agg #[.int .i64 m1, .slice ka1 kn1 kc1, .slice pa1 pn1 pc1, .int .i64 f1, .bool dd1], .agg #[.int .i64 0, .int .i64 0, .int .i64 0, .int .i64 0, .int .i64 0, .int .i64 0], .int .i64 e4]) (by simp [results, Try.results28, go_sem, e0, x0, x1, x2, x3, x4, x5]; try rfl) rfl ⟨_, _, _, by rw [hres.out, hlit1.out]; rfl, by rw [hres.out]; exact hS1.out, hBb.sub fun k hk => .inl hk, hUb⟩
        case hswe5_1 =>
          intro K hK
          go_simp
          go_at_call 36
          refine (hput.out w3.drew).mono ?_
          rintro en w4 ⟨rfl, hu⟩
          replace bD := hu.heap bD fun h => h
          replace bS := hu.heap bS fun h => h
          replace bZ := hu.heap bZ fun h => h
          replace bY := hu.heap bY fun h => h
          replace hB1 := Lib.hid (hB1.out.non hu)
          replace hU := hU.trans hu fun _ _ h => h
          have hz4 := hu.size
          clear hu hput
          try go_wp2_with fail
          refine hK.out _ _ (by exact bS) (fun hHeld => ?_)
          clear hK K
          try simp only [Act.put, List.setIfInBounds_toArray, List.set_cons_zero, List.set_cons_succ]
          refine wpAnyH_ready (rs := [0]) (by kernel_rfl) (by simp) ?_
          refine (AllReadyH.cons (o := ?oowe13_0) ?howe13_0 ?hswe13_0 AllReadyH.nil)
          case howe13_0 => (simp only [List.getElem?_toArray, List.getElem?_cons_succ, List.getElem?_cons_zero]; rfl)
          case hswe13_0 =>
            intro K hK
            obtain ⟨v0, v1⟩ := cells_of bD
            go_simp
            try go_wp2_with fail
            refine hK.out _ _ (by exact bS) (fun hHeld => ?_)
            clear hK K v0 v1
            try simp only [Act.put, List.setIfInBounds_toArray, List.set_cons_zero, List.set_cons_succ]
            refine wpAnyH_ready (rs := [6]) (by kernel_rfl) (by simp) ?_
            refine (AllReadyH.cons (o := ?oowe14_0) ?howe14_0 ?hswe14_0 AllReadyH.nil)
            case howe14_0 => (simp only [List.getElem?_toArray, List.getElem?_cons_succ, List.getElem?_cons_zero]; rfl)
            case hswe14_0 =>
              intro K hK
              go_simp
              go_at_call 23
              refine (cW.out _ _ hB1.out).mono ?_
              rintro en w5 ⟨m1, ka1, kn1, kc1, pa1, pn1, pc1, f1, dd1, rfl, hlit1, hB2, hu⟩
              replace bD := hu.heap bD fun h => h
              replace bS := hu.heap bS fun h => h
              replace bZ := hu.heap bZ fun h => h
              replace bY := hu.heap bY fun h => h
              replace hU := hU.trans hu fun _ _ h => h
              have hz5 := hu.size
              clear hu cW hB1
              replace hB2 := Lib.hid hB2
              replace hlit1 := Lib.hid hlit1
              try go_wp2_with fail
              refine hK.out _ _ (by exact bS) (fun hHeld => ?_)
              clear hK K
              try simp only [Act.put, List.setIfInBounds_toArray, List.set_cons_zero, List.set_cons_succ]
              (refine wpAnyH_take (i := 7) (oi := ?oi_we15) (v := ?v_we15) ?ho_we15 ?hs_we15 ?hf_we15 ?hr_we15 ?hQ_we15 ?hy_we15 ?hS_we15 ?rest_we15; (case hr_we15 => kernel_rfl); (case hf_we15 => kernel_rfl); (case hs_we15 => kernel_rfl); (case ho_we15 => (simp only [List.getElem?_toArray, List.getElem?_cons_succ, List.getElem?_cons_zero]; rfl)); (case hS_we15 => assumption); (case hQ_we15 => exact fun _ _ _ h => h); (case hy_we15 => (refine Or.inl ⟨by rfl, ?_⟩; (intro w hSw; obtain ⟨e1, g1⟩ := cells_of hSw; go_simp) <;> with_reducible rfl)); (try simp only [Act.put, List.setIfInBounds_toArray, List.set_cons_zero, List.set_cons_succ]))
              (refine wpAnyH_take (i := 8) (oi := ?oi_we16) (v := ?v_we16) ?ho_we16 ?hs_we16 ?hf_we16 ?hr_we16 ?hQ_we16 ?hy_we16 ?hS_we16 ?rest_we16; (case hr_we16 => kernel_rfl); (case hf_we16 => kernel_rfl); (case hs_we16 => kernel_rfl); (case ho_we16 => (simp only [List.getElem?_toArray, List.getElem?_cons_succ, List.getElem?_cons_zero]; rfl)); (case hS_we16 => assumption); (case hQ_we16 => exact fun _ _ _ h => h); (case hy_we16 => (refine Or.inl ⟨by rfl, ?_⟩; (intro w hSw; obtain ⟨e1, g1⟩ := cells_of hSw; go_simp) <;> with_reducible rfl)); (try simp only [Act.put, List.setIfInBounds_toArray, List.set_cons_zero, List.set_cons_succ]))
              (refine wpAnyH_take (i := 9) (oi := ?oi_we17) (v := ?v_we17) ?ho_we17 ?hs_we17 ?hf_we17 ?hr_we17 ?hQ_we17 ?hy_we17 ?hS_we17 ?rest_we17; (case hr_we17 => kernel_rfl); (case hf_we17 => kernel_rfl); (case hs_we17 => kernel_rfl); (case ho_we17 => (simp only [List.getElem?_toArray, List.getElem?_cons_succ, List.getElem?_cons_zero]; rfl)); (case hS_we17 => assumption); (case hQ_we17 => exact fun _ _ _ h => h); (case hy_we17 => (refine Or.inl ⟨by rfl, ?_⟩; (intro w hSw; obtain ⟨e1, g1⟩ := cells_of hSw; go_simp) <;> with_reducible rfl)); (try simp only [Act.put, List.setIfInBounds_toArray, List.set_cons_zero, List.set_cons_succ]))
              refine wpAnyH_ready (rs := [10]) (by kernel_rfl) (by simp) ?_
              refine (AllReadyH.cons (o := ?oowe18_0) ?howe18_0 ?hswe18_0 AllReadyH.nil)
              case howe18_0 => (simp only [List.getElem?_toArray, List.getElem?_cons_succ, List.getElem?_cons_zero]; rfl)
              case hswe18_0 =>
                intro K hK
                refine storeB_step rfl 64 _ _ rfl w.heap.size #[.int .i64 m1, .slice ka1 kn1 kc1, .slice pa1 pn1 pc1, .int .i64 f1, .bool dd1] _ _ rfl rfl bD rfl hs5.out (by simp [Value.oneCell']) ?_
                intro w6 bD6 hu
                replace bS := hu.heap bS (fun e => by (have : w.heap.size + 1 = w.heap.size := e); omega)
                replace bZ := hu.heap bZ (fun e => by (have : w.heap.size + 1 + 1 = w.heap.size := e); omega)
                replace bY := hu.heap bY (fun e => by (have : w.heap.size + 1 + 1 + 1 = w.heap.size := e); omega)
                replace hB2 := Lib.hid (hB2.out.upd hu fun k hk => by subst hk; exact .inr ⟨by omega, by omega⟩)
                replace hU := hU.trans hu (fun k hk e => by (have : k = w.heap.size := e); omega)
                have hz6 := hu.size
                clear hu bD
                try go_wp2_with fail
                refine hK.out _ _ (by exact bS) (fun hHeld => ?_)
                clear hK K
                try simp only [Act.put, List.setIfInBounds_toArray, List.set_cons_zero, List.set_cons_succ]
                (refine wpAnyH_take (i := 11) (oi := ?oi_we19) (v := ?v_we19) ?ho_we19 ?hs_we19 ?hf_we19 ?hr_we19 ?hQ_we19 ?hy_we19 ?hS_we19 ?rest_we19; (case hr_we19 => kernel_rfl); (case hf_we19 => kernel_rfl); (case hs_we19 => kernel_rfl); (case ho_we19 => (simp only [List.getElem?_toArray, List.getElem?_cons_succ, List.getElem?_cons_zero]; rfl)); (case hS_we19 => assumption); (case hQ_we19 => exact fun _ _ _ h => h); (case hy_we19 => (refine Or.inl ⟨by rfl, ?_⟩; (intro w hSw; skip; go_simp) <;> with_reducible rfl)); (try simp only [Act.put, List.setIfInBounds_toArray, List.set_cons_zero, List.set_cons_succ]))
                refine wpAnyH_done (by kernel_rfl) ?_ _
                clear hHeld
                generalize d.write 0 (putS ⟨0, sr, ss, se, sl, sm⟩) = wr at *
                obtain ⟨d4, e4⟩ := wr
                simp only at hsw hsf hso hS1 hok4 hP4
                obtain ⟨v0, v1⟩ := cells_of bD6
                by_cases he4 : e4 = 0
                · subst he4
                  replace hsf := Lib.hid (hsf.out rfl)
                  replace hso := Lib.hid (hso.out rfl)
                  have hflu := (hS1.out.flush hok4.out).1
                  have cF : Hid (∀ (w' : World) B', Bth B' w0 w' D F d0 (r.write 0 (putS ⟨0, sr, ss, se, sl, sm⟩)).1 (.slice ka1 kn1 kc1) (.slice pa1 pn1 pc1) → _) := Lib.hid (fun w' B' hB => bthFlush hB hS1.out hok4.out hP4.out)
                  simp only [hlit1.out] at cF
                  generalize (r.write 0 (putS ⟨0, sr, ss, se, sl, sm⟩)).1.flushR.1 = r5 at *
                  generalize d4.flush = fr at *
                  obtain ⟨d5, e5⟩ := fr
                  simp only at hsf hso hflu cF
                  have hS2 := Lib.hid hflu
                  clear hflu hsw
                  go_wp2_with fail
                  refine (cF.out _ _ hB2.out).mono ?_
                  rintro en w7 ⟨m2, ka2, kn2, kc2, pa2, pn2, pc2, f2, dd2, rfl, hlit2, hB3, hu⟩
                  replace bD6 := hu.heap bD6 fun h => h
                  replace bS := hu.heap bS fun h => h
                  replace bZ := hu.heap bZ fun h => h
                  replace bY := hu.heap bY fun h => h
                  replace hU := hU.trans hu fun _ _ h => h
                  have hz7 := hu.size
                  replace hlit2 := Lib.hid hlit2
                  clear hu hB2 cF v0 v1 hlit1 hlit
                  replace hB3 := Lib.hid hB3
                  go_wp2_with ((with_reducible (show wpList _ _ _ (⟨_, Op.store _ _ _, _, _, _, _⟩ :: _) _ _)); refine storeB_list rfl 64 _ _ rfl w.heap.size #[.int .i64 m2, .slice ka2 kn2 kc2, .slice pa2 pn2 pc2, .int .i64 f2, .bool dd2] _ _ rfl rfl bD6 rfl hs5.out (by simp [Value.oneCell']) ?_)
                  intro w8 bD hu
                  replace bS := hu.heap bS (fun e => by (have : w.heap.size + 1 = w.heap.size := e); omega)
                  replace bZ := hu.heap bZ (fun e => by (have : w.heap.size + 1 + 1 = w.heap.size := e); omega)
                  replace bY := hu.heap bY (fun e => by (have : w.heap.size + 1 + 1 + 1 = w.heap.size := e); omega)
                  replace hB3 := Lib.hid (hB3.out.upd hu fun k hk => by subst hk; exact .inr ⟨by omega, by omega⟩)
                  replace hU := hU.trans hu (fun k hk e => by (have : k = w.heap.size := e); omega)
                  have hz8 := hu.size
                  clear hu bD6
                  obtain ⟨v0, v1⟩ := cells_of bD
                  by_cases he5 : e5 = 0
                  · subst he5
                    have hres := Lib.hid (hso.out rfl)
                    clear hso hsf v0 v1
                    go_wp2_with fail
                    refine wp_region_held_drew (S := (fun w' => w'.heap[w.heap.size]? = some (.cells #[.int .i64 m2, .slice ka2 kn2 kc2, .slice pa2 pn2 pc2, .int .i64 f2, .bool dd2] 64 (0, 0)) ∧ w'.heap[w.heap.size + 1]? = some (.cells #[.int .i64 0, .int .i64 sr, .int .i64 ss, .int .i64 se, .int .i64 sl, .int .i64 sm] 23 (0, 0)))) (by kernel_rfl) (by exact ⟨bD, bS⟩) (fun hHeld => ?_)
                    (refine wpAnyH_take (i := 0) (oi := ?oi_zg1) (v := ?v_zg1) ?ho_zg1 ?hs_zg1 ?hf_zg1 ?hr_zg1 ?hQ_zg1 ?hy_zg1 ?hS_zg1 ?rest_zg1; (case hr_zg1 => kernel_rfl); (case hf_zg1 => kernel_rfl); (case hs_zg1 => kernel_rfl); (case ho_zg1 => (simp only [List.getElem?_toArray, List.getElem?_cons_succ, List.getElem?_cons_zero]; rfl)); (case hS_zg1 => assumption); (case hQ_zg1 => exact fun _ _ _ h => h); (case hy_zg1 => (refine Or.inl ⟨by rfl, ?_⟩; (intro w hSw; obtain ⟨s0, s1⟩ := hSw; obtain ⟨e0, g0⟩ := cells_of s0; obtain ⟨e1, g1⟩ := cells_of s1; go_simp) <;> with_reducible rfl)); (try simp only [Act.put, List.setIfInBounds_toArray, List.set_cons_zero, List.set_cons_succ]))
                    (refine wpAnyH_take (i := 1) (oi := ?oi_zg2) (v := ?v_zg2) ?ho_zg2 ?hs_zg2 ?hf_zg2 ?hr_zg2 ?hQ_zg2 ?hy_zg2 ?hS_zg2 ?rest_zg2; (case hr_zg2 => kernel_rfl); (case hf_zg2 => kernel_rfl); (case hs_zg2 => kernel_rfl); (case ho_zg2 => (simp only [List.getElem?_toArray, List.getElem?_cons_succ, List.getElem?_cons_zero]; rfl)); (case hS_zg2 => assumption); (case hQ_zg2 => exact fun _ _ _ h => h); (case hy_zg2 => (refine Or.inl ⟨by rfl, ?_⟩; (intro w hSw; obtain ⟨s0, s1⟩ := hSw; obtain ⟨e0, g0⟩ := cells_of s0; obtain ⟨e1, g1⟩ := cells_of s1; go_simp) <;> with_reducible rfl)); (try simp only [Act.put, List.setIfInBounds_toArray, List.set_cons_zero, List.set_cons_succ]))
                    refine wpAnyH_ready (rs := [2]) (by kernel_rfl) (by simp) ?_
                    refine (AllReadyH.cons (o := ?oozg3_0) ?hozg3_0 ?hszg3_0 AllReadyH.nil)
                    case hozg3_0 => (simp only [List.getElem?_toArray, List.getElem?_cons_succ, List.getElem?_cons_zero]; rfl)
                    case hszg3_0 =>
                      intro K hK
                      refine storeB_step rfl 64 _ _ rfl (w.heap.size + 1 + 1) #[.int .i64 m2, .slice ka2 kn2 kc2, .slice pa2 pn2 pc2, .int .i64 f2, .bool dd2] _ _ rfl rfl bZ rfl hs5.out (by simp [Value.oneCell']) ?_
                      intro w9 bZ9 hu
                      have bY9 := hu.heap bY (fun e => by (have : w.heap.size + 1 + 1 + 1 = w.heap.size + 1 + 1 := e); omega)
                      have bD9 := hu.heap bD (fun e => by (have : w.heap.size = w.heap.size + 1 + 1 := e); omega)
                      have bS9 := hu.heap bS (fun e => by (have : w.heap.size + 1 = w.heap.size + 1 + 1 := e); omega)
                      have hB9 := (hB3.out.non (Upd.drew Non w8)).upd hu fun k hk => by subst hk; exact .inr ⟨by omega, by omega⟩
                      have hU9 := hU.then_drew.trans hu (fun k hk e => by (have : k = w.heap.size + 1 + 1 := e); omega)
                      have hz9 := hu.size
                      try go_wp2_with fail
                      refine hK.out _ _ (by exact ⟨bD9, bS9⟩) (fun hHeld => ?_)
                      clear hK K hu
                      try simp only [Act.put, List.setIfInBounds_toArray, List.set_cons_zero, List.set_cons_succ]
                      refine wpAnyH_ready (rs := [3]) (by kernel_rfl) (by simp) ?_
                      refine (AllReadyH.cons (o := ?oozg4_0) ?hozg4_0 ?hszg4_0 AllReadyH.nil)
                      case hozg4_0 => (simp only [List.getElem?_toArray, List.getElem?_cons_succ, List.getElem?_cons_zero]; rfl)
                      case hszg4_0 =>
                        intro K hK
                        refine storeB_step rfl 23 _ _ rfl (w.heap.size + 1 + 1 + 1) #[.int .i64 0, .int .i64 sr, .int .i64 ss, .int .i64 se, .int .i64 sl, .int .i64 sm] _ _ rfl rfl bY9 rfl size_sp.out (by simp [Value.oneCell']) ?_
                        intro w10 bY10 hu
                        have bZ10 := hu.heap bZ9 (fun e => by (have : w.heap.size + 1 + 1 = w.heap.size + 1 + 1 + 1 := e); omega)
                        have bD10 := hu.heap bD9 (fun e => by (have : w.heap.size = w.heap.size + 1 + 1 + 1 := e); omega)
                        have bS10 := hu.heap bS9 (fun e => by (have : w.heap.size + 1 = w.heap.size + 1 + 1 + 1 := e); omega)
                        have hB10 := hB9.upd hu fun k hk => by subst hk; exact .inr ⟨by omega, by omega⟩
                        have hU10 := hU9.trans hu (fun k hk e => by (have : k = w.heap.size + 1 + 1 + 1 := e); omega)
                        try go_wp2_with fail
                        refine hK.out _ _ (by exact ⟨bD10, bS10⟩) (fun hHeld => ?_)
                        clear hK K hu
                        try simp only [Act.put, List.setIfInBounds_toArray, List.set_cons_zero, List.set_cons_succ]
                        (refine wpAnyH_take (i := 4) (oi := ?oi_zg5) (v := ?v_zg5) ?ho_zg5 ?hs_zg5 ?hf_zg5 ?hr_zg5 ?hQ_zg5 ?hy_zg5 ?hS_zg5 ?rest_zg5; (case hr_zg5 => kernel_rfl); (case hf_zg5 => kernel_rfl); (case hs_zg5 => kernel_rfl); (case ho_zg5 => (simp only [List.getElem?_toArray, List.getElem?_cons_succ, List.getElem?_cons_zero]; rfl)); (case hS_zg5 => assumption); (case hQ_zg5 => exact fun _ _ _ h => h); (case hy_zg5 => (refine Or.inl ⟨by rfl, ?_⟩; (intro w hSw; skip; go_simp) <;> with_reducible rfl)); (try simp only [Act.put, List.setIfInBounds_toArray, List.set_cons_zero, List.set_cons_succ]))
                        refine wpAnyH_done (by kernel_rfl) ?_ _
                        obtain ⟨e0, g0⟩ := cells_of bZ10
                        obtain ⟨x0, x1, x2, x3, x4, x5⟩ := cells6 bY10
                        clear hHeld
                        go_wp2_with fail
                        refine bodyPost_ret (v := .tuple #[.agg #[.int .i64 m2, .slice ka2 kn2 kc2, .slice pa2 pn2 pc2, .int .i64 f2, .bool dd2], .agg #[.int .i64 0, .int .i64 sr, .int .i64 ss, .int .i64 se, .int .i64 sl, .int .i64 sm], .int .i64 0]) (by simp [results, Try.results28, go_sem, e0, x0, x1, x2, x3, x4, x5]; try rfl) rfl ⟨_, _, _, by rw [hres.out, hlit2.out]; rfl, by rw [hres.out]; exact hS2.out, hB10.sub fun k hk => .inl hk, hU10⟩
                  · have hres := Lib.hid (hsf.out he5)
                    have he52 : (e5 != 0) = true := by simp [he5]
                    replace he5 := Lib.hid he5
                    clear hso hsf
                    go_wp2_with ((with_reducible (show wpList _ _ _ (⟨_, Op.store _ _ _, _, _, _, _⟩ :: _) _ _)); refine storeB_list rfl 64 _ _ rfl (w.heap.size + 1 + 1) #[.int .i64 m2, .slice ka2 kn2 kc2, .slice pa2 pn2 pc2, .int .i64 f2, .bool dd2] _ _ rfl rfl bZ rfl hs5.out (by simp [Value.oneCell']) ?_)
                    intro wa ba hua
                    have bYa := hua.heap bY (fun e => by (have : w.heap.size + 1 + 1 + 1 = w.heap.size + 1 + 1 := e); omega)
                    have hBa := hB3.out.upd hua fun k hk => by subst hk; exact .inr ⟨by omega, by omega⟩
                    have hUa := hU.trans hua (fun k hk e => by (have : k = w.heap.size + 1 + 1 := e); omega)
                    have hza := hua.size
                    clear hua bY bZ
                    go_wp2_with ((with_reducible (show wpList _ _ _ (⟨_, Op.store _ _ _, _, _, _, _⟩ :: _) _ _)); refine storeB_list rfl 23 _ _ rfl (w.heap.size + 1 + 1 + 1) #[.int .i64 0, .int .i64 0, .int .i64 0, .int .i64 0, .int .i64 0, .int .i64 0] _ _ rfl rfl bYa rfl size_sp.out (by simp [Value.oneCell']) ?_)
                    intro wb bb hub
                    have bab := hub.heap ba (fun e => by (have : w.heap.size + 1 + 1 = w.heap.size + 1 + 1 + 1 := e); omega)
                    have hBb := hBa.upd hub fun k hk => by subst hk; exact .inr ⟨by omega, by omega⟩
                    have hUb := hUa.trans hub (fun k hk e => by (have : k = w.heap.size + 1 + 1 + 1 := e); omega)
                    obtain ⟨e0, g0⟩ := cells_of bab
                    obtain ⟨x0, x1, x2, x3, x4, x5⟩ := cells6 bb
                    go_wp2_with fail
                    refine bodyPost_ret (v := .tuple #[.agg #[.int .i64 m2, .slice ka2 kn2 kc2, .slice pa2 pn2 pc2, .int .i64 f2, .bool dd2], .agg #[.int .i64 0, .int .i64 0, .int .i64 0, .int .i64 0, .int .i64 0, .int .i64 0], .int .i64 e5]) (by simp [results, Try.results28, go_sem, e0, x0, x1, x2, x3, x4, x5]; try rfl) rfl ⟨_, _, _, by rw [hres.out, hlit2.out]; rfl, by rw [hres.out]; exact hS2.out, hBb.sub fun k hk => .inl hk, hUb⟩
                · have hres := Lib.hid (hsw.out he4)
                  have he43 : (e4 != 0) = true := by simp [he4]
                  replace he4 := Lib.hid he4
                  clear hsw hsf hso
                  go_wp2_with ((with_reducible (show wpList _ _ _ (⟨_, Op.store _ _ _, _, _, _, _⟩ :: _) _ _)); refine storeB_list rfl 64 _ _ rfl (w.heap.size + 1 + 1) #[.int .i64 m1, .slice ka1 kn1 kc1, .slice pa1 pn1 pc1, .int .i64 f1, .bool dd1] _ _ rfl rfl bZ rfl hs5.out (by simp [Value.oneCell']) ?_)
                  intro wa ba hua
                  have bYa := hua.heap bY (fun e => by (have : w.heap.size + 1 + 1 + 1 = w.heap.size + 1 + 1 := e); omega)
                  have hBa := hB2.out.upd hua fun k hk => by subst hk; exact .inr ⟨by omega, by omega⟩
                  have hUa := hU.trans hua (fun k hk e => by (have : k = w.heap.size + 1 + 1 := e); omega)
                  have hza := hua.size
                  clear hua bY bZ
                  go_wp2_with ((with_reducible (show wpList _ _ _ (⟨_, Op.store _ _ _, _, _, _, _⟩ :: _) _ _)); refine storeB_list rfl 23 _ _ rfl (w.heap.size + 1 + 1 + 1) #[.int .i64 0, .int .i64 0, .int .i64 0, .int .i64 0, .int .i64 0, .int .i64 0] _ _ rfl rfl bYa rfl size_sp.out (by simp [Value.oneCell']) ?_)
                  intro wb bb hub
                  have bab := hub.heap ba (fun e => by (have : w.heap.size + 1 + 1 = w.heap.size + 1 + 1 + 1 := e); omega)
                  have hBb := hBa.upd hub fun k hk => by subst hk; exact .inr ⟨by omega, by omega⟩
                  have hUb := hUa.trans hub (fun k hk e => by (have : k = w.heap.size + 1 + 1 + 1 := e); omega)
                  obtain ⟨e0, g0⟩ := cells_of bab
                  obtain ⟨x0, x1, x2, x3, x4, x5⟩ := cells6 bb
                  go_wp2_with fail
                  refine bodyPost_ret (v := .tuple #[.agg #[.int .i64 m1, .slice ka1 kn1 kc1, .slice pa1 pn1 pc1, .int .i64 f1, .bool dd1], .agg #[.int .i64 0, .int .i64 0, .int .i64 0, .int .i64 0, .int .i64 0, .int .i64 0], .int .i64 e4]) (by simp [results, Try.results28, go_sem, e0, x0, x1, x2, x3, x4, x5]; try rfl) rfl ⟨_, _, _, by rw [hres.out, hlit1.out]; rfl, by rw [hres.out]; exact hS1.out, hBb.sub fun k hk => .inl hk, hUb⟩
      · have hres : Hid (saveR d ⟨sg, sr, ss, se, sl, sm⟩ = (d, Sp.none, 2)) := Lib.hid (save_arg (by rw [hfr]; simp) hG.out hgm hsp)
        rw [decide_eq_false hsp] at hrt
        unfold spV at hrt
        simp only at hrt
        replace hs := Lib.hid hs
        clear hfr hsp hok hP
        replace hgm := Lib.hid hgm
        go_enter Try.func28, Try.ntmps28
        go_wp2_with fail
        refine (cFi.out _ (((((Upd.refl Non w).then_alloc _).then_alloc _).then_alloc _).then_alloc _)).mono ?_
        rintro en w1 ⟨rfl, hX⟩
        obtain ⟨bD, bS, bZ, bY, hz1⟩ := upd_four hX
        have hU : Upd Non w (w1.alloc (.cells #[.int .i64 xg, .int .i64 xr, .int .i64 xs, .int .i64 xe, .int .i64 xl, .int .i64 xm] 23)) := ((((((Upd.refl Non w).then_alloc _).then_alloc _).then_alloc _).then_alloc _).trans hX fun _ _ h => h).then_alloc (.cells #[.int .i64 xg, .int .i64 xr, .int .i64 xs, .int .i64 xe, .int .i64 xl, .int .i64 xm] 23)
        replace bD := (Upd.alloc Non w1 (.cells #[.int .i64 xg, .int .i64 xr, .int .i64 xs, .int .i64 xe, .int .i64 xl, .int .i64 xm] 23)).heap bD fun h => h
        replace bS := (Upd.alloc Non w1 (.cells #[.int .i64 xg, .int .i64 xr, .int .i64 xs, .int .i64 xe, .int .i64 xl, .int .i64 xm] 23)).heap bS fun h => h
        replace bZ := (Upd.alloc Non w1 (.cells #[.int .i64 xg, .int .i64 xr, .int .i64 xs, .int .i64 xe, .int .i64 xl, .int .i64 xm] 23)).heap bZ fun h => h
        replace bY := (Upd.alloc Non w1 (.cells #[.int .i64 xg, .int .i64 xr, .int .i64 xs, .int .i64 xe, .int .i64 xl, .int .i64 xm] 23)).heap bY fun h => h
        have bX := heap_alloc_new w1 (.cells #[.int .i64 xg, .int .i64 xr, .int .i64 xs, .int .i64 xe, .int .i64 xl, .int .i64 xm] 23)
        have hB1 := Lib.hid (hB.out.grow hU)
        have hzA : w1.heap.size + 1 = (w1.alloc (.cells #[.int .i64 xg, .int .i64 xr, .int .i64 xs, .int .i64 xe, .int .i64 xl, .int .i64 xm] 23)).heap.size := by simp
        clear hX cFi
        have zf := (cells_of bS).2 0
        have zc := (cells_of bS).1 0
        obtain ⟨u0, u1, u2, u3, u4, u5⟩ := cells6 bS
        have hT := Upd.setCell (S := fun k => k = w.heap.size + 1) (a := ⟨w.heap.size + 1, 0, none⟩) (w1.alloc (.cells #[.int .i64 xg, .int .i64 xr, .int .i64 xs, .int .i64 xe, .int .i64 xl, .int .i64 xm] 23)) rfl (.int .i64 0)
        have bS0 := set_blk (j := 0) bS (.int .i64 0)
        have bD0 := hT.heap bD (fun e => by (have : w.heap.size = w.heap.size + 1 := e); omega)
        have bZ0 := hT.heap bZ (fun e => by (have : w.heap.size + 1 + 1 = w.heap.size + 1 := e); omega)
        have bY0 := hT.heap bY (fun e => by (have : w.heap.size + 1 + 1 + 1 = w.heap.size + 1 := e); omega)
        have bX0 := hT.heap bX (fun e => by (have : w1.heap.size = w.heap.size + 1 := e); omega)
        have hB0 := Lib.hid (hB1.out.upd hT fun k hk => by subst hk; exact .inr ⟨by omega, by omega⟩)
        have hU0 := hU.trans hT (fun k hk e => by (have : k = w.heap.size + 1 := e); omega)
        have hzS : (w1.alloc (.cells #[.int .i64 xg, .int .i64 xr, .int .i64 xs, .int .i64 xe, .int .i64 xl, .int .i64 xm] 23)).heap.size ≤ ((w1.alloc (.cells #[.int .i64 xg, .int .i64 xr, .int .i64 xs, .int .i64 xe, .int .i64 xl, .int .i64 xm] 23)).setCell ⟨w.heap.size + 1, 0, none⟩ (.int .i64 0)).heap.size := hT.size
        clear hT bS bD bZ bY bX hB1 hU
        obtain ⟨bS, bD, bZ, bY⟩ := And.intro bS0 (And.intro bD0 (And.intro bZ0 bY0))
        have hB1 := hB0
        have hU := hU0
        clear bS0 bD0 bZ0 bY0 bX0 hB0 hU0
        obtain ⟨y0, y1, y2, y3, y4, y5⟩ := cells6 bS
        obtain ⟨v0, v1⟩ := cells_of bD
        go_wp2_with fail
        refine (hrt.out _).mono ?_
        rintro en w3 ⟨rfl, hu⟩
        replace bD := hu.heap bD fun h => h
        replace bS := hu.heap bS fun h => h
        replace bZ := hu.heap bZ fun h => h
        replace bY := hu.heap bY fun h => h
        replace hB1 := Lib.hid (hB1.out.non hu)
        replace hU := hU.trans hu fun _ _ h => h
        have hz3 : w.heap.size + 4 ≤ w3.heap.size := by have := hu.size; omega
        clear hu y0 y1 y2 y3 y4 y5 v0 v1
        obtain ⟨y0, y1, y2, y3, y4, y5⟩ := cells6 bS
        obtain ⟨v0, v1⟩ := cells_of bD
        clear hrt
        go_wp2_with ((with_reducible (show wpList _ _ _ (⟨_, Op.store _ _ _, _, _, _, _⟩ :: _) _ _)); refine storeB_list rfl 64 _ _ rfl (w.heap.size + 1 + 1) #[.int .i64 m, .slice ka kn kc, .slice pa pn pc, .int .i64 f, .bool dd] _ _ rfl rfl bZ rfl hs5.out (by simp [Value.oneCell']) ?_)
        intro wa ba hua
        have bYa := hua.heap bY (fun e => by (have : w.heap.size + 1 + 1 + 1 = w.heap.size + 1 + 1 := e); omega)
        have hBa := hB1.out.upd hua fun k hk => by subst hk; exact .inr ⟨by omega, by omega⟩
        have hUa := hU.trans hua (fun k hk e => by (have : k = w.heap.size + 1 + 1 := e); omega)
        have hza := hua.size
        clear hua bY bZ
        go_wp2_with ((with_reducible (show wpList _ _ _ (⟨_, Op.store _ _ _, _, _, _, _⟩ :: _) _ _)); refine storeB_list rfl 23 _ _ rfl (w.heap.size + 1 + 1 + 1) #[.int .i64 0, .int .i64 0, .int .i64 0, .int .i64 0, .int .i64 0, .int .i64 0] _ _ rfl rfl bYa rfl size_sp.out (by simp [Value.oneCell']) ?_)
        intro wb bb hub
        have bab := hub.heap ba (fun e => by (have : w.heap.size + 1 + 1 = w.heap.size + 1 + 1 + 1 := e); omega)
        have hBb := hBa.upd hub fun k hk => by subst hk; exact .inr ⟨by omega, by omega⟩
        have hUb := hUa.trans hub (fun k hk e => by (have : k = w.heap.size + 1 + 1 + 1 := e); omega)
        obtain ⟨e0, g0⟩ := cells_of bab
        obtain ⟨x0, x1, x2, x3, x4, x5⟩ := cells6 bb
        go_wp2_with fail
        refine bodyPost_ret (v := .tuple #[.agg #[.int .i64 m, .slice ka kn kc, .slice pa pn pc, .int .i64 f, .bool dd], .agg #[.int .i64 0, .int .i64 0, .int .i64 0, .int .i64 0, .int .i64 0, .int .i64 0], .int .i64 2]) (by simp [results, Try.results28, go_sem, e0, x0, x1, x2, x3, x4, x5]; try rfl) rfl ⟨_, _, _, by rw [hres.out, hlit.out]; rfl, by rw [hres.out]; exact hs.out, hBb.sub fun k hk => .inl hk, hUb⟩
    · have hres : Hid (saveR d ⟨sg, sr, ss, se, sl, sm⟩ = (d, Sp.none, xc)) := Lib.hid (by unfold saveR; rw [hfr, if_pos ⟨he0, he4⟩])
      have hb0 : (xc != 0) = true := by simp [he0]
      have hb4 : (xc != 4) = true := by simp [he4]
      replace hs := Lib.hid hs
      clear hfo hfr he0 he4 hok hP
      go_enter Try.func28, Try.ntmps28
      go_wp2_with fail
      refine (cFi.out _ (((((Upd.refl Non w).then_alloc _).then_alloc _).then_alloc _).then_alloc _)).mono ?_
      rintro en w1 ⟨rfl, hX⟩
      obtain ⟨bD, bS, bZ, bY, hz1⟩ := upd_four hX
      have hU : Upd Non w (w1.alloc (.cells #[.int .i64 xg, .int .i64 xr, .int .i64 xs, .int .i64 xe, .int .i64 xl, .int .i64 xm] 23)) := ((((((Upd.refl Non w).then_alloc _).then_alloc _).then_alloc _).then_alloc _).trans hX fun _ _ h => h).then_alloc (.cells #[.int .i64 xg, .int .i64 xr, .int .i64 xs, .int .i64 xe, .int .i64 xl, .int .i64 xm] 23)
      replace bD := (Upd.alloc Non w1 (.cells #[.int .i64 xg, .int .i64 xr, .int .i64 xs, .int .i64 xe, .int .i64 xl, .int .i64 xm] 23)).heap bD fun h => h
      replace bS := (Upd.alloc Non w1 (.cells #[.int .i64 xg, .int .i64 xr, .int .i64 xs, .int .i64 xe, .int .i64 xl, .int .i64 xm] 23)).heap bS fun h => h
      replace bZ := (Upd.alloc Non w1 (.cells #[.int .i64 xg, .int .i64 xr, .int .i64 xs, .int .i64 xe, .int .i64 xl, .int .i64 xm] 23)).heap bZ fun h => h
      replace bY := (Upd.alloc Non w1 (.cells #[.int .i64 xg, .int .i64 xr, .int .i64 xs, .int .i64 xe, .int .i64 xl, .int .i64 xm] 23)).heap bY fun h => h
      have bX := heap_alloc_new w1 (.cells #[.int .i64 xg, .int .i64 xr, .int .i64 xs, .int .i64 xe, .int .i64 xl, .int .i64 xm] 23)
      have hB1 := Lib.hid (hB.out.grow hU)
      have hzA : w1.heap.size + 1 = (w1.alloc (.cells #[.int .i64 xg, .int .i64 xr, .int .i64 xs, .int .i64 xe, .int .i64 xl, .int .i64 xm] 23)).heap.size := by simp
      clear hX cFi
      obtain ⟨v0, v1⟩ := cells_of bD
      go_wp2_with ((with_reducible (show wpList _ _ _ (⟨_, Op.store _ _ _, _, _, _, _⟩ :: _) _ _)); refine storeB_list rfl 64 _ _ rfl (w.heap.size + 1 + 1) #[.int .i64 m, .slice ka kn kc, .slice pa pn pc, .int .i64 f, .bool dd] _ _ rfl rfl bZ rfl hs5.out (by simp [Value.oneCell']) ?_)
      intro wa ba hua
      have bYa := hua.heap bY (fun e => by (have : w.heap.size + 1 + 1 + 1 = w.heap.size + 1 + 1 := e); omega)
      have hBa := hB1.out.upd hua fun k hk => by subst hk; exact .inr ⟨by omega, by omega⟩
      have hUa := hU.trans hua (fun k hk e => by (have : k = w.heap.size + 1 + 1 := e); omega)
      have hza := hua.size
      clear hua bY bZ
      go_wp2_with ((with_reducible (show wpList _ _ _ (⟨_, Op.store _ _ _, _, _, _, _⟩ :: _) _ _)); refine storeB_list rfl 23 _ _ rfl (w.heap.size + 1 + 1 + 1) #[.int .i64 0, .int .i64 0, .int .i64 0, .int .i64 0, .int .i64 0, .int .i64 0] _ _ rfl rfl bYa rfl size_sp.out (by simp [Value.oneCell']) ?_)
      intro wb bb hub
      have bab := hub.heap ba (fun e => by (have : w.heap.size + 1 + 1 = w.heap.size + 1 + 1 + 1 := e); omega)
      have hBb := hBa.upd hub fun k hk => by subst hk; exact .inr ⟨by omega, by omega⟩
      have hUb := hUa.trans hub (fun k hk e => by (have : k = w.heap.size + 1 + 1 + 1 := e); omega)
      obtain ⟨e0, g0⟩ := cells_of bab
      obtain ⟨x0, x1, x2, x3, x4, x5⟩ := cells6 bb
      go_wp2_with fail
      refine bodyPost_ret (v := .tuple #[.agg #[.int .i64 m, .slice ka kn kc, .slice pa pn pc, .int .i64 f, .bool dd], .agg #[.int .i64 0, .int .i64 0, .int .i64 0, .int .i64 0, .int .i64 0, .int .i64 0], .int .i64 xc]) (by simp [results, Try.results28, go_sem, e0, x0, x1, x2, x3, x4, x5]; try rfl) rfl ⟨_, _, _, by rw [hres.out, hlit.out]; rfl, by rw [hres.out]; exact hs.out, hBb.sub fun k hk => .inl hk, hUb⟩
end Go.Proofs.Ytgdkgnolkepgdaa

namespace Go.Proofs.Ytgdkgnolkepgdaa
set_option maxRecDepth 100000
open Go.RowKit Go.Amb Go.Shelf
set_option linter.unusedVariables false
set_option linter.unusedSimpArgs false
section
variable {B : Nat → Prop} {w0 w : World} {D : Nat} {F : Nat → Prop} {d d1 r : Dk} {kv pv : Value}
theorem bthCrash (h : Bth B w0 w D F d r kv pv) (hs : Same d1 r) (hok : d1.Ok) (hP : d1.P.length ≤ 1000000) (v : Value) (l : List Int) (hI : Ints w v l) :
    Calls Try.prog 25 #[rfv r kv pv, v] w (fun en w9 => ∃ m ka kn kc pa pn pc f dd, en = .returned (.agg #[.int .i64 m, .slice ka kn kc, .slice pa pn pc, .int .i64 f, .bool dd]) ∧
      rfv (r.crashR l) (.slice ka kn kc) (.slice pa pn pc) = .agg #[.int .i64 m, .slice ka kn kc, .slice pa pn pc, .int .i64 f, .bool dd] ∧ Bth B w0 w9 D F d (r.crashR l) (.slice ka kn kc) (.slice pa pn pc) ∧ Upd Non w w9) := by
  have e2 : r.K.length = d1.K.length := by rw [hs.k, List.length_map]
  have hn1 := hok.n1
  have hn2 := hok.n2
  refine (refCrash r kv pv v l w h.rat hI (fun p hp => by rw [e2]; exact (hok.p p (by rw [hs.p]; exact hp)).2) (by omega) (by rw [← hs.p]; exact hP) (by omega)).mono ?_
  rintro en w9 ⟨kv', he, hR, hu, hn⟩
  obtain ⟨_, ka, kc, rfl, -⟩ := id hR.k
  exact ⟨_, _, _, _, _, _, _, _, _, he, rfl, h.ref hR hu (fun k hk => .inr (hn k hk)) (fun k hk => by simp [At, Value.ownBlock] at hk), hu⟩
theorem arm_P (d : Dk) (n : Int) : (d.arm n).1.P = d.P := by unfold Dk.arm; split <;> rfl
theorem bthArm (h : Bth B w0 w D F d r kv pv) (hs : Same d1 r) (n : Int) :
    Calls Try.prog 26 #[rfv r kv pv, .int .i64 n] w (fun en w9 => ∃ m ka kn kc pa pn pc f dd, en = .returned (.tuple #[.agg #[.int .i64 m, .slice ka kn kc, .slice pa pn pc, .int .i64 f, .bool dd], .int .i64 (d1.arm n).2]) ∧
      rfv (r.arm n).1 (.slice ka kn kc) (.slice pa pn pc) = .agg #[.int .i64 m, .slice ka kn kc, .slice pa pn pc, .int .i64 f, .bool dd] ∧ Bth B w0 w9 D F d (r.arm n).1 (.slice ka kn kc) (.slice pa pn pc) ∧ Upd Non w w9) := by
  obtain ⟨_, ka, kc, rfl, -⟩ := id h.rat.k
  obtain ⟨_, pa, pcp, rfl, -⟩ := id h.rat.p
  rw [(hs.arm n).2]
  refine (refArm r _ _ w ⟨_, _, _, rfl⟩ ⟨_, _, _, rfl⟩ n).mono ?_
  rintro en w9 ⟨he, hu⟩
  exact ⟨_, _, _, _, _, _, _, _, _, he, rfl, h.ref (h.rat.keepP hu (arm_K r n) (arm_P r n)) hu (Nw.refl _ _ _) (Nw.refl _ _ _), hu⟩
theorem dWrite (h : Bth B w0 w D F d r kv pv) (hn : d.P.length ≤ 1000000) (i : Int) (s : List UInt8) (v : Value) (hB : Bytes w v s) (hv : ∀ k, At v k → ¬ F k) :
    Calls Try.prog 24 #[.pointer (some ⟨D, 0, none⟩), .int .i64 i, v] w (fun en w' => en = .returned (.int .i64 (d.write i s).2) ∧ ∃ F', Bth B w0 w' D F' (d.write i s).1 r kv pv ∧ Upd F w w') :=
  (lvWrite h.lv hn i s v hB hv).mono fun en w' hc => h.call hc
theorem dCrash (h : Bth B w0 w D F d r kv pv) (hn : d.P.length ≤ 1000000) (v : Value) (l : List Int) (hB : Ints w v l) (hv : 0 < l.length → ∀ k, At v k → ¬ F k) :
    Calls Try.prog 20 #[.pointer (some ⟨D, 0, none⟩), v] w (fun en w' => en = .returned (.int .i64 0) ∧ ∃ F', Bth B w0 w' D F' (d.crash l) r kv pv ∧ Upd F w w') :=
  (lvCrash h.lv hn v l hB hv).mono fun en w' hc => h.call hc
theorem dArm (h : Bth B w0 w D F d r kv pv) (n : Int) (hn : n < 9223372036854775808) :
    Calls Try.prog 18 #[.pointer (some ⟨D, 0, none⟩), .int .i64 n] w (fun en w' => en = .returned (.int .i64 (d.arm n).2) ∧ ∃ F', Bth B w0 w' D F' (d.arm n).1 r kv pv ∧ Upd F w w') :=
  (lvArm h.lv n hn).mono fun en w' hc => h.call hc
theorem dSave (h : Bth B w0 w D F d r kv pv) (hn : d.P.length ≤ 999999) (s : Sp) :
    Calls Try.prog 19 #[.pointer (some ⟨D, 0, none⟩), spV s] w (fun en w' => en = .returned (.tuple #[spV (saveR d s).2.1, .int .i64 (saveR d s).2.2]) ∧ ∃ F', Bth B w0 w' D F' (saveR d s).1 r kv pv ∧ Upd F w w') :=
  (ySave h.lv hn s).mono fun en w' hc => h.call hc
end
theorem savep_P (d : Dk) (s : Sp) : (saveR d s).1.P.length ≤ d.P.length + 1 := by
  have h1 := write_P d (nextG d % 2) (putS (s.at_ (nextG d)))
  have h2 := flush_P (d.write (nextG d % 2) (putS (s.at_ (nextG d)))).1
  unfold saveR
  split
  · exact Nat.le_succ _
  · split
    · exact Nat.le_succ _
    · split
      · exact Nat.le_succ _
      · split
        · exact h1
        · split
          · exact Nat.le_trans h2 h1
          · exact Nat.le_trans h2 h1
/-- A call of the law. -/
structure Ac where
  kind : Int
  i : Int
  s : List UInt8
  v : Value
  keep : List Int
  p : Sp
def acC (a : Ac) : Array Value := #[.int .i64 a.kind, .int .i64 a.i, .string ⟨a.s.toArray⟩, a.v, .int .i64 a.p.gen, .int .i64 a.p.root, .int .i64 a.p.start, .int .i64 a.p.epoch, .int .i64 a.p.last, .int .i64 a.p.mark]
structure AcOk (w : World) (a : Ac) : Prop where
  i : a.i < 9223372036854775808
  has : Ints w a.v a.keep
  old : 0 < a.keep.length → ∀ k, At a.v k → k < w.heap.size
/-- Calls that lie in a row. -/
structure Acs (w : World) (v : Value) (l : List Ac) : Prop where
  form : ∃ a c, v = .slice a l.length c ∧ l.length ≤ maxLen ∧ ∀ i (hi : i < l.length), AcOk w l[i] ∧ ∃ g off, a = some ⟨g, off, none⟩ ∧ ∀ j u, (acC l[i])[j]? = some u → w.cell? ⟨g, off + i * 10 + j, none⟩ = some u
theorem cells10 {w : World} {b : Nat} {c0 c1 c2 c3 c4 c5 c6 c7 c8 c9 : Value} {t : TypeId} (h : w.heap[b]? = some (.cells #[c0, c1, c2, c3, c4, c5, c6, c7, c8, c9] t (0, 0))) : w.cell? ⟨b, 0, none⟩ = some c0 ∧ w.cell? ⟨b, 1, none⟩ = some c1 ∧ w.cell? ⟨b, 2, none⟩ = some c2 ∧ w.cell? ⟨b, 3, none⟩ = some c3 ∧ w.cell? ⟨b, 4, none⟩ = some c4 ∧ w.cell? ⟨b, 5, none⟩ = some c5 ∧ w.cell? ⟨b, 6, none⟩ = some c6 ∧ w.cell? ⟨b, 7, none⟩ = some c7 ∧ w.cell? ⟨b, 8, none⟩ = some c8 ∧ w.cell? ⟨b, 9, none⟩ = some c9 :=
  ⟨(cells_of h).1 0, (cells_of h).1 1, (cells_of h).1 2, (cells_of h).1 3, (cells_of h).1 4, (cells_of h).1 5, (cells_of h).1 6, (cells_of h).1 7, (cells_of h).1 8, (cells_of h).1 9⟩
def rc (r : Dk) (kv pv : Value) : Array Value := #[.int .i64 (r.K.length : Nat), kv, pv, .int .i64 r.f, .bool r.dd]
theorem rfv_lit2 {w : World} {r : Dk} {kv pv : Value} (h : RAt w r kv pv) : ∃ m ka kn kc pa pn pc f dd, rfv r kv pv = .agg #[.int .i64 m, .slice ka kn kc, .slice pa pn pc, .int .i64 f, .bool dd] ∧ pn = r.P.length ∧ dd = r.dd := by
  obtain ⟨_, ka, kc, rfl, -⟩ := id h.k
  obtain ⟨_, pa, pcp, rfl, -⟩ := id h.p
  exact ⟨_, _, _, _, _, _, _, _, _, rfl, rfl, rfl⟩
theorem same_new (n : Nat) : Same (Dk.new n) ⟨List.replicate n [], [], -1, false⟩ := by
  refine ⟨?_, ?_, rfl, rfl, rfl⟩
  · show List.replicate n (List.replicate 128 0) = (List.replicate n []).map full
    rw [List.map_replicate]; rfl
  · intro s hs
    rw [List.eq_of_mem_replicate hs]; exact Nat.zero_le _
/-- Both disks, new. -/
theorem bthNew {w0 w : World} {D : Nat} {F : Nat → Prop} (n : Nat) (h1 : 1 ≤ n) (h2 : n ≤ 16384) (hL : Lv w0 D w F (Dk.new n)) :
    Calls Try.prog 22 #[.int .i64 (n : Int)] w (fun en w9 => ∃ m ka kn kc pa pn pc f dd, en = .returned (.tuple #[.agg #[.int .i64 m, .slice ka kn kc, .slice pa pn pc, .int .i64 f, .bool dd], .int .i64 0]) ∧
      rfv ⟨List.replicate n [], [], -1, false⟩ (.slice ka kn kc) (.slice pa pn pc) = .agg #[.int .i64 m, .slice ka kn kc, .slice pa pn pc, .int .i64 f, .bool dd] ∧ Bth Non w0 w9 D F (Dk.new n) ⟨List.replicate n [], [], -1, false⟩ (.slice ka kn kc) (.slice pa pn pc) ∧ Upd Non w w9) :=
  (refNew n h1 h2 w).mono fun en w9 ⟨kv, he, hR, hu, hn⟩ => by
    obtain ⟨_, ka, kc, rfl, -⟩ := id hR.k
    have hz := hL.upd.size
    exact ⟨_, _, _, _, _, _, _, _, _, he, rfl, ⟨hL.non hu, hR, fun k hk => ⟨fun hF => by have := hL.at_.lt k hF; have := hn k hk; omega, by have := hn k hk; omega, (hn k hk).2⟩, fun k hk => by simp [At, Value.ownBlock] at hk, fun k hk => hk.elim⟩, hu⟩
end Go.Proofs.Ytgdkgnolkepgdaa
