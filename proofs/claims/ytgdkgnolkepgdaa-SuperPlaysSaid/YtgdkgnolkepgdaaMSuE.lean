/- The walk over ambryref11.Read. -/
import Derived.Test.YtgdkgnolkepgdaaMSuD
import Derived.Test.YtgdkgnolkepgdaaMRefA
import Derived.Test.YtgdkgnolkepgdaaMLibF
namespace Go.Proofs.Ytgdkgnolkepgdaa
set_option maxRecDepth 100000
open Go.RowKit Go.Amb Go.Shelf
set_option linter.unusedVariables false
set_option linter.unusedSimpArgs false
attribute [local go_sem ↓] Go.wp_at_zero Go.wp_at_succ

theorem size_sp : Hid ((Try.prog.info? 23).map (·.size) = some 6) := Lib.hid (by kernel_rfl)
set_option maxHeartbeats 2000000 in
theorem qRead (b : List UInt8) (w : World) (hb : b.length ≤ 140737488355328) : Calls Try.prog 16 #[.string ⟨b.toArray⟩] w (Ret (.tuple #[spV (readR b).1, .int .i64 (readR b).2]) w) := by
  by_cases hl : b.length = 128
  · have n1 := fun w => refNumber b 4 8 w (by omega) hb (by decide)
    have n2 := fun w => refNumber b 12 4 w (by omega) hb (by decide)
    have n3 := fun w => refNumber b 16 8 w (by omega) hb (by decide)
    have n4 := fun w => refNumber b 24 4 w (by omega) hb (by decide)
    have n5 := fun w => refNumber b 28 8 w (by omega) hb (by decide)
    have n6 := fun w => refNumber b 36 8 w (by omega) hb (by decide)
    have l2 := numL_lt_of (l := (b.drop 12).take 4) (m := 4) (by simp; omega)
    have l4 := numL_lt_of (l := (b.drop 24).take 4) (m := 4) (by simp; omega)
    have g2 := numL_nonneg ((b.drop 12).take 4)
    have g4 := numL_nonneg ((b.drop 24).take 4)
    rw [IntWalk.wrap64_in _ ⟨by omega, by omega⟩] at n2 n4
    have hs : spOf b = ⟨wrap64 (numL ((b.drop 4).take 8)), numL ((b.drop 12).take 4) - 1, wrap64 (numL ((b.drop 16).take 8)), numL ((b.drop 24).take 4), wrap64 (numL ((b.drop 28).take 8)), wrap64 (numL ((b.drop 36).take 8))⟩ := rfl
    have hyes : bytesR (spOf b) = (b, 0) → readR b = (spOf b, 0) := fun h => readR_yes ⟨hl, h⟩
    have hno : bytesR (spOf b) ≠ (b, 0) → readR b = (Sp.none, 4) := fun h => readR_no (fun e => h e.2)
    have hr := Lib.hid (fun w => qRight (spOf b) w)
    have hp := fun (h : SpOk (spOf b)) w => qPut (spOf b) w h
    have hf := Lib.hid (fun w => refFull (putS (spOf b)) (by rw [putS_length]; decide) w)
    have hby := @bytesR_yes (spOf b)
    have hbn := @bytesR_no (spOf b)
    have hlb : ((b.length : Int) != 128) = false := by simp [hl]
    generalize wrap64 (numL ((b.drop 4).take 8)) = a1 at *
    generalize numL ((b.drop 12).take 4) = a2 at *
    generalize wrap64 (numL ((b.drop 16).take 8)) = a3 at *
    generalize numL ((b.drop 24).take 4) = a4 at *
    generalize wrap64 (numL ((b.drop 28).take 8)) = a5 at *
    generalize wrap64 (numL ((b.drop 36).take 8)) = a6 at *
    generalize full (putS (spOf b)) = fu at *
    generalize putS (spOf b) = pu at *
    rw [hs] at hyes hno hr hp hby hbn
    clear hs hl
    have hw2 : IntKind.i64.wrap (a2 - 1) = a2 - 1 := IntWalk.i64_in _ ⟨by omega, by omega⟩
    generalize hr2 : a2 - 1 = r at *
    replace hyes := Lib.hid hyes
    replace hno := Lib.hid hno
    replace hp := Lib.hid hp
    replace hby := Lib.hid hby
    replace hbn := Lib.hid hbn
    generalize readR b = res at *
    have hn1 := Lib.hid n1
    have hn2 := Lib.hid n2
    have hn3 := Lib.hid n3
    have hn4 := Lib.hid n4
    have hn5 := Lib.hid n5
    have hn6 := Lib.hid n6
    clear n1 n2 n3 n4 n5 n6
    go_enter Try.func16, Try.ntmps16
    go_wp2_with fail
    refine (hn1.out _).mono ?_
    rintro e w' ⟨rfl, rfl⟩
    go_wp2_with fail
    refine (hn2.out _).mono ?_
    rintro e w' ⟨rfl, rfl⟩
    go_wp2_with fail
    refine (hn3.out _).mono ?_
    rintro e w' ⟨rfl, rfl⟩
    go_wp2_with fail
    refine (hn4.out _).mono ?_
    rintro e w' ⟨rfl, rfl⟩
    go_wp2_with fail
    refine (hn5.out _).mono ?_
    rintro e w' ⟨rfl, rfl⟩
    go_wp2_with fail
    refine (hn6.out _).mono ?_
    rintro e w' ⟨rfl, rfl⟩
    go_wp2_with fail
    unfold spV at hr hp
    simp only at hr hp
    by_cases hok : SpOk ⟨a1, r, a3, a4, a5, a6⟩
    · rw [decide_eq_true hok] at hr
      replace hp := Lib.hid (hp.out hok)
      have hby2 := hby.out hok
      rw [hby2] at hyes hno
      clear hok hby hbn hby2
      refine (hr.out _).mono ?_
      rintro e w1 ⟨rfl, hX⟩
      have hbA := hX.heap (heap_alloc2_old w (.cells #[.int .i64 0, .int .i64 0, .int .i64 0, .int .i64 0, .int .i64 0, .int .i64 0] 23) (.cells #[.int .i64 a1, .int .i64 r, .int .i64 a3, .int .i64 a4, .int .i64 a5, .int .i64 a6] 23)) (fun h => h)
      have hbB := hX.heap (heap_alloc2_new w (.cells #[.int .i64 0, .int .i64 0, .int .i64 0, .int .i64 0, .int .i64 0, .int .i64 0] 23) (.cells #[.int .i64 a1, .int .i64 r, .int .i64 a3, .int .i64 a4, .int .i64 a5, .int .i64 a6] 23)) (fun h => h)
      have hU : Upd Non w w1 := (((Upd.refl Non w).then_alloc _).then_alloc _).trans hX fun _ _ h => h
      clear hX
      obtain ⟨z0, z1, z2, z3, z4, z5⟩ := cells6 hbB
      go_wp2_with fail
      refine (hp.out _).mono ?_
      rintro e w2 ⟨rfl, hu⟩
      replace hU := hU.trans hu fun _ _ h => h
      replace hbA := hu.heap hbA fun h => h
      replace hbB := hu.heap hbB fun h => h
      clear hu z0 z1 z2 z3 z4 z5
      obtain ⟨z0, z1, z2, z3, z4, z5⟩ := cells6 hbB
      go_wp2_with fail
      refine (hf.out _).mono ?_
      rintro e w3 ⟨rfl, hu⟩
      replace hU := hU.trans hu fun _ _ h => h
      replace hbA := hu.heap hbA fun h => h
      replace hbB := hu.heap hbB fun h => h
      clear hu z0 z1 z2 z3 z4 z5
      obtain ⟨z0, z1, z2, z3, z4, z5⟩ := cells6 hbB
      by_cases hfb : fu = b
      · obtain rfl := hyes.out (by rw [hfb])
        subst hfb
        clear hyes hno
        go_wp2_with ((with_reducible (show wpList _ _ _ (⟨_, Op.store _ _ _, _, _, _, _⟩ :: _) _ _)); refine storeB_list rfl 23 _ _ rfl w.heap.size #[.int .i64 a1, .int .i64 r, .int .i64 a3, .int .i64 a4, .int .i64 a5, .int .i64 a6] _ _ rfl rfl hbA rfl size_sp.out (by simp [Value.oneCell']) ?_)
        intro w8 hb8 hu8
        obtain ⟨x0, x1, x2, x3, x4, x5⟩ := cells6 hb8
        have hU8 := hU.trans hu8 (fun k hk e => by (have : k = w.heap.size := e); omega)
        go_wp2_with fail
        refine bodyPost_ret (v := .tuple #[.agg #[.int .i64 a1, .int .i64 r, .int .i64 a3, .int .i64 a4, .int .i64 a5, .int .i64 a6], .int .i64 0]) (by simp [results, Try.results16, go_sem, x0, x1, x2, x3, x4, x5]; try rfl) rfl ⟨rfl, hU8⟩
      · obtain rfl := hno.out (fun e => hfb (by injection e))
        have hfb2 : (fu == b) = false := by simpa using hfb
        clear hyes hno
        unfold Sp.none spV
        simp only
        go_wp2_with ((with_reducible (show wpList _ _ _ (⟨_, Op.store _ _ _, _, _, _, _⟩ :: _) _ _)); refine storeB_list rfl 23 _ _ rfl w.heap.size #[.int .i64 0, .int .i64 0, .int .i64 0, .int .i64 0, .int .i64 0, .int .i64 0] _ _ rfl rfl hbA rfl size_sp.out (by simp [Value.oneCell']) ?_)
        intro w8 hb8 hu8
        obtain ⟨x0, x1, x2, x3, x4, x5⟩ := cells6 hb8
        have hU8 := hU.trans hu8 (fun k hk e => by (have : k = w.heap.size := e); omega)
        go_wp2_with fail
        refine bodyPost_ret (v := .tuple #[.agg #[.int .i64 0, .int .i64 0, .int .i64 0, .int .i64 0, .int .i64 0, .int .i64 0], .int .i64 4]) (by simp [results, Try.results16, go_sem, x0, x1, x2, x3, x4, x5]; try rfl) rfl ⟨rfl, hU8⟩
    · rw [decide_eq_false hok] at hr
      have hbn2 := hbn.out hok
      rw [hbn2] at hyes hno
      clear hok hby hbn hbn2 hp
      obtain rfl := hno.out (fun e => by injection e with e1 e2; cases e2)
      clear hyes hno
      unfold Sp.none spV
      simp only
      refine (hr.out _).mono ?_
      rintro e w1 ⟨rfl, hX⟩
      have hbA := hX.heap (heap_alloc2_old w (.cells #[.int .i64 0, .int .i64 0, .int .i64 0, .int .i64 0, .int .i64 0, .int .i64 0] 23) (.cells #[.int .i64 a1, .int .i64 r, .int .i64 a3, .int .i64 a4, .int .i64 a5, .int .i64 a6] 23)) (fun h => h)
      have hbB := hX.heap (heap_alloc2_new w (.cells #[.int .i64 0, .int .i64 0, .int .i64 0, .int .i64 0, .int .i64 0, .int .i64 0] 23) (.cells #[.int .i64 a1, .int .i64 r, .int .i64 a3, .int .i64 a4, .int .i64 a5, .int .i64 a6] 23)) (fun h => h)
      have hU : Upd Non w w1 := (((Upd.refl Non w).then_alloc _).then_alloc _).trans hX fun _ _ h => h
      clear hX
      obtain ⟨z0, z1, z2, z3, z4, z5⟩ := cells6 hbB
      go_wp2_with ((with_reducible (show wpList _ _ _ (⟨_, Op.store _ _ _, _, _, _, _⟩ :: _) _ _)); refine storeB_list rfl 23 _ _ rfl w.heap.size #[.int .i64 0, .int .i64 0, .int .i64 0, .int .i64 0, .int .i64 0, .int .i64 0] _ _ rfl rfl hbA rfl size_sp.out (by simp [Value.oneCell']) ?_)
      intro w8 hb8 hu8
      obtain ⟨x0, x1, x2, x3, x4, x5⟩ := cells6 hb8
      have hU8 := hU.trans hu8 (fun k hk e => by (have : k = w.heap.size := e); omega)
      go_wp2_with fail
      refine bodyPost_ret (v := .tuple #[.agg #[.int .i64 0, .int .i64 0, .int .i64 0, .int .i64 0, .int .i64 0, .int .i64 0], .int .i64 4]) (by simp [results, Try.results16, go_sem, x0, x1, x2, x3, x4, x5]; try rfl) rfl ⟨rfl, hU8⟩
  · rw [readR_no (fun e => hl e.1)]
    have hlb : ((b.length : Int) != 128) = true := by simp; omega
    unfold Sp.none spV
    simp only
    clear hl hb
    have hbA := heap_alloc_new w (.cells #[.int .i64 0, .int .i64 0, .int .i64 0, .int .i64 0, .int .i64 0, .int .i64 0] 23)
    have hU := (Upd.refl Non w).then_alloc (.cells #[.int .i64 0, .int .i64 0, .int .i64 0, .int .i64 0, .int .i64 0, .int .i64 0] 23)
    go_enter Try.func16, Try.ntmps16
    go_wp2_with ((with_reducible (show wpList _ _ _ (⟨_, Op.store _ _ _, _, _, _, _⟩ :: _) _ _)); refine storeB_list rfl 23 _ _ rfl w.heap.size #[.int .i64 0, .int .i64 0, .int .i64 0, .int .i64 0, .int .i64 0, .int .i64 0] _ _ rfl rfl hbA rfl size_sp.out (by simp [Value.oneCell']) ?_)
    intro w8 hb8 hu8
    obtain ⟨x0, x1, x2, x3, x4, x5⟩ := cells6 hb8
    have hU8 := hU.trans hu8 (fun k hk e => by (have : k = w.heap.size := e); omega)
    go_wp2_with fail
    refine bodyPost_ret (v := .tuple #[.agg #[.int .i64 0, .int .i64 0, .int .i64 0, .int .i64 0, .int .i64 0, .int .i64 0], .int .i64 4]) (by simp [results, Try.results16, go_sem, x0, x1, x2, x3, x4, x5]; try rfl) rfl ⟨rfl, hU8⟩
end Go.Proofs.Ytgdkgnolkepgdaa
