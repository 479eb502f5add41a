/- The walk over the reference's ReadAnswer (printed by gen/mkwhd.py). -/
import Derived.Test.YtogekobpjjmnjaaGreatMWhD
import Derived.Test.YtogekobpjjmnjaaGreatMWaH
import Derived.Test.YtogekobpjjmnjaaGreatMWaI
import Derived.Test.YtogekobpjjmnjaaGreatMWrAb
namespace Go.Proofs.YtogekobpjjmnjaaGreat
open Go.RowKit Go.Amb
set_option linter.unusedVariables false
set_option linter.unusedSimpArgs false
set_option maxRecDepth 100000
attribute [local go_sem ↓] Go.wp_at_zero Go.wp_at_succ
set_option maxHeartbeats 32000000 in
theorem tReadAnswer (s : List UInt8) (w : World) (hs : s.length ≤ 140737488355328) : Calls Tryz.prog 5 #[.string ⟨s.toArray⟩] w (HeardA rTx s w) := by
  have hsml := Lib.hid (readA_small (tx := rTx) rTx_len s hs)
  have hids := Lib.hid (readA_ids rTx s)
  obtain ⟨X, hX⟩ : ∃ X, readA rTx s = X := ⟨_, rfl⟩
  have htell : Hid (tellA rTx s = if rdEnd s X.1 X.2.1 = 0 ∧ rightA X.2.2 ∧ putA X.2.2 = s then some X.2.2 else none) := Lib.hid (by unfold tellA; rw [hX])
  rw [hX] at hsml hids
  unfold readA at hX
  have c1 := Lib.hid (fun w' h => tNum (w.heap.size + 1) s 0 0 1 w' h hs (by omega))
  generalize rdNum s 0 0 1 = x at *
  obtain ⟨a1, e1, err⟩ := x
  dsimp only at hX c1
  have c2 := Lib.hid (fun w' h => tNum (w.heap.size + 1) s a1 e1 8 w' h hs (by omega))
  generalize rdNum s a1 e1 8 = x at *
  obtain ⟨a2, e2, id⟩ := x
  dsimp only at hX c2
  have c3 := Lib.hid (fun w' h => tNum (w.heap.size + 1) s a2 e2 8 w' h hs (by omega))
  generalize rdNum s a2 e2 8 = x at *
  obtain ⟨a3, e3, time⟩ := x
  dsimp only at hX c3
  have c4 := Lib.hid (fun w' h => tTextR (w.heap.size + 1) s a3 e3 w' h hs)
  generalize rTx s a3 e3 = x at *
  obtain ⟨a4, e4, text⟩ := x
  dsimp only at hX c4
  have c5 := Lib.hid (fun w' h => tTag (w.heap.size + 1) s a4 e4 w' h hs)
  generalize rdTag s a4 e4 = x at *
  obtain ⟨a5, e5, re, im⟩ := x
  dsimp only at hX c5
  have c6 := Lib.hid (fun w' h => tTextR (w.heap.size + 1) s a5 e5 w' h hs)
  generalize rTx s a5 e5 = x at *
  obtain ⟨a6, e6, version⟩ := x
  dsimp only at hX c6
  have c7 := Lib.hid (fun w' h => tHead (w.heap.size + 1) s a6 e6 w' h hs)
  generalize rdHd s a6 e6 = x at *
  obtain ⟨a7, e7, ⟨hs_, hr, hi, hg, hn_⟩⟩ := x
  dsimp only at hX c7
  have c8 := Lib.hid (fun w' h => tTextR (w.heap.size + 1) s a7 e7 w' h hs)
  generalize rTx s a7 e7 = x at *
  obtain ⟨a8, e8, body⟩ := x
  dsimp only at hX c8
  have c9 := Lib.hid (fun w' h => tTexts (w.heap.size + 1) s a8 e8 w' h hs)
  generalize rdTxs rTx s a8 e8 = x at *
  obtain ⟨a9, e9, names⟩ := x
  dsimp only at hX c9
  have c10 := Lib.hid (fun w' h => tTexts (w.heap.size + 1) s a9 e9 w' h hs)
  generalize rdTxs rTx s a9 e9 = x at *
  obtain ⟨a10, e10, lnames⟩ := x
  dsimp only at hX c10
  have c11 := Lib.hid (fun w' h => tTexts (w.heap.size + 1) s a10 e10 w' h hs)
  generalize rdTxs rTx s a10 e10 = x at *
  obtain ⟨a11, e11, lpre⟩ := x
  dsimp only at hX c11
  have c12 := Lib.hid (fun w' h => tTextR (w.heap.size + 1) s a11 e11 w' h hs)
  generalize rTx s a11 e11 = x at *
  obtain ⟨a12, e12, next⟩ := x
  dsimp only at hX c12
  have c13 := Lib.hid (fun w' h => tNum (w.heap.size + 1) s a12 e12 1 w' h hs (by omega))
  generalize rdNum s a12 e12 1 = x at *
  obtain ⟨a13, e13, bmore⟩ := x
  dsimp only at hX c13
  obtain ⟨more, hmore⟩ : ∃ more, decide (bmore = 1) = more := ⟨_, rfl⟩
  rw [hmore] at hX
  replace hmore : (bmore == 1) = more := hmore
  have c14 := Lib.hid (fun w' h => tLines (w.heap.size + 1) s a13 e13 w' h hs)
  generalize rdLns rTx s a13 e13 = x at *
  obtain ⟨a14, e14, lines, lobject, lid, lmore⟩ := x
  dsimp only at hX c14
  obtain ⟨Y, hY⟩ : ∃ Y, rdUps rTx s a14 e14 = Y := ⟨_, rfl⟩
  rw [hY] at hX
  obtain ⟨a16, e16, ups⟩ := Y
  dsimp only at hX
  obtain ⟨Y, hP⟩ : ∃ Y, rdPts s a16 e16 = Y := ⟨_, rfl⟩
  rw [hP] at hX
  obtain ⟨a18, e18, parts⟩ := Y
  dsimp only at hX
  subst hX
  dsimp only at htell hsml hids
  have c15 := Lib.hid (fun w' h => tNum (w.heap.size + 1) s a14 e14 2 w' h hs (by omega))
  obtain ⟨z1, hz1, hz12⟩ := rdNum_nat s a14 e14 2 (by omega)
  unfold rdUps at hY
  generalize rdNum s a14 e14 2 = x at *
  obtain ⟨a15, e15, n15⟩ := x
  dsimp only at hY hz1 c15
  subst hz1
  rw [Int.toNat_natCast] at hY
  replace hY := Lib.hid hY
  have c17 := Lib.hid (fun w' h => tNum (w.heap.size + 1) s a16 e16 2 w' h hs (by omega))
  obtain ⟨z2, hz2, hz22⟩ := rdNum_nat s a16 e16 2 (by omega)
  unfold rdPts at hP
  generalize rdNum s a16 e16 2 = x at *
  obtain ⟨a17, e17, n17⟩ := x
  dsimp only at hP hz2 c17
  subst hz2
  rw [Int.toNat_natCast] at hP
  replace hP := Lib.hid hP
  have hzb1 : z1 < 65536 := by simpa using hz12
  have hzb2 : z2 < 65536 := by simpa using hz22
  clear hz12 hz22
  have cT := Lib.hid (fun a e w' h => tTextR (w.heap.size + 1) s a e w' h hs)
  have cN2 := Lib.hid (fun a e w' h => tNum (w.heap.size + 1) s a e 2 w' h hs (by omega))
  have cN8 := Lib.hid (fun a e w' h => tNum (w.heap.size + 1) s a e 8 w' h hs (by omega))
  have cH := Lib.hid (fun a e w' h => tHead (w.heap.size + 1) s a e w' h hs)
  have hszz : Hid ((Tryz.prog.info? 39).map (·.size) = some (#[.int .i64 0, .int .i64 0, .int .i64 0, .string ⟨#[]⟩, .int .i64 0, .int .i64 0, .string ⟨#[]⟩, .int .i64 0, .int .i64 0, .int .i64 0, .bool false, .bool false, .string ⟨#[]⟩, .slice none 0 0, .slice none 0 0, .slice none 0 0, .string ⟨#[]⟩, .bool false, .slice none 0 0, .string ⟨#[]⟩, .int .i64 0, .bool false, .slice none 0 0, .slice none 0 0] : Array Value).size) := Lib.hid (by kernel_rfl)
  have hsz1 : Hid ((Tryz.prog.info? 39).map (·.size) = some (#[.int .i64 err, .int .i64 0, .int .i64 0, .string ⟨#[]⟩, .int .i64 0, .int .i64 0, .string ⟨#[]⟩, .int .i64 0, .int .i64 0, .int .i64 0, .bool false, .bool false, .string ⟨#[]⟩, .slice none 0 0, .slice none 0 0, .slice none 0 0, .string ⟨#[]⟩, .bool false, .slice none 0 0, .string ⟨#[]⟩, .int .i64 0, .bool false, .slice none 0 0, .slice none 0 0] : Array Value).size) := Lib.hid (by kernel_rfl)
  have hszh : Hid ((Tryz.prog.info? 27).map (·.size) = some (#[Value.int .i64 hs_, .int .i64 hr, .int .i64 hi, .bool hg, .bool hn_] : Array Value).size) := Lib.hid (by kernel_rfl)
  have hszt : Hid ((Tryz.prog.info? 25).map (·.size) = some (#[Value.int .i64 re, .int .i64 im] : Array Value).size) := Lib.hid (by kernel_rfl)
  obtain ⟨PR, hPR⟩ : ∃ PR, HeardA rTx s w = PR := ⟨_, rfl⟩
  rw [hPR]
  replace hPR := Lib.hid hPR
  unfold tagV at c5
  unfold hdV at c7
  dsimp only at c5 c7
  have gZ := Lib.hid (heap_alloc2_old w (.cells #[.int .i64 0, .int .i64 0, .int .i64 0, .string ⟨#[]⟩, .int .i64 0, .int .i64 0, .string ⟨#[]⟩, .int .i64 0, .int .i64 0, .int .i64 0, .bool false, .bool false, .string ⟨#[]⟩, .slice none 0 0, .slice none 0 0, .slice none 0 0, .string ⟨#[]⟩, .bool false, .slice none 0 0, .string ⟨#[]⟩, .int .i64 0, .bool false, .slice none 0 0, .slice none 0 0] 39) (.cells #[.string ⟨s.toArray⟩, .int .i64 0, .int .i64 0] 69))
  have hT : TkAt ((w.alloc (.cells #[.int .i64 0, .int .i64 0, .int .i64 0, .string ⟨#[]⟩, .int .i64 0, .int .i64 0, .string ⟨#[]⟩, .int .i64 0, .int .i64 0, .int .i64 0, .bool false, .bool false, .string ⟨#[]⟩, .slice none 0 0, .slice none 0 0, .slice none 0 0, .string ⟨#[]⟩, .bool false, .slice none 0 0, .string ⟨#[]⟩, .int .i64 0, .bool false, .slice none 0 0, .slice none 0 0] 39)).alloc (.cells #[.string ⟨s.toArray⟩, .int .i64 0, .int .i64 0] 69)) (w.heap.size + 1) s 0 0 := ⟨Nat.zero_le _, heap_alloc2_new _ _ _⟩
  have gU : Upd Non w ((w.alloc (.cells #[.int .i64 0, .int .i64 0, .int .i64 0, .string ⟨#[]⟩, .int .i64 0, .int .i64 0, .string ⟨#[]⟩, .int .i64 0, .int .i64 0, .int .i64 0, .bool false, .bool false, .string ⟨#[]⟩, .slice none 0 0, .slice none 0 0, .slice none 0 0, .string ⟨#[]⟩, .bool false, .slice none 0 0, .string ⟨#[]⟩, .int .i64 0, .bool false, .slice none 0 0, .slice none 0 0] 39)).alloc (.cells #[.string ⟨s.toArray⟩, .int .i64 0, .int .i64 0] 69)) := (Upd.alloc _ _ _).then_alloc _
  go_enter Tryz.func5, Tryz.ntmps5
  go_wp2_with fail
  refine (c1.out _ hT).mono ?_
  rintro en x0 ⟨rfl, hT_, hu_⟩
  clear hT
  have hT := hT_
  replace gZ := Lib.hid (hu_.heap gZ.out (by omega))
  replace gU := gU.trans hu_ (fun j hj h => by omega)
  have hTz := heap_lt hT.2
  clear hT_ hu_ c1
  have gb := heap_alloc_new x0 (.cells #[.int .i64 0, .int .i64 0, .int .i64 0, .string ⟨#[]⟩, .int .i64 0, .int .i64 0, .string ⟨#[]⟩, .int .i64 0, .int .i64 0, .int .i64 0, .bool false, .bool false, .string ⟨#[]⟩, .slice none 0 0, .slice none 0 0, .slice none 0 0, .string ⟨#[]⟩, .bool false, .slice none 0 0, .string ⟨#[]⟩, .int .i64 0, .bool false, .slice none 0 0, .slice none 0 0] 39)
  have hal_ := Upd.alloc Non x0 (.cells #[.int .i64 0, .int .i64 0, .int .i64 0, .string ⟨#[]⟩, .int .i64 0, .int .i64 0, .string ⟨#[]⟩, .int .i64 0, .int .i64 0, .int .i64 0, .bool false, .bool false, .string ⟨#[]⟩, .slice none 0 0, .slice none 0 0, .slice none 0 0, .string ⟨#[]⟩, .bool false, .slice none 0 0, .string ⟨#[]⟩, .int .i64 0, .bool false, .slice none 0 0, .slice none 0 0] 39)
  replace gZ := Lib.hid (hal_.heap gZ.out (fun h => h))
  replace hT := hT.upd hal_ (fun h => h)
  replace gU := gU.trans hal_ (fun _ _ h => h)
  clear hal_
  go_wp2_with ((with_reducible (show wpList _ _ _ (⟨_, Op.store _ _ _, _, _, _, _⟩ :: _) _ _)); refine storeB_list rfl 39 _ _ rfl x0.heap.size #[.int .i64 err, .int .i64 0, .int .i64 0, .string ⟨#[]⟩, .int .i64 0, .int .i64 0, .string ⟨#[]⟩, .int .i64 0, .int .i64 0, .int .i64 0, .bool false, .bool false, .string ⟨#[]⟩, .slice none 0 0, .slice none 0 0, .slice none 0 0, .string ⟨#[]⟩, .bool false, .slice none 0 0, .string ⟨#[]⟩, .int .i64 0, .bool false, .slice none 0 0, .slice none 0 0] _ _ rfl rfl gb rfl hsz1.out (by simp [Value.oneCell']) ?_)
  intro x0b hb_ hu_
  obtain ⟨N, hN⟩ : ∃ N, x0.heap.size = N := ⟨_, rfl⟩
  rw [hN] at hb_ hu_ hTz ⊢
  clear gb hN
  replace gZ := Lib.hid (hu_.heap gZ.out (by omega))
  replace hT := hT.upd hu_ (by omega)
  replace gU := gU.trans hu_ (fun j hj h => by omega)
  have gb := Lib.hid hb_
  clear hb_ hu_
  go_wp2_with fail
  refine (c2.out _ hT).mono ?_
  rintro en x1 ⟨rfl, hT_, hu_⟩
  clear hT
  have hT := hT_
  replace gZ := Lib.hid (hu_.heap gZ.out (by omega))
  replace gb := Lib.hid (hu_.heap gb.out (by omega))
  replace gU := gU.trans hu_ (fun j hj h => by omega)
  clear hT_ hu_ c2
  go_wp2_with ((with_reducible (show wpList _ _ _ (⟨_, Op.store _ _ _, _, _, _, _⟩ :: _) _ _)); refine storeC_list rfl 3 _ _ rfl N 1 (.int .i64 id) _ _ rfl rfl gb.out (show 1 < 24 by omega) rfl rfl rfl ?_)
  intro x2 hb_ hu_
  replace gZ := Lib.hid (hu_.heap gZ.out (by omega))
  replace hT := hT.upd hu_ (by omega)
  replace gU := gU.trans hu_ (fun j hj h => by omega)
  replace gb : Hid (x2.heap[N]? = some (.cells #[.int .i64 err, .int .i64 id, .int .i64 0, .string ⟨#[]⟩, .int .i64 0, .int .i64 0, .string ⟨#[]⟩, .int .i64 0, .int .i64 0, .int .i64 0, .bool false, .bool false, .string ⟨#[]⟩, .slice none 0 0, .slice none 0 0, .slice none 0 0, .string ⟨#[]⟩, .bool false, .slice none 0 0, .string ⟨#[]⟩, .int .i64 0, .bool false, .slice none 0 0, .slice none 0 0] 39 (0, 0))) := Lib.hid hb_
  clear hb_ hu_
  go_wp2_with fail
  refine (c3.out _ hT).mono ?_
  rintro en x3 ⟨rfl, hT_, hu_⟩
  clear hT
  have hT := hT_
  replace gZ := Lib.hid (hu_.heap gZ.out (by omega))
  replace gb := Lib.hid (hu_.heap gb.out (by omega))
  replace gU := gU.trans hu_ (fun j hj h => by omega)
  clear hT_ hu_ c3
  go_wp2_with ((with_reducible (show wpList _ _ _ (⟨_, Op.store _ _ _, _, _, _, _⟩ :: _) _ _)); refine storeC_list rfl 3 _ _ rfl N 2 (.int .i64 time) _ _ rfl rfl gb.out (show 2 < 24 by omega) rfl rfl rfl ?_)
  intro x4 hb_ hu_
  replace gZ := Lib.hid (hu_.heap gZ.out (by omega))
  replace hT := hT.upd hu_ (by omega)
  replace gU := gU.trans hu_ (fun j hj h => by omega)
  replace gb : Hid (x4.heap[N]? = some (.cells #[.int .i64 err, .int .i64 id, .int .i64 time, .string ⟨#[]⟩, .int .i64 0, .int .i64 0, .string ⟨#[]⟩, .int .i64 0, .int .i64 0, .int .i64 0, .bool false, .bool false, .string ⟨#[]⟩, .slice none 0 0, .slice none 0 0, .slice none 0 0, .string ⟨#[]⟩, .bool false, .slice none 0 0, .string ⟨#[]⟩, .int .i64 0, .bool false, .slice none 0 0, .slice none 0 0] 39 (0, 0))) := Lib.hid hb_
  clear hb_ hu_
  go_wp2_with fail
  refine (c4.out _ hT).mono ?_
  rintro en x5 ⟨rfl, hT_, hu_⟩
  clear hT
  have hT := hT_
  replace gZ := Lib.hid (hu_.heap gZ.out (by omega))
  replace gb := Lib.hid (hu_.heap gb.out (by omega))
  replace gU := gU.trans hu_ (fun j hj h => by omega)
  clear hT_ hu_ c4
  go_wp2_with ((with_reducible (show wpList _ _ _ (⟨_, Op.store _ _ _, _, _, _, _⟩ :: _) _ _)); refine storeC_list rfl 9 _ _ rfl N 3 (.string ⟨text.toArray⟩) _ _ rfl rfl gb.out (show 3 < 24 by omega) rfl rfl rfl ?_)
  intro x6 hb_ hu_
  replace gZ := Lib.hid (hu_.heap gZ.out (by omega))
  replace hT := hT.upd hu_ (by omega)
  replace gU := gU.trans hu_ (fun j hj h => by omega)
  replace gb : Hid (x6.heap[N]? = some (.cells #[.int .i64 err, .int .i64 id, .int .i64 time, .string ⟨text.toArray⟩, .int .i64 0, .int .i64 0, .string ⟨#[]⟩, .int .i64 0, .int .i64 0, .int .i64 0, .bool false, .bool false, .string ⟨#[]⟩, .slice none 0 0, .slice none 0 0, .slice none 0 0, .string ⟨#[]⟩, .bool false, .slice none 0 0, .string ⟨#[]⟩, .int .i64 0, .bool false, .slice none 0 0, .slice none 0 0] 39 (0, 0))) := Lib.hid hb_
  clear hb_ hu_
  go_wp2_with fail
  refine (c5.out _ hT).mono ?_
  rintro en x7 ⟨rfl, hT_, hu_⟩
  clear hT
  have hT := hT_
  replace gZ := Lib.hid (hu_.heap gZ.out (by omega))
  replace gb := Lib.hid (hu_.heap gb.out (by omega))
  replace gU := gU.trans hu_ (fun j hj h => by omega)
  clear hT_ hu_ c5
  go_wp2_with ((with_reducible (show wpList _ _ _ (⟨_, Op.store _ _ _, _, _, _, _⟩ :: _) _ _)); refine storeM_list rfl 25 _ _ rfl N 4 #[.int .i64 re, .int .i64 im] _ _ rfl rfl gb.out (show 4 + 2 ≤ 24 by omega) hszt.out (by simp [Value.oneCell']) ?_)
  intro x8 hb_ hu_
  replace gZ := Lib.hid (hu_.heap gZ.out (by omega))
  replace hT := hT.upd hu_ (by omega)
  replace gU := gU.trans hu_ (fun j hj h => by omega)
  replace gb : Hid (x8.heap[N]? = some (.cells #[.int .i64 err, .int .i64 id, .int .i64 time, .string ⟨text.toArray⟩, .int .i64 re, .int .i64 im, .string ⟨#[]⟩, .int .i64 0, .int .i64 0, .int .i64 0, .bool false, .bool false, .string ⟨#[]⟩, .slice none 0 0, .slice none 0 0, .slice none 0 0, .string ⟨#[]⟩, .bool false, .slice none 0 0, .string ⟨#[]⟩, .int .i64 0, .bool false, .slice none 0 0, .slice none 0 0] 39 (0, 0))) := Lib.hid hb_
  clear hb_ hu_
  go_wp2_with fail
  refine (c6.out _ hT).mono ?_
  rintro en x9 ⟨rfl, hT_, hu_⟩
  clear hT
  have hT := hT_
  replace gZ := Lib.hid (hu_.heap gZ.out (by omega))
  replace gb := Lib.hid (hu_.heap gb.out (by omega))
  replace gU := gU.trans hu_ (fun j hj h => by omega)
  clear hT_ hu_ c6
  go_wp2_with ((with_reducible (show wpList _ _ _ (⟨_, Op.store _ _ _, _, _, _, _⟩ :: _) _ _)); refine storeC_list rfl 9 _ _ rfl N 6 (.string ⟨version.toArray⟩) _ _ rfl rfl gb.out (show 6 < 24 by omega) rfl rfl rfl ?_)
  intro x10 hb_ hu_
  replace gZ := Lib.hid (hu_.heap gZ.out (by omega))
  replace hT := hT.upd hu_ (by omega)
  replace gU := gU.trans hu_ (fun j hj h => by omega)
  replace gb : Hid (x10.heap[N]? = some (.cells #[.int .i64 err, .int .i64 id, .int .i64 time, .string ⟨text.toArray⟩, .int .i64 re, .int .i64 im, .string ⟨version.toArray⟩, .int .i64 0, .int .i64 0, .int .i64 0, .bool false, .bool false, .string ⟨#[]⟩, .slice none 0 0, .slice none 0 0, .slice none 0 0, .string ⟨#[]⟩, .bool false, .slice none 0 0, .string ⟨#[]⟩, .int .i64 0, .bool false, .slice none 0 0, .slice none 0 0] 39 (0, 0))) := Lib.hid hb_
  clear hb_ hu_
  go_wp2_with fail
  refine (c7.out _ hT).mono ?_
  rintro en x11 ⟨rfl, hT_, hu_⟩
  clear hT
  have hT := hT_
  replace gZ := Lib.hid (hu_.heap gZ.out (by omega))
  replace gb := Lib.hid (hu_.heap gb.out (by omega))
  replace gU := gU.trans hu_ (fun j hj h => by omega)
  clear hT_ hu_ c7
  go_wp2_with ((with_reducible (show wpList _ _ _ (⟨_, Op.store _ _ _, _, _, _, _⟩ :: _) _ _)); refine storeM_list rfl 27 _ _ rfl N 7 #[.int .i64 hs_, .int .i64 hr, .int .i64 hi, .bool hg, .bool hn_] _ _ rfl rfl gb.out (show 7 + 5 ≤ 24 by omega) hszh.out (by simp [Value.oneCell']) ?_)
  intro x12 hb_ hu_
  replace gZ := Lib.hid (hu_.heap gZ.out (by omega))
  replace hT := hT.upd hu_ (by omega)
  replace gU := gU.trans hu_ (fun j hj h => by omega)
  replace gb : Hid (x12.heap[N]? = some (.cells #[.int .i64 err, .int .i64 id, .int .i64 time, .string ⟨text.toArray⟩, .int .i64 re, .int .i64 im, .string ⟨version.toArray⟩, .int .i64 hs_, .int .i64 hr, .int .i64 hi, .bool hg, .bool hn_, .string ⟨#[]⟩, .slice none 0 0, .slice none 0 0, .slice none 0 0, .string ⟨#[]⟩, .bool false, .slice none 0 0, .string ⟨#[]⟩, .int .i64 0, .bool false, .slice none 0 0, .slice none 0 0] 39 (0, 0))) := Lib.hid hb_
  clear hb_ hu_
  go_wp2_with fail
  refine (c8.out _ hT).mono ?_
  rintro en x13 ⟨rfl, hT_, hu_⟩
  clear hT
  have hT := hT_
  replace gZ := Lib.hid (hu_.heap gZ.out (by omega))
  replace gb := Lib.hid (hu_.heap gb.out (by omega))
  replace gU := gU.trans hu_ (fun j hj h => by omega)
  clear hT_ hu_ c8
  go_wp2_with ((with_reducible (show wpList _ _ _ (⟨_, Op.store _ _ _, _, _, _, _⟩ :: _) _ _)); refine storeC_list rfl 9 _ _ rfl N 12 (.string ⟨body.toArray⟩) _ _ rfl rfl gb.out (show 12 < 24 by omega) rfl rfl rfl ?_)
  intro x14 hb_ hu_
  replace gZ := Lib.hid (hu_.heap gZ.out (by omega))
  replace hT := hT.upd hu_ (by omega)
  replace gU := gU.trans hu_ (fun j hj h => by omega)
  replace gb : Hid (x14.heap[N]? = some (.cells #[.int .i64 err, .int .i64 id, .int .i64 time, .string ⟨text.toArray⟩, .int .i64 re, .int .i64 im, .string ⟨version.toArray⟩, .int .i64 hs_, .int .i64 hr, .int .i64 hi, .bool hg, .bool hn_, .string ⟨body.toArray⟩, .slice none 0 0, .slice none 0 0, .slice none 0 0, .string ⟨#[]⟩, .bool false, .slice none 0 0, .string ⟨#[]⟩, .int .i64 0, .bool false, .slice none 0 0, .slice none 0 0] 39 (0, 0))) := Lib.hid hb_
  clear hb_ hu_
  have hlN := heap_lt gb.out
  go_wp2_with fail
  refine (c9.out _ hT).mono ?_
  rintro en x15 ⟨nv, rfl, hT_, ⟨T1, hk_⟩, hu_⟩
  clear hT
  have hT := hT_
  replace gZ := Lib.hid (hu_.heap gZ.out (by omega))
  replace gb := Lib.hid (hu_.heap gb.out (by omega))
  replace gU := gU.trans hu_ (fun j hj h => by omega)
  clear hT_ hu_ c9
  have uT1 : ∀ k, At nv k → k < x15.heap.size := fun k hk => (hk_ k hk).2
  have hT1_ : ∀ k, At nv k → N < k := fun k hk => by have := (hk_ k hk).1; omega
  clear hk_
  clear hlN
  go_wp2_with ((with_reducible (show wpList _ _ _ (⟨_, Op.store _ _ _, _, _, _, _⟩ :: _) _ _)); refine storeC_list rfl 30 _ _ rfl N 13 (nv) _ _ rfl rfl gb.out (show 13 < 24 by omega) rfl (by obtain ⟨_, aa, cc, rfl, -⟩ := T1; rfl) (by obtain ⟨_, aa, cc, rfl, -⟩ := T1; rfl) ?_)
  intro x16 hb_ hu_
  replace gZ := Lib.hid (hu_.heap gZ.out (by omega))
  replace hT := hT.upd hu_ (by omega)
  replace T1 := T1.upd hu_ (fun k hk h => by have := hT1_ k hk; omega)
  replace uT1 := fun k (hk : At nv k) => Nat.lt_of_lt_of_le (uT1 k hk) hu_.size
  replace gU := gU.trans hu_ (fun j hj h => by omega)
  replace gb : Hid (x16.heap[N]? = some (.cells #[.int .i64 err, .int .i64 id, .int .i64 time, .string ⟨text.toArray⟩, .int .i64 re, .int .i64 im, .string ⟨version.toArray⟩, .int .i64 hs_, .int .i64 hr, .int .i64 hi, .bool hg, .bool hn_, .string ⟨body.toArray⟩, nv, .slice none 0 0, .slice none 0 0, .string ⟨#[]⟩, .bool false, .slice none 0 0, .string ⟨#[]⟩, .int .i64 0, .bool false, .slice none 0 0, .slice none 0 0] 39 (0, 0))) := Lib.hid hb_
  clear hb_ hu_
  have hlN := heap_lt gb.out
  go_wp2_with fail
  refine (c10.out _ hT).mono ?_
  rintro en x17 ⟨lnv, rfl, hT_, ⟨T2, hk_⟩, hu_⟩
  clear hT
  have hT := hT_
  replace gZ := Lib.hid (hu_.heap gZ.out (by omega))
  replace gb := Lib.hid (hu_.heap gb.out (by omega))
  replace T1 := T1.upd hu_ (fun k hk h => by have := hT1_ k hk; omega)
  replace uT1 := fun k (hk : At nv k) => Nat.lt_of_lt_of_le (uT1 k hk) hu_.size
  replace gU := gU.trans hu_ (fun j hj h => by omega)
  clear hT_ hu_ c10
  have uT2 : ∀ k, At lnv k → k < x17.heap.size := fun k hk => (hk_ k hk).2
  have hT2_ : ∀ k, At lnv k → N < k := fun k hk => by have := (hk_ k hk).1; omega
  clear hk_
  clear hlN
  go_wp2_with ((with_reducible (show wpList _ _ _ (⟨_, Op.store _ _ _, _, _, _, _⟩ :: _) _ _)); refine storeC_list rfl 30 _ _ rfl N 14 (lnv) _ _ rfl rfl gb.out (show 14 < 24 by omega) rfl (by obtain ⟨_, aa, cc, rfl, -⟩ := T2; rfl) (by obtain ⟨_, aa, cc, rfl, -⟩ := T2; rfl) ?_)
  intro x18 hb_ hu_
  replace gZ := Lib.hid (hu_.heap gZ.out (by omega))
  replace hT := hT.upd hu_ (by omega)
  replace T1 := T1.upd hu_ (fun k hk h => by have := hT1_ k hk; omega)
  replace uT1 := fun k (hk : At nv k) => Nat.lt_of_lt_of_le (uT1 k hk) hu_.size
  replace T2 := T2.upd hu_ (fun k hk h => by have := hT2_ k hk; omega)
  replace uT2 := fun k (hk : At lnv k) => Nat.lt_of_lt_of_le (uT2 k hk) hu_.size
  replace gU := gU.trans hu_ (fun j hj h => by omega)
  replace gb : Hid (x18.heap[N]? = some (.cells #[.int .i64 err, .int .i64 id, .int .i64 time, .string ⟨text.toArray⟩, .int .i64 re, .int .i64 im, .string ⟨version.toArray⟩, .int .i64 hs_, .int .i64 hr, .int .i64 hi, .bool hg, .bool hn_, .string ⟨body.toArray⟩, nv, lnv, .slice none 0 0, .string ⟨#[]⟩, .bool false, .slice none 0 0, .string ⟨#[]⟩, .int .i64 0, .bool false, .slice none 0 0, .slice none 0 0] 39 (0, 0))) := Lib.hid hb_
  clear hb_ hu_
  have hlN := heap_lt gb.out
  go_wp2_with fail
  refine (c11.out _ hT).mono ?_
  rintro en x19 ⟨lpv, rfl, hT_, ⟨T3, hk_⟩, hu_⟩
  clear hT
  have hT := hT_
  replace gZ := Lib.hid (hu_.heap gZ.out (by omega))
  replace gb := Lib.hid (hu_.heap gb.out (by omega))
  replace T1 := T1.upd hu_ (fun k hk h => by have := hT1_ k hk; omega)
  replace uT1 := fun k (hk : At nv k) => Nat.lt_of_lt_of_le (uT1 k hk) hu_.size
  replace T2 := T2.upd hu_ (fun k hk h => by have := hT2_ k hk; omega)
  replace uT2 := fun k (hk : At lnv k) => Nat.lt_of_lt_of_le (uT2 k hk) hu_.size
  replace gU := gU.trans hu_ (fun j hj h => by omega)
  clear hT_ hu_ c11
  have uT3 : ∀ k, At lpv k → k < x19.heap.size := fun k hk => (hk_ k hk).2
  have hT3_ : ∀ k, At lpv k → N < k := fun k hk => by have := (hk_ k hk).1; omega
  clear hk_
  clear hlN
  go_wp2_with ((with_reducible (show wpList _ _ _ (⟨_, Op.store _ _ _, _, _, _, _⟩ :: _) _ _)); refine storeC_list rfl 30 _ _ rfl N 15 (lpv) _ _ rfl rfl gb.out (show 15 < 24 by omega) rfl (by obtain ⟨_, aa, cc, rfl, -⟩ := T3; rfl) (by obtain ⟨_, aa, cc, rfl, -⟩ := T3; rfl) ?_)
  intro x20 hb_ hu_
  replace gZ := Lib.hid (hu_.heap gZ.out (by omega))
  replace hT := hT.upd hu_ (by omega)
  replace T1 := T1.upd hu_ (fun k hk h => by have := hT1_ k hk; omega)
  replace uT1 := fun k (hk : At nv k) => Nat.lt_of_lt_of_le (uT1 k hk) hu_.size
  replace T2 := T2.upd hu_ (fun k hk h => by have := hT2_ k hk; omega)
  replace uT2 := fun k (hk : At lnv k) => Nat.lt_of_lt_of_le (uT2 k hk) hu_.size
  replace T3 := T3.upd hu_ (fun k hk h => by have := hT3_ k hk; omega)
  replace uT3 := fun k (hk : At lpv k) => Nat.lt_of_lt_of_le (uT3 k hk) hu_.size
  replace gU := gU.trans hu_ (fun j hj h => by omega)
  replace gb : Hid (x20.heap[N]? = some (.cells #[.int .i64 err, .int .i64 id, .int .i64 time, .string ⟨text.toArray⟩, .int .i64 re, .int .i64 im, .string ⟨version.toArray⟩, .int .i64 hs_, .int .i64 hr, .int .i64 hi, .bool hg, .bool hn_, .string ⟨body.toArray⟩, nv, lnv, lpv, .string ⟨#[]⟩, .bool false, .slice none 0 0, .string ⟨#[]⟩, .int .i64 0, .bool false, .slice none 0 0, .slice none 0 0] 39 (0, 0))) := Lib.hid hb_
  clear hb_ hu_
  go_wp2_with fail
  refine (c12.out _ hT).mono ?_
  rintro en x21 ⟨rfl, hT_, hu_⟩
  clear hT
  have hT := hT_
  replace gZ := Lib.hid (hu_.heap gZ.out (by omega))
  replace gb := Lib.hid (hu_.heap gb.out (by omega))
  replace T1 := T1.upd hu_ (fun k hk h => by have := hT1_ k hk; omega)
  replace uT1 := fun k (hk : At nv k) => Nat.lt_of_lt_of_le (uT1 k hk) hu_.size
  replace T2 := T2.upd hu_ (fun k hk h => by have := hT2_ k hk; omega)
  replace uT2 := fun k (hk : At lnv k) => Nat.lt_of_lt_of_le (uT2 k hk) hu_.size
  replace T3 := T3.upd hu_ (fun k hk h => by have := hT3_ k hk; omega)
  replace uT3 := fun k (hk : At lpv k) => Nat.lt_of_lt_of_le (uT3 k hk) hu_.size
  replace gU := gU.trans hu_ (fun j hj h => by omega)
  clear hT_ hu_ c12
  go_wp2_with ((with_reducible (show wpList _ _ _ (⟨_, Op.store _ _ _, _, _, _, _⟩ :: _) _ _)); refine storeC_list rfl 9 _ _ rfl N 16 (.string ⟨next.toArray⟩) _ _ rfl rfl gb.out (show 16 < 24 by omega) rfl rfl rfl ?_)
  intro x22 hb_ hu_
  replace gZ := Lib.hid (hu_.heap gZ.out (by omega))
  replace hT := hT.upd hu_ (by omega)
  replace T1 := T1.upd hu_ (fun k hk h => by have := hT1_ k hk; omega)
  replace uT1 := fun k (hk : At nv k) => Nat.lt_of_lt_of_le (uT1 k hk) hu_.size
  replace T2 := T2.upd hu_ (fun k hk h => by have := hT2_ k hk; omega)
  replace uT2 := fun k (hk : At lnv k) => Nat.lt_of_lt_of_le (uT2 k hk) hu_.size
  replace T3 := T3.upd hu_ (fun k hk h => by have := hT3_ k hk; omega)
  replace uT3 := fun k (hk : At lpv k) => Nat.lt_of_lt_of_le (uT3 k hk) hu_.size
  replace gU := gU.trans hu_ (fun j hj h => by omega)
  replace gb : Hid (x22.heap[N]? = some (.cells #[.int .i64 err, .int .i64 id, .int .i64 time, .string ⟨text.toArray⟩, .int .i64 re, .int .i64 im, .string ⟨version.toArray⟩, .int .i64 hs_, .int .i64 hr, .int .i64 hi, .bool hg, .bool hn_, .string ⟨body.toArray⟩, nv, lnv, lpv, .string ⟨next.toArray⟩, .bool false, .slice none 0 0, .string ⟨#[]⟩, .int .i64 0, .bool false, .slice none 0 0, .slice none 0 0] 39 (0, 0))) := Lib.hid hb_
  clear hb_ hu_
  go_wp2_with fail
  refine (c13.out _ hT).mono ?_
  rintro en x23 ⟨rfl, hT_, hu_⟩
  clear hT
  have hT := hT_
  replace gZ := Lib.hid (hu_.heap gZ.out (by omega))
  replace gb := Lib.hid (hu_.heap gb.out (by omega))
  replace T1 := T1.upd hu_ (fun k hk h => by have := hT1_ k hk; omega)
  replace uT1 := fun k (hk : At nv k) => Nat.lt_of_lt_of_le (uT1 k hk) hu_.size
  replace T2 := T2.upd hu_ (fun k hk h => by have := hT2_ k hk; omega)
  replace uT2 := fun k (hk : At lnv k) => Nat.lt_of_lt_of_le (uT2 k hk) hu_.size
  replace T3 := T3.upd hu_ (fun k hk h => by have := hT3_ k hk; omega)
  replace uT3 := fun k (hk : At lpv k) => Nat.lt_of_lt_of_le (uT3 k hk) hu_.size
  replace gU := gU.trans hu_ (fun j hj h => by omega)
  clear hT_ hu_ c13
  go_wp2_with ((with_reducible (show wpList _ _ _ (⟨_, Op.store _ _ _, _, _, _, _⟩ :: _) _ _)); refine storeC_list rfl 4 _ _ rfl N 17 (.bool more) _ _ rfl rfl gb.out (show 17 < 24 by omega) rfl rfl rfl ?_)
  intro x24 hb_ hu_
  replace gZ := Lib.hid (hu_.heap gZ.out (by omega))
  replace hT := hT.upd hu_ (by omega)
  replace T1 := T1.upd hu_ (fun k hk h => by have := hT1_ k hk; omega)
  replace uT1 := fun k (hk : At nv k) => Nat.lt_of_lt_of_le (uT1 k hk) hu_.size
  replace T2 := T2.upd hu_ (fun k hk h => by have := hT2_ k hk; omega)
  replace uT2 := fun k (hk : At lnv k) => Nat.lt_of_lt_of_le (uT2 k hk) hu_.size
  replace T3 := T3.upd hu_ (fun k hk h => by have := hT3_ k hk; omega)
  replace uT3 := fun k (hk : At lpv k) => Nat.lt_of_lt_of_le (uT3 k hk) hu_.size
  replace gU := gU.trans hu_ (fun j hj h => by omega)
  replace gb : Hid (x24.heap[N]? = some (.cells #[.int .i64 err, .int .i64 id, .int .i64 time, .string ⟨text.toArray⟩, .int .i64 re, .int .i64 im, .string ⟨version.toArray⟩, .int .i64 hs_, .int .i64 hr, .int .i64 hi, .bool hg, .bool hn_, .string ⟨body.toArray⟩, nv, lnv, lpv, .string ⟨next.toArray⟩, .bool more, .slice none 0 0, .string ⟨#[]⟩, .int .i64 0, .bool false, .slice none 0 0, .slice none 0 0] 39 (0, 0))) := Lib.hid hb_
  clear hb_ hu_
  have hlN := heap_lt gb.out
  go_wp2_with fail
  refine (c14.out _ hT).mono ?_
  rintro en x25 ⟨_, rfl, hT_, ⟨lv, rfl, T4, hk_⟩, hu_⟩
  clear hT
  have hT := hT_
  replace gZ := Lib.hid (hu_.heap gZ.out (by omega))
  replace gb := Lib.hid (hu_.heap gb.out (by omega))
  replace T1 := T1.upd hu_ (fun k hk h => by have := hT1_ k hk; omega)
  replace uT1 := fun k (hk : At nv k) => Nat.lt_of_lt_of_le (uT1 k hk) hu_.size
  replace T2 := T2.upd hu_ (fun k hk h => by have := hT2_ k hk; omega)
  replace uT2 := fun k (hk : At lnv k) => Nat.lt_of_lt_of_le (uT2 k hk) hu_.size
  replace T3 := T3.upd hu_ (fun k hk h => by have := hT3_ k hk; omega)
  replace uT3 := fun k (hk : At lpv k) => Nat.lt_of_lt_of_le (uT3 k hk) hu_.size
  replace gU := gU.trans hu_ (fun j hj h => by omega)
  clear hT_ hu_ c14
  have uT4 : ∀ k, At lv k → k < x25.heap.size := fun k hk => (hk_ k hk).2
  have hT4_ : ∀ k, At lv k → N < k := fun k hk => by have := (hk_ k hk).1; omega
  clear hk_
  clear hlN
  have hl4 : (#[lv, .string ⟨lobject.toArray⟩, .int .i64 lid, .bool lmore] : Array Value).all (·.oneCell') = true := by obtain ⟨_, aa, cc, rfl, -⟩ := T4; simp [Value.oneCell']
  have hszl : Hid ((Tryz.prog.info? 35).map (·.size) = some (#[lv, .string ⟨lobject.toArray⟩, .int .i64 lid, .bool lmore] : Array Value).size) := Lib.hid (by kernel_rfl)
  unfold lnsV
  go_wp2_with ((with_reducible (show wpList _ _ _ (⟨_, Op.store _ _ _, _, _, _, _⟩ :: _) _ _)); refine storeM_list rfl 35 _ _ rfl N 18 #[lv, .string ⟨lobject.toArray⟩, .int .i64 lid, .bool lmore] _ _ rfl rfl gb.out (show 18 + 4 ≤ 24 by omega) hszl.out hl4 ?_)
  intro x26 hb_ hu_
  replace gZ := Lib.hid (hu_.heap gZ.out (by omega))
  replace hT := hT.upd hu_ (by omega)
  replace T1 := T1.upd hu_ (fun k hk h => by have := hT1_ k hk; omega)
  replace uT1 := fun k (hk : At nv k) => Nat.lt_of_lt_of_le (uT1 k hk) hu_.size
  replace T2 := T2.upd hu_ (fun k hk h => by have := hT2_ k hk; omega)
  replace uT2 := fun k (hk : At lnv k) => Nat.lt_of_lt_of_le (uT2 k hk) hu_.size
  replace T3 := T3.upd hu_ (fun k hk h => by have := hT3_ k hk; omega)
  replace uT3 := fun k (hk : At lpv k) => Nat.lt_of_lt_of_le (uT3 k hk) hu_.size
  replace T4 := T4.upd hu_ (fun k hk h => by have := hT4_ k hk; omega)
  replace uT4 := fun k (hk : At lv k) => Nat.lt_of_lt_of_le (uT4 k hk) hu_.size
  replace gU := gU.trans hu_ (fun j hj h => by omega)
  replace gb : Hid (x26.heap[N]? = some (.cells #[.int .i64 err, .int .i64 id, .int .i64 time, .string ⟨text.toArray⟩, .int .i64 re, .int .i64 im, .string ⟨version.toArray⟩, .int .i64 hs_, .int .i64 hr, .int .i64 hi, .bool hg, .bool hn_, .string ⟨body.toArray⟩, nv, lnv, lpv, .string ⟨next.toArray⟩, .bool more, lv, .string ⟨lobject.toArray⟩, .int .i64 lid, .bool lmore, .slice none 0 0, .slice none 0 0] 39 (0, 0))) := Lib.hid hb_
  clear hb_ hu_
  clear hl4 hszl
  go_wp2_with fail
  refine (c15.out _ hT).mono ?_
  rintro en x27 ⟨rfl, hT_, hu_⟩
  clear hT
  have hT := hT_
  replace gZ := Lib.hid (hu_.heap gZ.out (by omega))
  replace gb := Lib.hid (hu_.heap gb.out (by omega))
  replace T1 := T1.upd hu_ (fun k hk h => by have := hT1_ k hk; omega)
  replace uT1 := fun k (hk : At nv k) => Nat.lt_of_lt_of_le (uT1 k hk) hu_.size
  replace T2 := T2.upd hu_ (fun k hk h => by have := hT2_ k hk; omega)
  replace uT2 := fun k (hk : At lnv k) => Nat.lt_of_lt_of_le (uT2 k hk) hu_.size
  replace T3 := T3.upd hu_ (fun k hk h => by have := hT3_ k hk; omega)
  replace uT3 := fun k (hk : At lpv k) => Nat.lt_of_lt_of_le (uT3 k hk) hu_.size
  replace T4 := T4.upd hu_ (fun k hk h => by have := hT4_ k hk; omega)
  replace uT4 := fun k (hk : At lv k) => Nat.lt_of_lt_of_le (uT4 k hk) hu_.size
  replace gU := gU.trans hu_ (fun j hj h => by omega)
  clear hT_ hu_ c15
  go_wp2_with fail
  have hlN := heap_lt gb.out
  obtain ⟨B, hB⟩ : ∃ B, x27.heap.size = B := ⟨_, rfl⟩
  rw [hB] at hlN
  refine Code.wp_mono (Q := MidU w x27 s N B a16 e16 (fun v => #[.int .i64 err, .int .i64 id, .int .i64 time, .string ⟨text.toArray⟩, .int .i64 re, .int .i64 im, .string ⟨version.toArray⟩, .int .i64 hs_, .int .i64 hr, .int .i64 hi, .bool hg, .bool hn_, .string ⟨body.toArray⟩, nv, lnv, lpv, .string ⟨next.toArray⟩, .bool more, lv, .string ⟨lobject.toArray⟩, .int .i64 lid, .bool lmore, v, .slice none 0 0]) 59 2 upC ups 0) ?_ ?_
  case refine_2 =>
    clear htell hsml hids hPR T1 uT1 hT1_ T2 uT2 hT2_ T3 uT3 hT3_ T4 uT4 hT4_
    have gB : Upd (fun k => k = w.heap.size + 1 ∨ k = N) x27 x27 := Upd.refl _ _
    have hrel0 : Hid (rdMany (rdUp rTx s) (z1 - 0) a15 e15 [] = (a16, e16, ups)) := Lib.hid (by rw [Nat.sub_zero]; exact hY.out)
    have hii : Hid ((Tryz.prog.info? 59).map (fun i => (i.zero, i.size, i.bytes)) = some (some (.agg #[.string ⟨#[]⟩, .int .i64 0]), 2, 24)) := Lib.hid (by kernel_rfl)
    obtain ⟨PM, hPM⟩ : ∃ PM, MidU w x27 s N B a16 e16 (fun v => #[.int .i64 err, .int .i64 id, .int .i64 time, .string ⟨text.toArray⟩, .int .i64 re, .int .i64 im, .string ⟨version.toArray⟩, .int .i64 hs_, .int .i64 hr, .int .i64 hi, .bool hg, .bool hn_, .string ⟨body.toArray⟩, nv, lnv, lpv, .string ⟨next.toArray⟩, .bool more, lv, .string ⟨lobject.toArray⟩, .int .i64 lid, .bool lmore, v, .slice none 0 0]) 59 2 upC ups 0 = PM := ⟨_, rfl⟩
    rw [hPM]
    replace hPM := Lib.hid hPM
    go_loopw [7] (fun iv wr => ∃ (k : Nat) (l : List Up) (a : Nat) (e : Int) (v : Value), iv = .int .i64 (k : Int) ∧ k ≤ z1 ∧ l.length = k ∧ Hid (rdMany (rdUp rTx s) (z1 - k) a e l = (a16, e16, ups)) ∧ TkAt wr (w.heap.size + 1) s a e ∧ wr.ownsRow B 59 2 v l.length (l.flatMap upC) ∧ Hid (wr.heap[w.heap.size]? = some (.cells #[.int .i64 0, .int .i64 0, .int .i64 0, .string ⟨#[]⟩, .int .i64 0, .int .i64 0, .string ⟨#[]⟩, .int .i64 0, .int .i64 0, .int .i64 0, .bool false, .bool false, .string ⟨#[]⟩, .slice none 0 0, .slice none 0 0, .slice none 0 0, .string ⟨#[]⟩, .bool false, .slice none 0 0, .string ⟨#[]⟩, .int .i64 0, .bool false, .slice none 0 0, .slice none 0 0] 39 (0, 0))) ∧ Hid (wr.heap[N]? = some (.cells #[.int .i64 err, .int .i64 id, .int .i64 time, .string ⟨text.toArray⟩, .int .i64 re, .int .i64 im, .string ⟨version.toArray⟩, .int .i64 hs_, .int .i64 hr, .int .i64 hi, .bool hg, .bool hn_, .string ⟨body.toArray⟩, nv, lnv, lpv, .string ⟨next.toArray⟩, .bool more, lv, .string ⟨lobject.toArray⟩, .int .i64 lid, .bool lmore, v, .slice none 0 0] 39 (0, 0))) ∧ B ≤ wr.heap.size ∧ Upd Non w wr ∧ Upd (fun k => k = w.heap.size + 1 ∨ k = N) x27 wr) (fun iv _ => z1 - (intOf iv).toNat)
    case atStart => exact ⟨0, [], a15, e15, .slice none 0 0, rfl, Nat.zero_le _, rfl, hrel0, hT, World.ownsRow_nil _ _ _ _, gZ, gb, by omega, gU, gB⟩
    case round =>
      clear gZ gb gU gB hT hrel0
      obtain ⟨k, l, ar, er, v, rfl, hk, hlk, hq, hT, ho, gZ, gb, hzB, gU, gB⟩ := hrel
      have y2 : wr.cell? ⟨w.heap.size + 1, 2, none⟩ = some (.int .i64 er) := (cells_of hT.2).1 2
      have hk0 : (0 : Int) ≤ (k : Int) := by omega
      replace hlk := Lib.hid hlk
      obtain ⟨-, va, vc, rfl, -⟩ := has_of_owns ho
      by_cases hc : k < z1 ∧ er = 0
      case pos =>
        obtain ⟨hlt2, rfl⟩ := hc
        have hltI : (k : Int) < (z1 : Int) := by omega
        have hq2 := Lib.hid ((many_step (rdUp rTx s) ar l hlt2).symm.trans hq.out)
        obtain ⟨X, hX⟩ : ∃ X, rdUp rTx s ar 0 = X := ⟨_, rfl⟩
        rw [hX] at hq2
        clear hq hPM
        unfold rdUp at hX
        have g1 := Lib.hid (cT.out ar 0)
        generalize rTx s ar 0 = x at g1 hX
        obtain ⟨a2, e2, t2⟩ := x
        dsimp only at g1 hX
        have g2 := Lib.hid (cN8.out a2 e2)
        generalize rdNum s a2 e2 8 = x at g2 hX
        obtain ⟨a3, e3, i3⟩ := x
        dsimp only at g2 hX
        subst hX
        dsimp only at hq2
        clear cT cN2 cN8 cH
        have hszE : ∀ (b1 : ByteArray) (i1 : Int), (Tryz.prog.info? 59).map (·.size) = some (#[.string b1, .int .i64 i1] : Array Value).size := by
          have h : (Tryz.prog.info? 59).map (·.size) = some 2 := by kernel_rfl
          intro _ _; exact h
        replace hszE := Lib.hid hszE
        go_wp2_with fail
        refine (g1.out _ hT).mono ?_
        rintro en x28 ⟨rfl, hT_, hu_⟩
        clear hT
        have hT := hT_
        replace gZ := Lib.hid (hu_.heap gZ.out (by omega))
        replace gb := Lib.hid (hu_.heap gb.out (by omega))
        replace ho := hu_.owns ho (fun j hj h => by have := own_ge ho hj; omega)
        replace gU := gU.trans hu_ (fun j hj h => by omega)
        replace gB := gB.trans hu_ (fun j hj h => .inl h)
        replace hzB := Nat.le_trans hzB hu_.size
        clear hT_ hu_ g1 y2
        have hNx := hzB
        have hvx := Lib.hid (fun k (hk : At (.slice va l.length vc) k) => own_lt ho hk)
        have huA := Upd.alloc Non x28 (.cells #[.string ⟨#[]⟩, .int .i64 0] 59)
        have hb_x := heap_alloc_new x28 (.cells #[.string ⟨#[]⟩, .int .i64 0] 59)
        have hzx : x28.heap.size + 1 ≤ (x28.alloc (.cells #[.string ⟨#[]⟩, .int .i64 0] 59)).heap.size := by rw [World.size_alloc]; exact Nat.le_refl _
        replace gZ := Lib.hid (huA.heap gZ.out (fun h => h))
        replace gb := Lib.hid (huA.heap gb.out (fun h => h))
        replace hT := hT.upd huA (fun h => h)
        replace ho := huA.owns ho (fun _ _ h => h)
        replace gU := gU.trans huA (fun _ _ h => h)
        replace gB := gB.trans huA (fun _ _ h => h.elim)
        replace hzB := Nat.le_trans hzB huA.size
        clear huA
        go_wp2_with ((with_reducible (show wpList _ _ _ (⟨_, Op.store _ _ _, _, _, _, _⟩ :: _) _ _)); refine storeB_list rfl 59 _ _ rfl x28.heap.size #[.string ⟨t2.toArray⟩, .int .i64 0] _ _ rfl rfl hb_x rfl (hszE.out _ _) (by simp [Value.oneCell']) ?_)
        intro x29 hb_ hu_
        replace gZ := Lib.hid (hu_.heap gZ.out (by omega))
        replace gb := Lib.hid (hu_.heap gb.out (by omega))
        replace hT := hT.upd hu_ (by omega)
        replace ho := hu_.owns ho (fun j hj h => by have := hvx.out j hj; omega)
        replace gU := gU.trans hu_ (fun j hj h => by omega)
        replace gB := gB.trans hu_ (fun j hj h => by omega)
        replace hzB := Nat.le_trans hzB hu_.size
        replace hzx := Nat.le_trans hzx hu_.size
        replace hb_x := hb_
        clear hb_ hu_
        go_wp2_with fail
        refine (g2.out _ hT).mono ?_
        rintro en x30 ⟨rfl, hT_, hu_⟩
        clear hT
        have hT := hT_
        replace gZ := Lib.hid (hu_.heap gZ.out (by omega))
        replace gb := Lib.hid (hu_.heap gb.out (by omega))
        replace hb_x := hu_.heap hb_x (by omega)
        replace ho := hu_.owns ho (fun j hj h => by have := own_ge ho hj; omega)
        replace gU := gU.trans hu_ (fun j hj h => by omega)
        replace gB := gB.trans hu_ (fun j hj h => .inl h)
        replace hzB := Nat.le_trans hzB hu_.size
        replace hzx := Nat.le_trans hzx hu_.size
        clear hT_ hu_ g2
        go_wp2_with ((with_reducible (show wpList _ _ _ (⟨_, Op.store _ _ _, _, _, _, _⟩ :: _) _ _)); refine storeC_list rfl 3 _ _ rfl x28.heap.size 1 (.int .i64 i3) _ _ rfl rfl hb_x (show 1 < 2 by omega) rfl rfl rfl ?_)
        intro x31 hb_ hu_
        replace gZ := Lib.hid (hu_.heap gZ.out (by omega))
        replace gb := Lib.hid (hu_.heap gb.out (by omega))
        replace hT := hT.upd hu_ (by omega)
        replace ho := hu_.owns ho (fun j hj h => by have := hvx.out j hj; omega)
        replace gU := gU.trans hu_ (fun j hj h => by omega)
        replace gB := gB.trans hu_ (fun j hj h => by omega)
        replace hzB := Nat.le_trans hzB hu_.size
        replace hzx := Nat.le_trans hzx hu_.size
        replace hb_x : x31.heap[x28.heap.size]? = some (.cells #[.string ⟨t2.toArray⟩, .int .i64 i3] 59 (0, 0)) := hb_
        clear hb_ hu_
        have hzw := hzB
        go_wp2_with (first | ((with_reducible (show wpList _ _ _ (⟨_, Op.load _ _, _, _, _, _⟩ :: _) _ _)); refine loadC_list rfl 36 _ rfl N 22 (.slice va l.length vc) _ rfl ((cells_of gb.out).1 22) Tryz.underlying36 rfl ?_) | ((with_reducible (show wpList _ _ _ (⟨_, Op.load _ _, _, _, _, _⟩ :: _) _ _)); refine loadB_list rfl 59 _ rfl x28.heap.size #[.string ⟨t2.toArray⟩, .int .i64 i3] _ _ rfl hb_x Tryz.underlying59 rfl (hszE.out _ _) ?_) | (at_builtin; go_must (refine wpList_app1 rfl _ _ 36 rfl B 59 (.agg #[.string ⟨#[]⟩, .int .i64 0]) 2 24 Tryz.underlying36 hii.out rfl _ _ _ rfl ho [.string ⟨t2.toArray⟩, .int .i64 i3] rfl rfl (by intro u hu; simp at hu; rcases hu with rfl | rfl <;> rfl) ?h63 ?hby hzw ?_)))
        case h63 => have := hlk.out; unfold maxLen; omega
        case hby => have := hlk.out; omega
        intro v9 x32 ho9 hu_ hf9
        clear hb_x
        replace gZ := Lib.hid (hu_.heap gZ.out (fun hj => by have := own_ge ho hj; omega))
        replace gb := Lib.hid (hu_.heap gb.out (fun hj => by have := own_ge ho hj; omega))
        replace hT := hT.upd hu_ (fun hj => by have := own_ge ho hj; omega)
        replace gU := gU.trans hu_ (fun j hj h => by have := own_ge ho h; omega)
        replace gB := gB.trans hu_ (fun j hj h => by have := own_ge ho h; omega)
        replace hzB := Nat.le_trans hzB hu_.size
        replace hzx := Nat.le_trans hzx hu_.size
        clear ho hu_ hf9 hzx hNx hvx hzw
        have ho := ho9
        clear ho9
        obtain ⟨-, va2, vc2, rfl, -⟩ := has_of_owns ho
        go_wp2_with ((with_reducible (show wpList _ _ _ (⟨_, Op.store _ _ _, _, _, _, _⟩ :: _) _ _)); refine storeC_list rfl 36 _ _ rfl N 22 (.slice va2 (l.length + 1) vc2) _ _ rfl rfl gb.out (show 22 < 24 by omega) rfl rfl rfl ?_)
        intro x33 hb_ hu_
        replace gZ := Lib.hid (hu_.heap gZ.out (by omega))
        replace hT := hT.upd hu_ (by omega)
        replace ho := hu_.owns ho (fun j hj h => by have := own_ge ho hj; omega)
        replace gU := gU.trans hu_ (fun j hj h => by omega)
        replace gB := gB.trans hu_ (fun j hj h => .inr h)
        replace hzB := Nat.le_trans hzB hu_.size
        replace gb : Hid (x33.heap[N]? = some (.cells #[.int .i64 err, .int .i64 id, .int .i64 time, .string ⟨text.toArray⟩, .int .i64 re, .int .i64 im, .string ⟨version.toArray⟩, .int .i64 hs_, .int .i64 hr, .int .i64 hi, .bool hg, .bool hn_, .string ⟨body.toArray⟩, nv, lnv, lpv, .string ⟨next.toArray⟩, .bool more, lv, .string ⟨lobject.toArray⟩, .int .i64 lid, .bool lmore, .slice va2 (l.length + 1) vc2, .slice none 0 0] 39 (0, 0))) := Lib.hid hb_
        clear hb_ hu_
        have ho5 : x33.ownsRow B 59 2 (.slice va2 (l.length + 1) vc2) (l ++ [(⟨t2, i3⟩ : Up)]).length ((l ++ [(⟨t2, i3⟩ : Up)]).flatMap upC) := by rw [List.length_append, List.flatMap_append]; exact ho
        clear ho
        go_wp2_with fail
        go_roundw
        case rel => exact ⟨k + 1, l ++ [⟨t2, i3⟩], a3, e3, _, by go_num, by omega, by simp [hlk.out], hq2, hT, ho5, gZ, gb, by omega, gU, gB⟩
        case measure => simp [intOf]; omega
      case neg =>
        have hq2 := (many_end (rdUp rTx s) ar l hc).symm.trans hq.out
        injection hq2 with h1 h2
        injection h2 with h2 h3
        subst h1
        subst h2
        subst h3
        clear hq cT cN2 cN8 cH hii
        have hfin : Hid (∀ a, (∃ u, a = F138 u (.string ⟨s.toArray⟩) (.pointer (some ⟨w.heap.size, 0, none⟩)) (.int .i64 0) (.pointer (some ⟨w.heap.size + 1, 0, none⟩)) (.pointer (some ⟨N, 0, none⟩))) → PM (.exit 0) a wr) := Lib.hid (fun a ⟨u, h⟩ => by rw [← hPM.out]; exact ⟨u, _, rfl, h, hT, ho, gZ.out, gb.out, hzB, gU, gB⟩)
        clear hT ho gZ gb gU gB
        by_cases hlt2 : k < z1
        case pos =>
          have hltI : (k : Int) < (z1 : Int) := by omega
          have her : ¬ er = 0 := fun h => hc ⟨hlt2, h⟩
          go_wp2_with fail
          exact hfin.out _ ⟨_, F138_of _ _ _ _ _ _ _ _ _ _ _ _ _ _ _ _ _ _ _ _ _ _ _ _ _ _ _ _ _ _ _ _ _ _ _ _ _ _ _ _ _ _ _ _ _ _ _ _ _ _ _ _ _ _ _ _ _ _ _ _ _ _ _ _ _ _ _ _ _ _ _ _ _ _ _ _ _ _ _ _ _ _ _ _ _ _ _ _ _ _ _ _ _ _ _ _ _ _ _ _ _ _ _ _ _ _ _ _ _ _ _ _ _ _ _ _ _ _ _ _ _ _ _ _ _ _ _ _ _ _ _ _ _ _ _ _ _ _⟩
        case neg =>
          have hltI : ¬ (k : Int) < (z1 : Int) := by omega
          clear y2
          go_wp2_with fail
          exact hfin.out _ ⟨_, F138_of _ _ _ _ _ _ _ _ _ _ _ _ _ _ _ _ _ _ _ _ _ _ _ _ _ _ _ _ _ _ _ _ _ _ _ _ _ _ _ _ _ _ _ _ _ _ _ _ _ _ _ _ _ _ _ _ _ _ _ _ _ _ _ _ _ _ _ _ _ _ _ _ _ _ _ _ _ _ _ _ _ _ _ _ _ _ _ _ _ _ _ _ _ _ _ _ _ _ _ _ _ _ _ _ _ _ _ _ _ _ _ _ _ _ _ _ _ _ _ _ _ _ _ _ _ _ _ _ _ _ _ _ _ _ _ _ _ _⟩
  intro ee f_ x28 hq_
  obtain ⟨u, uv, rfl, rfl, hT_, ho_, gZ_, gb_, hzB, gU_, gB⟩ := hq_
  unfold F138
  dsimp only at gb_
  replace T1 := T1.upd gB (fun k hk h => by have := hT1_ k hk; omega)
  replace uT1 := fun k (hk : At nv k) => Nat.lt_of_lt_of_le (uT1 k hk) gB.size
  replace T2 := T2.upd gB (fun k hk h => by have := hT2_ k hk; omega)
  replace uT2 := fun k (hk : At lnv k) => Nat.lt_of_lt_of_le (uT2 k hk) gB.size
  replace T3 := T3.upd gB (fun k hk h => by have := hT3_ k hk; omega)
  replace uT3 := fun k (hk : At lpv k) => Nat.lt_of_lt_of_le (uT3 k hk) gB.size
  replace T4 := T4.upd gB (fun k hk h => by have := hT4_ k hk; omega)
  replace uT4 := fun k (hk : At lv k) => Nat.lt_of_lt_of_le (uT4 k hk) gB.size
  clear hT gZ gb gU
  have hT := hT_
  have gZ := Lib.hid gZ_
  have gb := Lib.hid gb_
  have gU := gU_
  have T5 := has_of_owns ho_
  have hT5_ : ∀ k, At uv k → N < k := fun k hk => by have := own_ge ho_ hk; omega
  have uT5 : ∀ k, At uv k → k < x28.heap.size := fun k hk => own_lt ho_ hk
  clear hT_ gZ_ gb_ gU_ gB ho_ hzB hB hlN B hY
  simp only [Exit.inBlock, Exit.then, ↓reduceIte]
  go_wp2_with fail
  refine (c17.out _ hT).mono ?_
  rintro en x29 ⟨rfl, hT_, hu_⟩
  clear hT
  have hT := hT_
  replace gZ := Lib.hid (hu_.heap gZ.out (by omega))
  replace gb := Lib.hid (hu_.heap gb.out (by omega))
  replace T1 := T1.upd hu_ (fun k hk h => by have := hT1_ k hk; omega)
  replace uT1 := fun k (hk : At nv k) => Nat.lt_of_lt_of_le (uT1 k hk) hu_.size
  replace T2 := T2.upd hu_ (fun k hk h => by have := hT2_ k hk; omega)
  replace uT2 := fun k (hk : At lnv k) => Nat.lt_of_lt_of_le (uT2 k hk) hu_.size
  replace T3 := T3.upd hu_ (fun k hk h => by have := hT3_ k hk; omega)
  replace uT3 := fun k (hk : At lpv k) => Nat.lt_of_lt_of_le (uT3 k hk) hu_.size
  replace T4 := T4.upd hu_ (fun k hk h => by have := hT4_ k hk; omega)
  replace uT4 := fun k (hk : At lv k) => Nat.lt_of_lt_of_le (uT4 k hk) hu_.size
  replace T5 := T5.upd hu_ (fun k hk h => by have := hT5_ k hk; omega)
  replace uT5 := fun k (hk : At uv k) => Nat.lt_of_lt_of_le (uT5 k hk) hu_.size
  replace gU := gU.trans hu_ (fun j hj h => by omega)
  clear hT_ hu_ c17
  go_wp2_with fail
  have hlN := heap_lt gb.out
  obtain ⟨B, hB⟩ : ∃ B, x29.heap.size = B := ⟨_, rfl⟩
  rw [hB] at hlN
  refine Code.wp_mono (Q := MidU w x29 s N B a18 e18 (fun v => #[.int .i64 err, .int .i64 id, .int .i64 time, .string ⟨text.toArray⟩, .int .i64 re, .int .i64 im, .string ⟨version.toArray⟩, .int .i64 hs_, .int .i64 hr, .int .i64 hi, .bool hg, .bool hn_, .string ⟨body.toArray⟩, nv, lnv, lpv, .string ⟨next.toArray⟩, .bool more, lv, .string ⟨lobject.toArray⟩, .int .i64 lid, .bool lmore, uv, v]) 61 6 ptC parts 2) ?_ ?_
  case refine_2 =>
    clear htell hsml hids hPR T1 uT1 hT1_ T2 uT2 hT2_ T3 uT3 hT3_ T4 uT4 hT4_ T5 uT5 hT5_
    have gB : Upd (fun k => k = w.heap.size + 1 ∨ k = N) x29 x29 := Upd.refl _ _
    have hrel0 : Hid (rdMany (rdPt s) (z2 - 0) a17 e17 [] = (a18, e18, parts)) := Lib.hid (by rw [Nat.sub_zero]; exact hP.out)
    have hii : Hid ((Tryz.prog.info? 61).map (fun i => (i.zero, i.size, i.bytes)) = some (some (.agg #[.int .i64 0, .int .i64 0, .int .i64 0, .int .i64 0, .bool false, .bool false]), 6, 40)) := Lib.hid (by kernel_rfl)
    obtain ⟨PM, hPM⟩ : ∃ PM, MidU w x29 s N B a18 e18 (fun v => #[.int .i64 err, .int .i64 id, .int .i64 time, .string ⟨text.toArray⟩, .int .i64 re, .int .i64 im, .string ⟨version.toArray⟩, .int .i64 hs_, .int .i64 hr, .int .i64 hi, .bool hg, .bool hn_, .string ⟨body.toArray⟩, nv, lnv, lpv, .string ⟨next.toArray⟩, .bool more, lv, .string ⟨lobject.toArray⟩, .int .i64 lid, .bool lmore, uv, v]) 61 6 ptC parts 2 = PM := ⟨_, rfl⟩
    rw [hPM]
    replace hPM := Lib.hid hPM
    go_loopw [9] (fun iv wr => ∃ (k : Nat) (l : List Pt) (a : Nat) (e : Int) (v : Value), iv = .int .i64 (k : Int) ∧ k ≤ z2 ∧ l.length = k ∧ Hid (rdMany (rdPt s) (z2 - k) a e l = (a18, e18, parts)) ∧ TkAt wr (w.heap.size + 1) s a e ∧ wr.ownsRow B 61 6 v l.length (l.flatMap ptC) ∧ Hid (wr.heap[w.heap.size]? = some (.cells #[.int .i64 0, .int .i64 0, .int .i64 0, .string ⟨#[]⟩, .int .i64 0, .int .i64 0, .string ⟨#[]⟩, .int .i64 0, .int .i64 0, .int .i64 0, .bool false, .bool false, .string ⟨#[]⟩, .slice none 0 0, .slice none 0 0, .slice none 0 0, .string ⟨#[]⟩, .bool false, .slice none 0 0, .string ⟨#[]⟩, .int .i64 0, .bool false, .slice none 0 0, .slice none 0 0] 39 (0, 0))) ∧ Hid (wr.heap[N]? = some (.cells #[.int .i64 err, .int .i64 id, .int .i64 time, .string ⟨text.toArray⟩, .int .i64 re, .int .i64 im, .string ⟨version.toArray⟩, .int .i64 hs_, .int .i64 hr, .int .i64 hi, .bool hg, .bool hn_, .string ⟨body.toArray⟩, nv, lnv, lpv, .string ⟨next.toArray⟩, .bool more, lv, .string ⟨lobject.toArray⟩, .int .i64 lid, .bool lmore, uv, v] 39 (0, 0))) ∧ B ≤ wr.heap.size ∧ Upd Non w wr ∧ Upd (fun k => k = w.heap.size + 1 ∨ k = N) x29 wr) (fun iv _ => z2 - (intOf iv).toNat)
    case atStart => exact ⟨0, [], a17, e17, .slice none 0 0, rfl, Nat.zero_le _, rfl, hrel0, hT, World.ownsRow_nil _ _ _ _, gZ, gb, by omega, gU, gB⟩
    case round =>
      clear gZ gb gU gB hT hrel0
      obtain ⟨k, l, ar, er, v, rfl, hk, hlk, hq, hT, ho, gZ, gb, hzB, gU, gB⟩ := hrel
      have y2 : wr.cell? ⟨w.heap.size + 1, 2, none⟩ = some (.int .i64 er) := (cells_of hT.2).1 2
      have hk0 : (0 : Int) ≤ (k : Int) := by omega
      replace hlk := Lib.hid hlk
      obtain ⟨-, va, vc, rfl, -⟩ := has_of_owns ho
      by_cases hc : k < z2 ∧ er = 0
      case pos =>
        obtain ⟨hlt2, rfl⟩ := hc
        have hltI : (k : Int) < (z2 : Int) := by omega
        have hq2 := Lib.hid ((many_step (rdPt s) ar l hlt2).symm.trans hq.out)
        obtain ⟨X, hX⟩ : ∃ X, rdPt s ar 0 = X := ⟨_, rfl⟩
        rw [hX] at hq2
        clear hq hPM
        unfold rdPt at hX
        have g1 := Lib.hid (cN2.out ar 0)
        generalize rdNum s ar 0 2 = x at g1 hX
        obtain ⟨a2, e2, n2⟩ := x
        dsimp only at g1 hX
        have g2 := Lib.hid (cH.out a2 e2)
        generalize rdHd s a2 e2 = x at g2 hX
        obtain ⟨a3, e3, ⟨j1, j2, j3, j4, j5⟩⟩ := x
        dsimp only at g2 hX
        subst hX
        dsimp only at hq2
        unfold hdV at g2
        dsimp only at g2
        clear cT cN2 cN8 cH
        have hszE : ∀ (i0 i1 i2 i3 : Int) (b1 b2 : Bool), (Tryz.prog.info? 61).map (·.size) = some (#[.int .i64 i0, .int .i64 i1, .int .i64 i2, .int .i64 i3, .bool b1, .bool b2] : Array Value).size := by
          have h : (Tryz.prog.info? 61).map (·.size) = some 6 := by kernel_rfl
          intro _ _ _ _ _ _; exact h
        replace hszE := Lib.hid hszE
        have hszH : Hid ((Tryz.prog.info? 27).map (·.size) = some (#[Value.int .i64 j1, .int .i64 j2, .int .i64 j3, .bool j4, .bool j5] : Array Value).size) := Lib.hid (by kernel_rfl)
        go_wp2_with fail
        refine (g1.out _ hT).mono ?_
        rintro en x30 ⟨rfl, hT_, hu_⟩
        clear hT
        have hT := hT_
        replace gZ := Lib.hid (hu_.heap gZ.out (by omega))
        replace gb := Lib.hid (hu_.heap gb.out (by omega))
        replace ho := hu_.owns ho (fun j hj h => by have := own_ge ho hj; omega)
        replace gU := gU.trans hu_ (fun j hj h => by omega)
        replace gB := gB.trans hu_ (fun j hj h => .inl h)
        replace hzB := Nat.le_trans hzB hu_.size
        clear hT_ hu_ g1 y2
        have hNx := hzB
        have hvx := Lib.hid (fun k (hk : At (.slice va l.length vc) k) => own_lt ho hk)
        have huA := Upd.alloc Non x30 (.cells #[.int .i64 0, .int .i64 0, .int .i64 0, .int .i64 0, .bool false, .bool false] 61)
        have hb_x := heap_alloc_new x30 (.cells #[.int .i64 0, .int .i64 0, .int .i64 0, .int .i64 0, .bool false, .bool false] 61)
        have hzx : x30.heap.size + 1 ≤ (x30.alloc (.cells #[.int .i64 0, .int .i64 0, .int .i64 0, .int .i64 0, .bool false, .bool false] 61)).heap.size := by rw [World.size_alloc]; exact Nat.le_refl _
        replace gZ := Lib.hid (huA.heap gZ.out (fun h => h))
        replace gb := Lib.hid (huA.heap gb.out (fun h => h))
        replace hT := hT.upd huA (fun h => h)
        replace ho := huA.owns ho (fun _ _ h => h)
        replace gU := gU.trans huA (fun _ _ h => h)
        replace gB := gB.trans huA (fun _ _ h => h.elim)
        replace hzB := Nat.le_trans hzB huA.size
        clear huA
        go_wp2_with ((with_reducible (show wpList _ _ _ (⟨_, Op.store _ _ _, _, _, _, _⟩ :: _) _ _)); refine storeB_list rfl 61 _ _ rfl x30.heap.size #[.int .i64 n2, .int .i64 0, .int .i64 0, .int .i64 0, .bool false, .bool false] _ _ rfl rfl hb_x rfl (hszE.out _ _ _ _ _ _) (by simp [Value.oneCell']) ?_)
        intro x31 hb_ hu_
        replace gZ := Lib.hid (hu_.heap gZ.out (by omega))
        replace gb := Lib.hid (hu_.heap gb.out (by omega))
        replace hT := hT.upd hu_ (by omega)
        replace ho := hu_.owns ho (fun j hj h => by have := hvx.out j hj; omega)
        replace gU := gU.trans hu_ (fun j hj h => by omega)
        replace gB := gB.trans hu_ (fun j hj h => by omega)
        replace hzB := Nat.le_trans hzB hu_.size
        replace hzx := Nat.le_trans hzx hu_.size
        replace hb_x := hb_
        clear hb_ hu_
        go_wp2_with fail
        refine (g2.out _ hT).mono ?_
        rintro en x32 ⟨rfl, hT_, hu_⟩
        clear hT
        have hT := hT_
        replace gZ := Lib.hid (hu_.heap gZ.out (by omega))
        replace gb := Lib.hid (hu_.heap gb.out (by omega))
        replace hb_x := hu_.heap hb_x (by omega)
        replace ho := hu_.owns ho (fun j hj h => by have := own_ge ho hj; omega)
        replace gU := gU.trans hu_ (fun j hj h => by omega)
        replace gB := gB.trans hu_ (fun j hj h => .inl h)
        replace hzB := Nat.le_trans hzB hu_.size
        replace hzx := Nat.le_trans hzx hu_.size
        clear hT_ hu_ g2
        go_wp2_with ((with_reducible (show wpList _ _ _ (⟨_, Op.store _ _ _, _, _, _, _⟩ :: _) _ _)); refine storeM_list rfl 27 _ _ rfl x30.heap.size 1 #[.int .i64 j1, .int .i64 j2, .int .i64 j3, .bool j4, .bool j5] _ _ rfl rfl hb_x (show 1 + 5 ≤ 6 by omega) hszH.out (by simp [Value.oneCell']) ?_)
        intro x33 hb_ hu_
        replace gZ := Lib.hid (hu_.heap gZ.out (by omega))
        replace gb := Lib.hid (hu_.heap gb.out (by omega))
        replace hT := hT.upd hu_ (by omega)
        replace ho := hu_.owns ho (fun j hj h => by have := hvx.out j hj; omega)
        replace gU := gU.trans hu_ (fun j hj h => by omega)
        replace gB := gB.trans hu_ (fun j hj h => by omega)
        replace hzB := Nat.le_trans hzB hu_.size
        replace hzx := Nat.le_trans hzx hu_.size
        replace hb_x : x33.heap[x30.heap.size]? = some (.cells #[.int .i64 n2, .int .i64 j1, .int .i64 j2, .int .i64 j3, .bool j4, .bool j5] 61 (0, 0)) := hb_
        clear hb_ hu_
        have hzw := hzB
        go_wp2_with (first | ((with_reducible (show wpList _ _ _ (⟨_, Op.load _ _, _, _, _, _⟩ :: _) _ _)); refine loadC_list rfl 37 _ rfl N 23 (.slice va l.length vc) _ rfl ((cells_of gb.out).1 23) Tryz.underlying37 rfl ?_) | ((with_reducible (show wpList _ _ _ (⟨_, Op.load _ _, _, _, _, _⟩ :: _) _ _)); refine loadB_list rfl 61 _ rfl x30.heap.size #[.int .i64 n2, .int .i64 j1, .int .i64 j2, .int .i64 j3, .bool j4, .bool j5] _ _ rfl hb_x Tryz.underlying61 rfl (hszE.out _ _ _ _ _ _) ?_) | (at_builtin; go_must (refine wpList_app1 rfl _ _ 37 rfl B 61 (.agg #[.int .i64 0, .int .i64 0, .int .i64 0, .int .i64 0, .bool false, .bool false]) 6 40 Tryz.underlying37 hii.out rfl _ _ _ rfl ho [.int .i64 n2, .int .i64 j1, .int .i64 j2, .int .i64 j3, .bool j4, .bool j5] rfl rfl (by intro u hu; simp at hu; rcases hu with rfl | rfl | rfl | rfl | rfl | rfl <;> rfl) ?h63 ?hby hzw ?_)))
        case h63 => have := hlk.out; unfold maxLen; omega
        case hby => have := hlk.out; omega
        intro v9 x34 ho9 hu_ hf9
        clear hb_x
        replace gZ := Lib.hid (hu_.heap gZ.out (fun hj => by have := own_ge ho hj; omega))
        replace gb := Lib.hid (hu_.heap gb.out (fun hj => by have := own_ge ho hj; omega))
        replace hT := hT.upd hu_ (fun hj => by have := own_ge ho hj; omega)
        replace gU := gU.trans hu_ (fun j hj h => by have := own_ge ho h; omega)
        replace gB := gB.trans hu_ (fun j hj h => by have := own_ge ho h; omega)
        replace hzB := Nat.le_trans hzB hu_.size
        replace hzx := Nat.le_trans hzx hu_.size
        clear ho hu_ hf9 hzx hNx hvx hzw
        have ho := ho9
        clear ho9
        obtain ⟨-, va2, vc2, rfl, -⟩ := has_of_owns ho
        go_wp2_with ((with_reducible (show wpList _ _ _ (⟨_, Op.store _ _ _, _, _, _, _⟩ :: _) _ _)); refine storeC_list rfl 37 _ _ rfl N 23 (.slice va2 (l.length + 1) vc2) _ _ rfl rfl gb.out (show 23 < 24 by omega) rfl rfl rfl ?_)
        intro x35 hb_ hu_
        replace gZ := Lib.hid (hu_.heap gZ.out (by omega))
        replace hT := hT.upd hu_ (by omega)
        replace ho := hu_.owns ho (fun j hj h => by have := own_ge ho hj; omega)
        replace gU := gU.trans hu_ (fun j hj h => by omega)
        replace gB := gB.trans hu_ (fun j hj h => .inr h)
        replace hzB := Nat.le_trans hzB hu_.size
        replace gb : Hid (x35.heap[N]? = some (.cells #[.int .i64 err, .int .i64 id, .int .i64 time, .string ⟨text.toArray⟩, .int .i64 re, .int .i64 im, .string ⟨version.toArray⟩, .int .i64 hs_, .int .i64 hr, .int .i64 hi, .bool hg, .bool hn_, .string ⟨body.toArray⟩, nv, lnv, lpv, .string ⟨next.toArray⟩, .bool more, lv, .string ⟨lobject.toArray⟩, .int .i64 lid, .bool lmore, uv, .slice va2 (l.length + 1) vc2] 39 (0, 0))) := Lib.hid hb_
        clear hb_ hu_
        have ho5 : x35.ownsRow B 61 6 (.slice va2 (l.length + 1) vc2) (l ++ [(⟨n2, ⟨j1, j2, j3, j4, j5⟩⟩ : Pt)]).length ((l ++ [(⟨n2, ⟨j1, j2, j3, j4, j5⟩⟩ : Pt)]).flatMap ptC) := by rw [List.length_append, List.flatMap_append]; exact ho
        clear ho
        go_wp2_with fail
        go_roundw
        case rel => exact ⟨k + 1, l ++ [⟨n2, ⟨j1, j2, j3, j4, j5⟩⟩], a3, e3, _, by go_num, by omega, by simp [hlk.out], hq2, hT, ho5, gZ, gb, by omega, gU, gB⟩
        case measure => simp [intOf]; omega
      case neg =>
        have hq2 := (many_end (rdPt s) ar l hc).symm.trans hq.out
        injection hq2 with h1 h2
        injection h2 with h2 h3
        subst h1
        subst h2
        subst h3
        clear hq cT cN2 cN8 cH hii
        have hfin : Hid (∀ a, (∃ u, a = F138 u (.string ⟨s.toArray⟩) (.pointer (some ⟨w.heap.size, 0, none⟩)) (.int .i64 0) (.pointer (some ⟨w.heap.size + 1, 0, none⟩)) (.pointer (some ⟨N, 0, none⟩))) → PM (.exit 2) a wr) := Lib.hid (fun a ⟨u, h⟩ => by rw [← hPM.out]; exact ⟨u, _, rfl, h, hT, ho, gZ.out, gb.out, hzB, gU, gB⟩)
        clear hT ho gZ gb gU gB
        by_cases hlt2 : k < z2
        case pos =>
          have hltI : (k : Int) < (z2 : Int) := by omega
          have her : ¬ er = 0 := fun h => hc ⟨hlt2, h⟩
          go_wp2_with fail
          exact hfin.out _ ⟨_, F138_of _ _ _ _ _ _ _ _ _ _ _ _ _ _ _ _ _ _ _ _ _ _ _ _ _ _ _ _ _ _ _ _ _ _ _ _ _ _ _ _ _ _ _ _ _ _ _ _ _ _ _ _ _ _ _ _ _ _ _ _ _ _ _ _ _ _ _ _ _ _ _ _ _ _ _ _ _ _ _ _ _ _ _ _ _ _ _ _ _ _ _ _ _ _ _ _ _ _ _ _ _ _ _ _ _ _ _ _ _ _ _ _ _ _ _ _ _ _ _ _ _ _ _ _ _ _ _ _ _ _ _ _ _ _ _ _ _ _⟩
        case neg =>
          have hltI : ¬ (k : Int) < (z2 : Int) := by omega
          clear y2
          go_wp2_with fail
          exact hfin.out _ ⟨_, F138_of _ _ _ _ _ _ _ _ _ _ _ _ _ _ _ _ _ _ _ _ _ _ _ _ _ _ _ _ _ _ _ _ _ _ _ _ _ _ _ _ _ _ _ _ _ _ _ _ _ _ _ _ _ _ _ _ _ _ _ _ _ _ _ _ _ _ _ _ _ _ _ _ _ _ _ _ _ _ _ _ _ _ _ _ _ _ _ _ _ _ _ _ _ _ _ _ _ _ _ _ _ _ _ _ _ _ _ _ _ _ _ _ _ _ _ _ _ _ _ _ _ _ _ _ _ _ _ _ _ _ _ _ _ _ _ _ _ _⟩
  intro ee f_ x30 hq_
  obtain ⟨u, pv, rfl, rfl, hT_, ho_, gZ_, gb_, hzB, gU_, gB⟩ := hq_
  unfold F138
  dsimp only at gb_
  replace T1 := T1.upd gB (fun k hk h => by have := hT1_ k hk; omega)
  replace uT1 := fun k (hk : At nv k) => Nat.lt_of_lt_of_le (uT1 k hk) gB.size
  replace T2 := T2.upd gB (fun k hk h => by have := hT2_ k hk; omega)
  replace uT2 := fun k (hk : At lnv k) => Nat.lt_of_lt_of_le (uT2 k hk) gB.size
  replace T3 := T3.upd gB (fun k hk h => by have := hT3_ k hk; omega)
  replace uT3 := fun k (hk : At lpv k) => Nat.lt_of_lt_of_le (uT3 k hk) gB.size
  replace T4 := T4.upd gB (fun k hk h => by have := hT4_ k hk; omega)
  replace uT4 := fun k (hk : At lv k) => Nat.lt_of_lt_of_le (uT4 k hk) gB.size
  replace T5 := T5.upd gB (fun k hk h => by have := hT5_ k hk; omega)
  replace uT5 := fun k (hk : At uv k) => Nat.lt_of_lt_of_le (uT5 k hk) gB.size
  clear hT gZ gb gU
  have hT := hT_
  have gZ := Lib.hid gZ_
  have gb := Lib.hid gb_
  have gU := gU_
  have T6 := has_of_owns ho_
  have hT6_ : ∀ k, At pv k → N < k := fun k hk => by have := own_ge ho_ hk; omega
  have uT6 : ∀ k, At pv k → k < x30.heap.size := fun k hk => own_lt ho_ hk
  clear hT_ gZ_ gb_ gU_ gB ho_ hzB hB hlN B hP
  simp only [Exit.inBlock, Exit.then, ↓reduceIte]
  clear cT cN2 cN8 cH hzb1 hzb2
  have hRs : RsAt x30 ⟨err, id, time, text, re, im, version, ⟨hs_, hr, hi, hg, hn_⟩, body, names, lnames, lpre, next, more, lines, lobject, lid, lmore, ups, parts⟩ ⟨nv, lnv, lpv, lv, uv, pv⟩ := ⟨T1, T2, T3, T4, T5, T6⟩
  have hup : SlLt ⟨nv, lnv, lpv, lv, uv, pv⟩ x30.heap.size := fun k h => by
    rcases h with h | h | h | h | h | h
    · exact uT1 k h
    · exact uT2 k h
    · exact uT3 k h
    · exact uT4 k h
    · exact uT5 k h
    · exact uT6 k h
  have hlo : ∀ k, At nv k ∨ At lnv k ∨ At lpv k ∨ At lv k ∨ At uv k ∨ At pv k → N < k := fun k h => by
    rcases h with h | h | h | h | h | h
    · exact hT1_ k h
    · exact hT2_ k h
    · exact hT3_ k h
    · exact hT4_ k h
    · exact hT5_ k h
    · exact hT6_ k h
  clear T1 T2 T3 T4 T5 T6 uT1 uT2 uT3 uT4 uT5 uT6 hT1_ hT2_ hT3_ hT4_ hT5_ hT6_
  have hsz24 : Hid ((Tryz.prog.info? 39).map (·.size) = some (#[.int .i64 err, .int .i64 id, .int .i64 time, .string ⟨text.toArray⟩, .int .i64 re, .int .i64 im, .string ⟨version.toArray⟩, .int .i64 hs_, .int .i64 hr, .int .i64 hi, .bool hg, .bool hn_, .string ⟨body.toArray⟩, nv, lnv, lpv, .string ⟨next.toArray⟩, .bool more, lv, .string ⟨lobject.toArray⟩, .int .i64 lid, .bool lmore, uv, pv] : Array Value).size) := Lib.hid (by kernel_rfl)
  have h24 : Hid ((#[.int .i64 err, .int .i64 id, .int .i64 time, .string ⟨text.toArray⟩, .int .i64 re, .int .i64 im, .string ⟨version.toArray⟩, .int .i64 hs_, .int .i64 hr, .int .i64 hi, .bool hg, .bool hn_, .string ⟨body.toArray⟩, nv, lnv, lpv, .string ⟨next.toArray⟩, .bool more, lv, .string ⟨lobject.toArray⟩, .int .i64 lid, .bool lmore, uv, pv] : Array Value).all (·.oneCell') = true) := Lib.hid (by
    obtain ⟨_, b1, b2, e1, -⟩ := hRs.n
    obtain ⟨_, b3, b4, e2, -⟩ := hRs.ln
    obtain ⟨_, b5, b6, e3, -⟩ := hRs.lp
    obtain ⟨_, b7, b8, e4, -⟩ := hRs.l
    obtain ⟨_, b9, b10, e5, -⟩ := hRs.u
    obtain ⟨_, b11, b12, e6, -⟩ := hRs.p
    dsimp only at e1 e2 e3 e4 e5 e6
    subst e1 e2 e3 e4 e5 e6
    simp [Value.oneCell'])
  have hno : tellA rTx s = none → ∀ w', Upd Non w w' → PR (.returned (.tuple #[.agg #[.int .i64 0, .int .i64 0, .int .i64 0, .string ⟨#[]⟩, .int .i64 0, .int .i64 0, .string ⟨#[]⟩, .int .i64 0, .int .i64 0, .int .i64 0, .bool false, .bool false, .string ⟨#[]⟩, .slice none 0 0, .slice none 0 0, .slice none 0 0, .string ⟨#[]⟩, .bool false, .slice none 0 0, .string ⟨#[]⟩, .int .i64 0, .bool false, .slice none 0 0, .slice none 0 0], .int .i64 4])) w' := fun h w' hu => by
    rw [← hPR.out]
    refine ⟨⟨.slice none 0 0, .slice none 0 0, .slice none 0 0, .slice none 0 0, .slice none 0 0, .slice none 0 0⟩, ?_, ?_, ?_, hu⟩
    · rw [h]; rfl
    · rw [h]; exact ⟨Has.nil _ _, Has.nil _ _, Has.nil _ _, Has.nil _ _, Has.nil _ _, Has.nil _ _⟩
    · intro k hk
      simp [At, Value.ownBlock] at hk
  have hyes : tellA rTx s = some ⟨err, id, time, text, re, im, version, ⟨hs_, hr, hi, hg, hn_⟩, body, names, lnames, lpre, next, more, lines, lobject, lid, lmore, ups, parts⟩ → ∀ w', RsAt w' ⟨err, id, time, text, re, im, version, ⟨hs_, hr, hi, hg, hn_⟩, body, names, lnames, lpre, next, more, lines, lobject, lid, lmore, ups, parts⟩ ⟨nv, lnv, lpv, lv, uv, pv⟩ → x30.heap.size ≤ w'.heap.size → Upd Non w w' → PR (.returned (.tuple #[.agg #[.int .i64 err, .int .i64 id, .int .i64 time, .string ⟨text.toArray⟩, .int .i64 re, .int .i64 im, .string ⟨version.toArray⟩, .int .i64 hs_, .int .i64 hr, .int .i64 hi, .bool hg, .bool hn_, .string ⟨body.toArray⟩, nv, lnv, lpv, .string ⟨next.toArray⟩, .bool more, lv, .string ⟨lobject.toArray⟩, .int .i64 lid, .bool lmore, uv, pv], .int .i64 0])) w' := fun h w' hI hz hu => by
    rw [← hPR.out]
    refine ⟨⟨nv, lnv, lpv, lv, uv, pv⟩, ?_, ?_, fun k hk => ⟨?_, ?_⟩, hu⟩
    · rw [h]; rfl
    · rw [h]; exact hI
    · have := hlo k hk; omega
    · exact Nat.lt_of_lt_of_le (hup k hk) hz
  replace hno := Lib.hid hno
  replace hyes := Lib.hid hyes
  have cE := Lib.hid (fun w' => refEnd s a18 e18 w')
  have cC := Lib.hid (fun w' (hu : Upd Non x30 w') => rRightA ⟨err, id, time, text, re, im, version, ⟨hs_, hr, hi, hg, hn_⟩, body, names, lnames, lpre, next, more, lines, lobject, lid, lmore, ups, parts⟩ ⟨nv, lnv, lpv, lv, uv, pv⟩ w' (hRs.non hu) hsml.out)
  have cP := Lib.hid (fun w' (hu : Upd Non x30 w') (h : rightA ⟨err, id, time, text, re, im, version, ⟨hs_, hr, hi, hg, hn_⟩, body, names, lnames, lpre, next, more, lines, lobject, lid, lmore, ups, parts⟩) => rPutAnswer ⟨err, id, time, text, re, im, version, ⟨hs_, hr, hi, hg, hn_⟩, body, names, lnames, lpre, next, more, lines, lobject, lid, lmore, ups, parts⟩ ⟨nv, lnv, lpv, lv, uv, pv⟩ w' (hRs.non hu) h hids.out)
  have hRs' := Lib.hid (fun w' (hu : Upd (fun k => k = w.heap.size) x30 w') => hRs.upd hu (fun k hk => by have := hlo k hk; omega))
  unfold rsV rsC at cC cP
  dsimp only at cC cP
  have t0 : x30.cell? ⟨w.heap.size + 1, 0, none⟩ = some (.string ⟨s.toArray⟩) := (cells_of hT.2).1 0
  have t1 : x30.cell? ⟨w.heap.size + 1, 1, none⟩ = some (.int .i64 a18) := (cells_of hT.2).1 1
  have t2 : x30.cell? ⟨w.heap.size + 1, 2, none⟩ = some (.int .i64 e18) := (cells_of hT.2).1 2
  clear hT hRs hlo hup hsml hids hPR
  have hrw : w.heap.size < x30.heap.size := heap_lt gZ.out
  unfold rdV at cE
  by_cases h1 : rdEnd s a18 e18 = 0
  case neg =>
    have hr := htell.out.trans (if_neg (fun h => h1 h.1))
    replace hno := Lib.hid (hno.out hr)
    have hne : (rdEnd s a18 e18 != 0) = true := by simp [h1]
    generalize rdEnd s a18 e18 = xe at *
    clear hyes hr cC cP htell hRs'
    go_wp2_with fail
    refine (cE.out _).mono ?_
    rintro en g5 ⟨rfl, hu5⟩
    replace gZ := Lib.hid (hu5.heap gZ.out fun h => h)
    replace gU := gU.trans hu5 fun _ _ h => h
    clear gb cE hu5 t0 t1 t2
    go_wp2_with ((with_reducible (show wpList _ _ _ (⟨_, Op.store _ _ _, _, _, _, _⟩ :: _) _ _)); refine storeB_list rfl 39 _ _ rfl w.heap.size #[.int .i64 0, .int .i64 0, .int .i64 0, .string ⟨#[]⟩, .int .i64 0, .int .i64 0, .string ⟨#[]⟩, .int .i64 0, .int .i64 0, .int .i64 0, .bool false, .bool false, .string ⟨#[]⟩, .slice none 0 0, .slice none 0 0, .slice none 0 0, .string ⟨#[]⟩, .bool false, .slice none 0 0, .string ⟨#[]⟩, .int .i64 0, .bool false, .slice none 0 0, .slice none 0 0] _ _ rfl rfl gZ.out rfl hszz.out (by simp [Value.oneCell']) ?_)
    intro wE hbE huE
    have hg := hno.out wE (gU.trans huE fun j hj h => by omega)
    clear gZ huE gU
    (repeat (first | go_values | go_step))
    (try simp only [Exit.inBlock, Exit.then])
    refine bodyPost_ret (results_row_tmp rfl _ _ w.heap.size _ _ _ _ rfl hbE Tryz.underlying39 rfl hszz.out) rfl ?_
    exact hg
  rw [h1] at cE
  by_cases h2 : rightA ⟨err, id, time, text, re, im, version, ⟨hs_, hr, hi, hg, hn_⟩, body, names, lnames, lpre, next, more, lines, lobject, lid, lmore, ups, parts⟩
  case neg =>
    have hr := htell.out.trans (if_neg (fun h => h2 h.2.1))
    replace hno := Lib.hid (hno.out hr)
    rw [decide_eq_false h2] at cC
    clear hyes hr cP htell hRs'
    go_wp2_with fail
    refine (cE.out _).mono ?_
    rintro en g5 ⟨rfl, hu5⟩
    have gb5 := Lib.hid (hu5.heap gb.out fun h => h)
    clear gb cE t0 t1 t2
    go_wp2_with ((with_reducible (show wpList _ _ _ (⟨_, Op.load _ _, _, _, _, _⟩ :: _) _ _)); refine loadB_on (by first | rfl | kernel_rfl) 39 _ rfl N #[.int .i64 err, .int .i64 id, .int .i64 time, .string ⟨text.toArray⟩, .int .i64 re, .int .i64 im, .string ⟨version.toArray⟩, .int .i64 hs_, .int .i64 hr, .int .i64 hi, .bool hg, .bool hn_, .string ⟨body.toArray⟩, nv, lnv, lpv, .string ⟨next.toArray⟩, .bool more, lv, .string ⟨lobject.toArray⟩, .int .i64 lid, .bool lmore, uv, pv] _ _ rfl gb5.out Tryz.underlying39 rfl hsz24.out ?_)
    refine (cC.out _ hu5).mono ?_
    rintro en g6 ⟨rfl, hu6⟩
    have hu56 := hu5.trans hu6 fun _ _ h => h
    replace gZ := Lib.hid (hu56.heap gZ.out fun h => h)
    replace gU := gU.trans hu56 fun _ _ h => h
    clear gb5 hu5 hu6 hu56 cC
    go_wp2_with ((with_reducible (show wpList _ _ _ (⟨_, Op.store _ _ _, _, _, _, _⟩ :: _) _ _)); refine storeB_list rfl 39 _ _ rfl w.heap.size #[.int .i64 0, .int .i64 0, .int .i64 0, .string ⟨#[]⟩, .int .i64 0, .int .i64 0, .string ⟨#[]⟩, .int .i64 0, .int .i64 0, .int .i64 0, .bool false, .bool false, .string ⟨#[]⟩, .slice none 0 0, .slice none 0 0, .slice none 0 0, .string ⟨#[]⟩, .bool false, .slice none 0 0, .string ⟨#[]⟩, .int .i64 0, .bool false, .slice none 0 0, .slice none 0 0] _ _ rfl rfl gZ.out rfl hszz.out (by simp [Value.oneCell']) ?_)
    intro wE hbE huE
    have hg := hno.out wE (gU.trans huE fun j hj h => by omega)
    clear gZ huE gU
    (repeat (first | go_values | go_step))
    (try simp only [Exit.inBlock, Exit.then])
    refine bodyPost_ret (results_row_tmp rfl _ _ w.heap.size _ _ _ _ rfl hbE Tryz.underlying39 rfl hszz.out) rfl ?_
    exact hg
  rw [decide_eq_true h2] at cC
  replace cP := Lib.hid (fun w' hu => cP.out w' hu h2)
  obtain ⟨pq, hpq⟩ : ∃ pq, putA ⟨err, id, time, text, re, im, version, ⟨hs_, hr, hi, hg, hn_⟩, body, names, lnames, lpre, next, more, lines, lobject, lid, lmore, ups, parts⟩ = pq := ⟨_, rfl⟩
  rw [hpq] at cP htell
  replace hpq := Lib.hid hpq
  go_wp2_with fail
  refine (cE.out _).mono ?_
  rintro en g5 ⟨rfl, hu5⟩
  have gb5 := Lib.hid (hu5.heap gb.out fun h => h)
  clear gb cE t0 t1 t2
  go_wp2_with ((with_reducible (show wpList _ _ _ (⟨_, Op.load _ _, _, _, _, _⟩ :: _) _ _)); refine loadB_on (by first | rfl | kernel_rfl) 39 _ rfl N #[.int .i64 err, .int .i64 id, .int .i64 time, .string ⟨text.toArray⟩, .int .i64 re, .int .i64 im, .string ⟨version.toArray⟩, .int .i64 hs_, .int .i64 hr, .int .i64 hi, .bool hg, .bool hn_, .string ⟨body.toArray⟩, nv, lnv, lpv, .string ⟨next.toArray⟩, .bool more, lv, .string ⟨lobject.toArray⟩, .int .i64 lid, .bool lmore, uv, pv] _ _ rfl gb5.out Tryz.underlying39 rfl hsz24.out ?_)
  refine (cC.out _ hu5).mono ?_
  rintro en g6 ⟨rfl, hu6⟩
  have gb6 := Lib.hid (hu6.heap gb5.out fun h => h)
  have hu56 := hu5.trans hu6 fun _ _ h => h
  clear gb5 hu5 hu6 cC
  go_wp2_with ((with_reducible (show wpList _ _ _ (⟨_, Op.load _ _, _, _, _, _⟩ :: _) _ _)); refine loadB_on (by first | rfl | kernel_rfl) 39 _ rfl N #[.int .i64 err, .int .i64 id, .int .i64 time, .string ⟨text.toArray⟩, .int .i64 re, .int .i64 im, .string ⟨version.toArray⟩, .int .i64 hs_, .int .i64 hr, .int .i64 hi, .bool hg, .bool hn_, .string ⟨body.toArray⟩, nv, lnv, lpv, .string ⟨next.toArray⟩, .bool more, lv, .string ⟨lobject.toArray⟩, .int .i64 lid, .bool lmore, uv, pv] _ _ rfl gb6.out Tryz.underlying39 rfl hsz24.out ?_)
  refine (cP.out _ hu56).mono ?_
  rintro en g7 ⟨rfl, hu7⟩
  have gb7 := Lib.hid (hu7.heap gb6.out fun h => h)
  have hu67 := hu56.trans hu7 fun _ _ h => h
  replace gZ := Lib.hid (hu67.heap gZ.out fun h => h)
  replace gU := gU.trans hu67 fun _ _ h => h
  clear gb6 hu56 hu7 cP
  by_cases h3 : pq = s
  · have hr : tellA rTx s = some ⟨err, id, time, text, re, im, version, ⟨hs_, hr, hi, hg, hn_⟩, body, names, lnames, lpre, next, more, lines, lobject, lid, lmore, ups, parts⟩ := htell.out.trans (if_pos ⟨h1, h2, h3⟩)
    replace hyes := Lib.hid (hyes.out hr)
    clear hno htell hr
    subst h3
    have hu7' : Upd (fun k => k = w.heap.size) x30 g7 := hu67.mono fun _ _ h => h.elim
    have hz7 := hu67.size
    go_wp2_with (first | ((with_reducible (show wpList _ _ _ (⟨_, Op.load _ _, _, _, _, _⟩ :: _) _ _)); refine loadB_list rfl 39 _ rfl N #[.int .i64 err, .int .i64 id, .int .i64 time, .string ⟨text.toArray⟩, .int .i64 re, .int .i64 im, .string ⟨version.toArray⟩, .int .i64 hs_, .int .i64 hr, .int .i64 hi, .bool hg, .bool hn_, .string ⟨body.toArray⟩, nv, lnv, lpv, .string ⟨next.toArray⟩, .bool more, lv, .string ⟨lobject.toArray⟩, .int .i64 lid, .bool lmore, uv, pv] _ _ rfl gb7.out Tryz.underlying39 rfl hsz24.out ?_) | ((with_reducible (show wpList _ _ _ (⟨_, Op.store _ _ _, _, _, _, _⟩ :: _) _ _)); refine storeB_list rfl 39 _ _ rfl w.heap.size #[.int .i64 err, .int .i64 id, .int .i64 time, .string ⟨text.toArray⟩, .int .i64 re, .int .i64 im, .string ⟨version.toArray⟩, .int .i64 hs_, .int .i64 hr, .int .i64 hi, .bool hg, .bool hn_, .string ⟨body.toArray⟩, nv, lnv, lpv, .string ⟨next.toArray⟩, .bool more, lv, .string ⟨lobject.toArray⟩, .int .i64 lid, .bool lmore, uv, pv] _ _ rfl rfl gZ.out rfl hsz24.out h24.out ?_))
    intro wE hbE huE
    have hg := hyes.out wE (hRs'.out wE (hu7'.trans huE fun _ _ h => h)) (by have := huE.size; omega) (gU.trans huE fun j hj h => by omega)
    clear gZ huE gU gb7
    (repeat (first | go_values | go_step))
    (try simp only [Exit.inBlock, Exit.then])
    refine bodyPost_ret (results_row_tmp rfl _ _ w.heap.size _ _ _ _ rfl hbE Tryz.underlying39 rfl hsz24.out) rfl ?_
    exact hg
  · have hr : tellA rTx s = none := htell.out.trans (if_neg (fun h => h3 h.2.2))
    replace hno := Lib.hid (hno.out hr)
    have hne : ((⟨pq.toArray⟩ : ByteArray) != ⟨s.toArray⟩) = true := str_bne h3
    have hneb : ((⟨pq.toArray⟩ : ByteArray) == ⟨s.toArray⟩) = false := by rw [str_beq, decide_eq_false h3]
    have hnl : (pq == s) = false := by simp [h3]
    clear hyes htell hr gb7 hRs'
    go_wp2_with ((with_reducible (show wpList _ _ _ (⟨_, Op.store _ _ _, _, _, _, _⟩ :: _) _ _)); refine storeB_list rfl 39 _ _ rfl w.heap.size #[.int .i64 0, .int .i64 0, .int .i64 0, .string ⟨#[]⟩, .int .i64 0, .int .i64 0, .string ⟨#[]⟩, .int .i64 0, .int .i64 0, .int .i64 0, .bool false, .bool false, .string ⟨#[]⟩, .slice none 0 0, .slice none 0 0, .slice none 0 0, .string ⟨#[]⟩, .bool false, .slice none 0 0, .string ⟨#[]⟩, .int .i64 0, .bool false, .slice none 0 0, .slice none 0 0] _ _ rfl rfl gZ.out rfl hszz.out (by simp [Value.oneCell']) ?_)
    intro wE hbE huE
    have hg := hno.out wE (gU.trans huE fun j hj h => by omega)
    clear gZ huE gU
    (repeat (first | go_values | go_step))
    (try simp only [Exit.inBlock, Exit.then])
    refine bodyPost_ret (results_row_tmp rfl _ _ w.heap.size _ _ _ _ rfl hbE Tryz.underlying39 rfl hszz.out) rfl ?_
    exact hg
end Go.Proofs.YtogekobpjjmnjaaGreat
