/- The reference: taken.lines (printed by gen/mkwhc.py). -/
import Derived.Test.YtogekobpjjmnjaaGreatMWhA
import Derived.Test.YtogekobpjjmnjaaGreatMBlA
namespace Go.Proofs.YtogekobpjjmnjaaGreat
open Go.RowKit Go.Amb
set_option linter.unusedVariables false
set_option linter.unusedSimpArgs false
set_option maxRecDepth 100000
attribute [local go_sem ↓] Go.wp_at_zero Go.wp_at_succ
set_option maxHeartbeats 8000000 in
theorem tLines (t : Nat) (s : List UInt8) (a : Nat) (e : Int) (w : World) (h : TkAt w t s a e) (hs : s.length ≤ 140737488355328) :
    Calls Tryz.prog 28 #[.pointer (some ⟨t, 0, none⟩)] w (TNew t s (rdLns rTx s a e).1 (rdLns rTx s a e).2.1 (NewLns w (rdLns rTx s a e).2.2.1 (rdLns rTx s a e).2.2.2.1 (rdLns rTx s a e).2.2.2.2.1 (rdLns rTx s a e).2.2.2.2.2) w) := by
  have c1 := Lib.hid (fun w h => tNum t s a e 2 w h hs (by omega))
  have cT := Lib.hid (fun a e w h => tText t s a e 4 w h hs (by omega))
  have cN1 := Lib.hid (fun a e w h => tNum t s a e 1 w h hs (by omega))
  have cN8 := Lib.hid (fun a e w h => tNum t s a e 8 w h hs (by omega))
  have cH := Lib.hid (fun a e w h => tHead t s a e w h hs)
  obtain ⟨z, hz, hz2⟩ := rdNum_nat s a e 2 (by omega)
  have hzb : z < 65536 := by simpa using hz2
  unfold rdLns
  generalize rdNum s a e 2 = x at *
  obtain ⟨a1, e1, n1⟩ := x
  dsimp only at *
  subst hz
  rw [Int.toNat_natCast]
  obtain ⟨R, hR⟩ : ∃ R, rdMany (rdLn rTx s) z a1 e1 [] = R := ⟨_, rfl⟩
  rw [hR]
  obtain ⟨aE, eE, lE⟩ := R
  dsimp only
  have hx2 : Hid (rTx s aE eE = rdTxt s aE eE 4) := Lib.hid rfl
  rw [hx2.out]
  have f1 := Lib.hid (cT.out aE eE)
  generalize rdTxt s aE eE 4 = x at f1 ⊢
  obtain ⟨a6, e6, o⟩ := x
  dsimp only at f1 ⊢
  have f2 := Lib.hid (cN8.out a6 e6)
  generalize rdNum s a6 e6 8 = x at f2 ⊢
  obtain ⟨a7, e7, lid⟩ := x
  dsimp only at f2 ⊢
  have f3 := Lib.hid (cN1.out a7 e7)
  generalize rdNum s a7 e7 1 = x at f3 ⊢
  obtain ⟨a8, e8, m⟩ := x
  dsimp only at f3 ⊢
  have hlt := heap_lt h.2
  have hrel0 : Hid (rdMany (rdLn rTx s) (z - 0) a1 e1 [] = (aE, eE, lE)) := Lib.hid (by rw [Nat.sub_zero]; exact hR)
  have hii : Hid ((Tryz.prog.info? 96).map (fun i => (i.zero, i.size, i.bytes)) = some (some (.agg #[.string ⟨#[]⟩, .int .i64 0, .bool false, .int .i64 0, .int .i64 0, .int .i64 0, .bool false, .bool false]), 8, 64)) := Lib.hid (by kernel_rfl)
  have hszN : ∀ (b1 : ByteArray) (i1 : Int) (b2 : Bool) (i2 i3 i4 : Int) (b3 b4 : Bool), (Tryz.prog.info? 96).map (·.size) = some (#[.string b1, .int .i64 i1, .bool b2, .int .i64 i2, .int .i64 i3, .int .i64 i4, .bool b3, .bool b4] : Array Value).size := by
    have h : (Tryz.prog.info? 96).map (·.size) = some 8 := by kernel_rfl
    intro _ _ _ _ _ _ _ _; exact h
  replace hszN := Lib.hid hszN
  have hszH : Hid (∀ (i2 i3 i4 : Int) (b3 b4 : Bool), (Tryz.prog.info? 27).map (·.size) = some (#[.int .i64 i2, .int .i64 i3, .int .i64 i4, .bool b3, .bool b4] : Array Value).size) := Lib.hid (by
    have h : (Tryz.prog.info? 27).map (·.size) = some 5 := by kernel_rfl
    intro _ _ _ _ _; exact h)
  have hszL : Hid (∀ (v : Value) (o : ByteArray) (i : Int) (b : Bool), (Tryz.prog.info? 35).map (·.size) = some (#[v, .string o, .int .i64 i, .bool b] : Array Value).size) := Lib.hid (by
    have h : (Tryz.prog.info? 35).map (·.size) = some 4 := by kernel_rfl
    intro _ _ _ _; exact h)
  obtain ⟨PR, hPR⟩ : ∃ PR, TNew t s a8 e8 (NewLns w lE o lid (decide (m = 1))) w = PR := ⟨_, rfl⟩
  rw [hPR]
  have hfin : Hid (∀ w' lv, TkAt w' t s a8 e8 → w'.ownsRow (w.heap.size + 2) 96 8 lv lE.length (lE.flatMap lnC) → Upd (fun k => k = t) w w' → PR (.returned (.agg #[lv, .string ⟨o.toArray⟩, .int .i64 lid, .bool (decide (m = 1))])) w') := Lib.hid (fun w' lv e1 e2 e3 => by
    rw [← hPR]
    exact ⟨_, rfl, e1, ⟨lv, rfl, has_of_owns e2, fun k hk => ⟨by have := own_ge e2 hk; omega, own_lt e2 hk⟩⟩, e3⟩)
  clear hPR hR hz2 hx2
  have hb_r := heap_alloc2_old w (.cells #[.slice none 0 0, .string ⟨#[]⟩, .int .i64 0, .bool false] 35) (.cells #[.slice none 0 0, .string ⟨#[]⟩, .int .i64 0, .bool false] 35)
  have hb_o := heap_alloc2_new w (.cells #[.slice none 0 0, .string ⟨#[]⟩, .int .i64 0, .bool false] 35) (.cells #[.slice none 0 0, .string ⟨#[]⟩, .int .i64 0, .bool false] 35)
  have hU : Upd (fun k => k = t) w ((w.alloc (.cells #[.slice none 0 0, .string ⟨#[]⟩, .int .i64 0, .bool false] 35)).alloc (.cells #[.slice none 0 0, .string ⟨#[]⟩, .int .i64 0, .bool false] 35)) := (Upd.alloc _ _ _).then_alloc _
  have hT : TkAt ((w.alloc (.cells #[.slice none 0 0, .string ⟨#[]⟩, .int .i64 0, .bool false] 35)).alloc (.cells #[.slice none 0 0, .string ⟨#[]⟩, .int .i64 0, .bool false] 35)) t s a e := (h.upd (Upd.alloc Non _ _) fun h => h).upd (Upd.alloc Non _ _) fun h => h
  have hsz2 : ((w.alloc (.cells #[.slice none 0 0, .string ⟨#[]⟩, .int .i64 0, .bool false] 35)).alloc (.cells #[.slice none 0 0, .string ⟨#[]⟩, .int .i64 0, .bool false] 35)).heap.size = w.heap.size + 2 := by simp
  clear h
  go_enter Tryz.func28, Tryz.ntmps28
  go_wp2_with fail
  refine (c1.out _ hT).mono ?_
  rintro en w1 ⟨rfl, hT', hu⟩
  clear hT
  have hT := hT'
  clear hT'
  replace hb_r := hu.heap hb_r (by omega)
  replace hb_o := hu.heap hb_o (by omega)
  replace hU := hU.trans hu fun _ _ h => h
  have hz1 := hu.size
  rw [hsz2] at hz1
  clear hu hsz2 c1
  go_wp2_with fail
  go_loopw [5] (fun iv wr => ∃ (k : Nat) (l : List Ln) (a : Nat) (e : Int) (v : Value), iv = .int .i64 (k : Int) ∧ k ≤ z ∧ l.length = k ∧ Hid (rdMany (rdLn rTx s) (z - k) a e l = (aE, eE, lE)) ∧ TkAt wr t s a e ∧ wr.ownsRow (w.heap.size + 2) 96 8 v l.length (l.flatMap lnC) ∧ wr.heap[w.heap.size]? = some (.cells #[.slice none 0 0, .string ⟨#[]⟩, .int .i64 0, .bool false] 35 (0, 0)) ∧ wr.heap[w.heap.size + 1]? = some (.cells #[v, .string ⟨#[]⟩, .int .i64 0, .bool false] 35 (0, 0)) ∧ w.heap.size + 2 ≤ wr.heap.size ∧ Upd (fun k => k = t) w wr) (fun iv _ => z - (intOf iv).toNat)
  case atStart => exact ⟨0, [], a1, e1, .slice none 0 0, rfl, Nat.zero_le _, rfl, hrel0, hT, World.ownsRow_nil _ _ _ _, hb_r, hb_o, hz1, hU⟩
  case round =>
    clear hb_r hb_o hT hU hrel0 hz1
    obtain ⟨k, l, ar, er, v, rfl, hk, hlk, hq, hT, ho_v, hb_r, hb_o, hz1, hU⟩ := hrel
    have y2 : wr.cell? ⟨t, 2, none⟩ = some (.int .i64 er) := (cells_of hT.2).1 2
    have hk0 : (0 : Int) ≤ (k : Int) := by omega
    replace hlk := Lib.hid hlk
    have hz := hU.size
    obtain ⟨-, va, vc, rfl, -⟩ := has_of_owns ho_v
    by_cases hc : k < z ∧ er = 0
    case pos =>
      obtain ⟨hlt2, rfl⟩ := hc
      have hltI : (k : Int) < (z : Int) := by omega
      have hq2 := Lib.hid ((many_step (rdLn rTx s) ar l hlt2).symm.trans hq.out)
      obtain ⟨X, hX⟩ : ∃ X, rdLn rTx s ar 0 = X := ⟨_, rfl⟩
      rw [hX] at hq2
      unfold rdLn at hX
      have hrx : Hid (rTx s ar 0 = rdTxt s ar 0 4) := Lib.hid rfl
      rw [hrx.out] at hX
      clear hq hrx
      have g1 := Lib.hid (cT.out ar 0)
      generalize rdTxt s ar 0 4 = x at g1 hX
      obtain ⟨a2, e2, t2⟩ := x
      dsimp only at g1 hX
      have g2 := Lib.hid (cN8.out a2 e2)
      generalize rdNum s a2 e2 8 = x at g2 hX
      obtain ⟨a3, e3, i3⟩ := x
      dsimp only at g2 hX
      have g3 := Lib.hid (cN1.out a3 e3)
      generalize rdNum s a3 e3 1 = x at g3 hX
      obtain ⟨a4, e4, i4⟩ := x
      dsimp only at g3 hX
      have g4 := Lib.hid (cH.out a4 e4)
      generalize rdHd s a4 e4 = x at g4 hX
      obtain ⟨a5, e5, ⟨hs1, hs2, hs3, hs4, hs5⟩⟩ := x
      dsimp only at g4 hX
      subst hX
      dsimp only at hq2
      obtain ⟨lb, hlb⟩ : ∃ lb, decide (i4 = 1) = lb := ⟨_, rfl⟩
      rw [hlb] at hq2
      replace hlb : (i4 == 1) = lb := hlb
      unfold hdV at g4
      clear cT cN1 cN8 cH f1 f2 f3 hfin
      go_wp2_with fail
      refine (g1.out _ hT).mono ?_
      rintro en w1 ⟨rfl, hT', hu⟩
      clear hT
      have hT := hT'
      clear hT'
      replace hb_r := hu.heap hb_r (by omega)
      replace hb_o := hu.heap hb_o (by omega)
      replace ho_v := hu.owns ho_v (fun j hj h => by have := own_ge ho_v hj; omega)
      replace hU := hU.trans hu fun _ _ h => h
      replace hz1 := Nat.le_trans hz1 hu.size
      clear hu
      have hz := hU.size
      clear y2 g1
      have hNx := hz1
      have hvx := Lib.hid (fun k (hk : At (.slice va l.length vc) k) => own_lt ho_v hk)
      have huA := Upd.alloc Non w1 (.cells #[.string ⟨#[]⟩, .int .i64 0, .bool false, .int .i64 0, .int .i64 0, .int .i64 0, .bool false, .bool false] 96)
      have hb_x := heap_alloc_new w1 (.cells #[.string ⟨#[]⟩, .int .i64 0, .bool false, .int .i64 0, .int .i64 0, .int .i64 0, .bool false, .bool false] 96)
      have hzx : w1.heap.size + 1 ≤ (w1.alloc (.cells #[.string ⟨#[]⟩, .int .i64 0, .bool false, .int .i64 0, .int .i64 0, .int .i64 0, .bool false, .bool false] 96)).heap.size := by rw [World.size_alloc]; exact Nat.le_refl _
      replace hb_r := huA.heap hb_r (fun h => h)
      replace hb_o := huA.heap hb_o (fun h => h)
      replace hT := hT.upd huA (fun h => h)
      replace ho_v := huA.owns ho_v (fun _ _ h => h)
      replace hU := hU.trans huA fun _ _ h => h.elim
      replace hz1 := Nat.le_trans hz1 huA.size
      clear huA
      go_wp2_with ((with_reducible (show wpList _ _ _ (⟨_, Op.store _ _ _, _, _, _, _⟩ :: _) _ _)); refine storeB_list rfl 96 _ _ rfl w1.heap.size #[.string ⟨t2.toArray⟩, .int .i64 0, .bool false, .int .i64 0, .int .i64 0, .int .i64 0, .bool false, .bool false] _ _ rfl rfl hb_x rfl (hszN.out _ _ _ _ _ _ _ _) (by simp [Value.oneCell']) ?_)
      intro w2 hb' hu
      replace hb_r := hu.heap hb_r (by omega)
      replace hb_o := hu.heap hb_o (by omega)
      replace hT := hT.upd hu (by omega)
      replace ho_v := hu.owns ho_v (fun j hj h => by have := own_ge ho_v hj; have := hvx.out _ hj; omega)
      replace hU := hU.trans hu fun j hj h => by omega
      replace hz1 := Nat.le_trans hz1 hu.size
      replace hzx := Nat.le_trans hzx hu.size
      clear hb_x hu
      have hb_x := hb'
      clear hb'
      have hz := hU.size
      go_wp2_with fail
      refine (g2.out _ hT).mono ?_
      rintro en w3 ⟨rfl, hT', hu⟩
      clear hT
      have hT := hT'
      clear hT'
      replace hb_r := hu.heap hb_r (by omega)
      replace hb_o := hu.heap hb_o (by omega)
      replace hb_x := hu.heap hb_x (by omega)
      replace ho_v := hu.owns ho_v (fun j hj h => by have := own_ge ho_v hj; omega)
      replace hU := hU.trans hu fun _ _ h => h
      replace hz1 := Nat.le_trans hz1 hu.size
      replace hzx := Nat.le_trans hzx hu.size
      clear hu
      have hz := hU.size
      go_wp2_with ((with_reducible (show wpList _ _ _ (⟨_, Op.store _ _ _, _, _, _, _⟩ :: _) _ _)); refine storeC_list rfl 3 _ _ rfl w1.heap.size 1 (.int .i64 i3) #[.string ⟨t2.toArray⟩, .int .i64 0, .bool false, .int .i64 0, .int .i64 0, .int .i64 0, .bool false, .bool false] _ rfl rfl hb_x (by simp) rfl rfl rfl ?_)
      intro w4 hb' hu
      replace hb' : w4.heap[w1.heap.size]? = some (.cells #[.string ⟨t2.toArray⟩, .int .i64 i3, .bool false, .int .i64 0, .int .i64 0, .int .i64 0, .bool false, .bool false] 96 (0, 0)) := hb'
      replace hb_r := hu.heap hb_r (by omega)
      replace hb_o := hu.heap hb_o (by omega)
      replace hT := hT.upd hu (by omega)
      replace ho_v := hu.owns ho_v (fun j hj h => by have := own_ge ho_v hj; have := hvx.out _ hj; omega)
      replace hU := hU.trans hu fun j hj h => by omega
      replace hz1 := Nat.le_trans hz1 hu.size
      replace hzx := Nat.le_trans hzx hu.size
      clear hb_x hu
      have hb_x := hb'
      clear hb'
      have hz := hU.size
      clear g2
      go_wp2_with fail
      refine (g3.out _ hT).mono ?_
      rintro en w5 ⟨rfl, hT', hu⟩
      clear hT
      have hT := hT'
      clear hT'
      replace hb_r := hu.heap hb_r (by omega)
      replace hb_o := hu.heap hb_o (by omega)
      replace hb_x := hu.heap hb_x (by omega)
      replace ho_v := hu.owns ho_v (fun j hj h => by have := own_ge ho_v hj; omega)
      replace hU := hU.trans hu fun _ _ h => h
      replace hz1 := Nat.le_trans hz1 hu.size
      replace hzx := Nat.le_trans hzx hu.size
      clear hu
      have hz := hU.size
      go_wp2_with ((with_reducible (show wpList _ _ _ (⟨_, Op.store _ _ _, _, _, _, _⟩ :: _) _ _)); refine storeC_list rfl 4 _ _ rfl w1.heap.size 2 (.bool lb) #[.string ⟨t2.toArray⟩, .int .i64 i3, .bool false, .int .i64 0, .int .i64 0, .int .i64 0, .bool false, .bool false] _ rfl rfl hb_x (by simp) rfl rfl rfl ?_)
      intro w6 hb' hu
      replace hb' : w6.heap[w1.heap.size]? = some (.cells #[.string ⟨t2.toArray⟩, .int .i64 i3, .bool lb, .int .i64 0, .int .i64 0, .int .i64 0, .bool false, .bool false] 96 (0, 0)) := hb'
      replace hb_r := hu.heap hb_r (by omega)
      replace hb_o := hu.heap hb_o (by omega)
      replace hT := hT.upd hu (by omega)
      replace ho_v := hu.owns ho_v (fun j hj h => by have := own_ge ho_v hj; have := hvx.out _ hj; omega)
      replace hU := hU.trans hu fun j hj h => by omega
      replace hz1 := Nat.le_trans hz1 hu.size
      replace hzx := Nat.le_trans hzx hu.size
      clear hb_x hu
      have hb_x := hb'
      clear hb'
      have hz := hU.size
      clear g3
      go_wp2_with fail
      refine (g4.out _ hT).mono ?_
      rintro en w7 ⟨rfl, hT', hu⟩
      clear hT
      have hT := hT'
      clear hT'
      replace hb_r := hu.heap hb_r (by omega)
      replace hb_o := hu.heap hb_o (by omega)
      replace hb_x := hu.heap hb_x (by omega)
      replace ho_v := hu.owns ho_v (fun j hj h => by have := own_ge ho_v hj; omega)
      replace hU := hU.trans hu fun _ _ h => h
      replace hz1 := Nat.le_trans hz1 hu.size
      replace hzx := Nat.le_trans hzx hu.size
      clear hu
      have hz := hU.size
      go_wp2_with ((with_reducible (show wpList _ _ _ (⟨_, Op.store _ _ _, _, _, _, _⟩ :: _) _ _)); refine storeM_list rfl 27 _ _ rfl w1.heap.size 3 #[.int .i64 hs1, .int .i64 hs2, .int .i64 hs3, .bool hs4, .bool hs5] #[.string ⟨t2.toArray⟩, .int .i64 i3, .bool lb, .int .i64 0, .int .i64 0, .int .i64 0, .bool false, .bool false] _ rfl rfl hb_x (by simp) (Lib.hid (hszH.out hs1 hs2 hs3 hs4 hs5)).out (by simp [Value.oneCell']) ?_)
      intro w8 hb' hu
      replace hb' : w8.heap[w1.heap.size]? = some (.cells #[.string ⟨t2.toArray⟩, .int .i64 i3, .bool lb, .int .i64 hs1, .int .i64 hs2, .int .i64 hs3, .bool hs4, .bool hs5] 96 (0, 0)) := hb'
      replace hb_r := hu.heap hb_r (by omega)
      replace hb_o := hu.heap hb_o (by omega)
      replace hT := hT.upd hu (by omega)
      replace ho_v := hu.owns ho_v (fun j hj h => by have := own_ge ho_v hj; have := hvx.out _ hj; omega)
      replace hU := hU.trans hu fun j hj h => by omega
      replace hz1 := Nat.le_trans hz1 hu.size
      replace hzx := Nat.le_trans hzx hu.size
      clear hb_x hu
      have hb_x := hb'
      clear hb'
      have hz := hU.size
      clear g4
      have hzw := hz1
      have hown1 := Lib.hid ho_v
      go_wp2_with (first | ((with_reducible (show wpList _ _ _ (⟨_, Op.load _ _, _, _, _, _⟩ :: _) _ _)); refine loadC_list rfl 33 _ rfl (w.heap.size + 1) 0 (.slice va l.length vc) _ rfl ((cells_of hb_o).1 0) Tryz.underlying33 rfl ?_) | ((with_reducible (show wpList _ _ _ (⟨_, Op.load _ _, _, _, _, _⟩ :: _) _ _)); refine loadB_list rfl 96 _ rfl w1.heap.size #[.string ⟨t2.toArray⟩, .int .i64 i3, .bool lb, .int .i64 hs1, .int .i64 hs2, .int .i64 hs3, .bool hs4, .bool hs5] _ _ rfl hb_x Tryz.underlying96 rfl (hszN.out _ _ _ _ _ _ _ _) ?_) | (at_builtin; go_must (refine wpList_app1 rfl _ _ 33 rfl (w.heap.size + 2) 96 (.agg #[.string ⟨#[]⟩, .int .i64 0, .bool false, .int .i64 0, .int .i64 0, .int .i64 0, .bool false, .bool false]) 8 64 Tryz.underlying33 hii.out rfl _ _ _ rfl ho_v [.string ⟨t2.toArray⟩, .int .i64 i3, .bool lb, .int .i64 hs1, .int .i64 hs2, .int .i64 hs3, .bool hs4, .bool hs5] rfl rfl (by intro u hu; simp at hu; rcases hu with rfl | rfl | rfl | rfl | rfl | rfl | rfl | rfl <;> rfl) ?h63 ?hby hzw ?_)))
      case h63 => have := hlk.out; unfold maxLen; omega
      case hby => have := hlk.out; omega
      intro v9 w9 ho9 hu hf9
      replace hb_r := hu.heap hb_r (fun hj => by have := own_ge ho_v hj; omega)
      replace hb_o := hu.heap hb_o (fun hj => by have := own_ge ho_v hj; omega)
      replace hb_x := hu.heap hb_x (fun hj => by have := hvx.out _ hj; omega)
      replace hT := hT.upd hu (fun hj => by have := own_ge ho_v hj; omega)
      replace hU := hU.trans hu fun j hj h => by have := own_ge ho_v h; omega
      replace hz1 := Nat.le_trans hz1 hu.size
      replace hzx := Nat.le_trans hzx hu.size
      clear ho_v hu hf9 hb_x
      have ho_v := ho9
      clear ho9
      have hz := hU.size
      clear hzx hNx hvx
      obtain ⟨-, va2, vc2, rfl, -⟩ := has_of_owns ho_v
      go_wp2_with ((with_reducible (show wpList _ _ _ (⟨_, Op.store _ _ _, _, _, _, _⟩ :: _) _ _)); refine storeC_list rfl 33 _ _ rfl (w.heap.size + 1) 0 (.slice va2 (l.length + 1) vc2) #[.slice va l.length vc, .string ⟨#[]⟩, .int .i64 0, .bool false] _ rfl rfl hb_o (by simp) rfl rfl rfl ?_)
      intro w10 hb' hu
      replace hb' : w10.heap[(w.heap.size + 1)]? = some (.cells #[.slice va2 (l.length + 1) vc2, .string ⟨#[]⟩, .int .i64 0, .bool false] 35 (0, 0)) := hb'
      replace hb_r := hu.heap hb_r (by omega)
      replace hT := hT.upd hu (by omega)
      replace ho_v := hu.owns ho_v (fun j hj h => by have := own_ge ho_v hj; omega)
      replace hU := hU.trans hu fun j hj h => by omega
      replace hz1 := Nat.le_trans hz1 hu.size
      clear hb_o hu
      have hb_o := hb'
      clear hb'
      have hz := hU.size
      have ho5 : w10.ownsRow (w.heap.size + 2) 96 8 (.slice va2 (l.length + 1) vc2) (l ++ [(⟨t2, i3, lb, ⟨hs1, hs2, hs3, hs4, hs5⟩⟩ : Ln)]).length ((l ++ [(⟨t2, i3, lb, ⟨hs1, hs2, hs3, hs4, hs5⟩⟩ : Ln)]).flatMap lnC) := by rw [List.length_append, List.flatMap_append]; exact ho_v
      clear ho_v hown1
      go_wp2_with fail
      go_roundw
      case rel => exact ⟨k + 1, l ++ [⟨t2, i3, lb, ⟨hs1, hs2, hs3, hs4, hs5⟩⟩], a5, e5, _, by go_num, by omega, by simp [hlk.out], hq2, hT, ho5, hb_r, hb_o, by omega, hU⟩
      case measure => simp [intOf]; omega
    case neg =>
      have hq2 := (many_end (rdLn rTx s) ar l hc).symm.trans hq.out
      injection hq2 with h1 h2
      injection h2 with h2 h3
      subst h1
      subst h2
      subst h3
      clear hq cT cN1 cN8 cH hii
      by_cases hlt2 : k < z
      case pos =>
        have hltI : (k : Int) < (z : Int) := by omega
        have her : ¬ er = 0 := fun h => hc ⟨hlt2, h⟩
        go_wp2_with fail
        refine (f1.out _ hT).mono ?_
        rintro en w1 ⟨rfl, hT', hu⟩
        clear hT
        have hT := hT'
        clear hT'
        replace hb_r := hu.heap hb_r (by omega)
        replace hb_o := hu.heap hb_o (by omega)
        replace ho_v := hu.owns ho_v (fun j hj h => by have := own_ge ho_v hj; omega)
        replace hU := hU.trans hu fun _ _ h => h
        replace hz1 := Nat.le_trans hz1 hu.size
        clear hu
        have hz := hU.size
        go_wp2_with ((with_reducible (show wpList _ _ _ (⟨_, Op.store _ _ _, _, _, _, _⟩ :: _) _ _)); refine storeC_list rfl 9 _ _ rfl (w.heap.size + 1) 1 (.string ⟨o.toArray⟩) #[.slice va l.length vc, .string ⟨#[]⟩, .int .i64 0, .bool false] _ rfl rfl hb_o (by simp) rfl rfl rfl ?_)
        intro w2 hb' hu
        replace hb' : w2.heap[(w.heap.size + 1)]? = some (.cells #[.slice va l.length vc, .string ⟨o.toArray⟩, .int .i64 0, .bool false] 35 (0, 0)) := hb'
        replace hb_r := hu.heap hb_r (by omega)
        replace hT := hT.upd hu (by omega)
        replace ho_v := hu.owns ho_v (fun j hj h => by have := own_ge ho_v hj; omega)
        replace hU := hU.trans hu fun j hj h => by omega
        replace hz1 := Nat.le_trans hz1 hu.size
        clear hb_o hu
        have hb_o := hb'
        clear hb'
        have hz := hU.size
        clear f1
        go_wp2_with fail
        refine (f2.out _ hT).mono ?_
        rintro en w3 ⟨rfl, hT', hu⟩
        clear hT
        have hT := hT'
        clear hT'
        replace hb_r := hu.heap hb_r (by omega)
        replace hb_o := hu.heap hb_o (by omega)
        replace ho_v := hu.owns ho_v (fun j hj h => by have := own_ge ho_v hj; omega)
        replace hU := hU.trans hu fun _ _ h => h
        replace hz1 := Nat.le_trans hz1 hu.size
        clear hu
        have hz := hU.size
        go_wp2_with ((with_reducible (show wpList _ _ _ (⟨_, Op.store _ _ _, _, _, _, _⟩ :: _) _ _)); refine storeC_list rfl 3 _ _ rfl (w.heap.size + 1) 2 (.int .i64 lid) #[.slice va l.length vc, .string ⟨o.toArray⟩, .int .i64 0, .bool false] _ rfl rfl hb_o (by simp) rfl rfl rfl ?_)
        intro w4 hb' hu
        replace hb' : w4.heap[(w.heap.size + 1)]? = some (.cells #[.slice va l.length vc, .string ⟨o.toArray⟩, .int .i64 lid, .bool false] 35 (0, 0)) := hb'
        replace hb_r := hu.heap hb_r (by omega)
        replace hT := hT.upd hu (by omega)
        replace ho_v := hu.owns ho_v (fun j hj h => by have := own_ge ho_v hj; omega)
        replace hU := hU.trans hu fun j hj h => by omega
        replace hz1 := Nat.le_trans hz1 hu.size
        clear hb_o hu
        have hb_o := hb'
        clear hb'
        have hz := hU.size
        clear f2
        go_wp2_with fail
        refine (f3.out _ hT).mono ?_
        rintro en w5 ⟨rfl, hT', hu⟩
        clear hT
        have hT := hT'
        clear hT'
        replace hb_r := hu.heap hb_r (by omega)
        replace hb_o := hu.heap hb_o (by omega)
        replace ho_v := hu.owns ho_v (fun j hj h => by have := own_ge ho_v hj; omega)
        replace hU := hU.trans hu fun _ _ h => h
        replace hz1 := Nat.le_trans hz1 hu.size
        clear hu
        have hz := hU.size
        go_wp2_with ((with_reducible (show wpList _ _ _ (⟨_, Op.store _ _ _, _, _, _, _⟩ :: _) _ _)); refine storeC_list rfl 4 _ _ rfl (w.heap.size + 1) 3 (.bool (decide (m = 1))) #[.slice va l.length vc, .string ⟨o.toArray⟩, .int .i64 lid, .bool false] _ rfl rfl hb_o (by simp) rfl rfl rfl ?_)
        intro w6 hb' hu
        replace hb' : w6.heap[(w.heap.size + 1)]? = some (.cells #[.slice va l.length vc, .string ⟨o.toArray⟩, .int .i64 lid, .bool (decide (m = 1))] 35 (0, 0)) := hb'
        replace hb_r := hu.heap hb_r (by omega)
        replace hT := hT.upd hu (by omega)
        replace ho_v := hu.owns ho_v (fun j hj h => by have := own_ge ho_v hj; omega)
        replace hU := hU.trans hu fun j hj h => by omega
        replace hz1 := Nat.le_trans hz1 hu.size
        clear hb_o hu
        have hb_o := hb'
        clear hb'
        have hz := hU.size
        clear f3
        go_wp2_with (first | ((with_reducible (show wpList _ _ _ (⟨_, Op.load _ _, _, _, _, _⟩ :: _) _ _)); refine loadB_list rfl 35 _ rfl (w.heap.size + 1) #[.slice va l.length vc, .string ⟨o.toArray⟩, .int .i64 lid, .bool (decide (m = 1))] _ _ rfl hb_o Tryz.underlying35 rfl (hszL.out _ _ _ _) ?_) | ((with_reducible (show wpList _ _ _ (⟨_, Op.store _ _ _, _, _, _, _⟩ :: _) _ _)); refine storeB_list rfl 35 _ _ rfl w.heap.size #[.slice va l.length vc, .string ⟨o.toArray⟩, .int .i64 lid, .bool (decide (m = 1))] _ _ rfl rfl hb_r rfl (hszL.out _ _ _ _) (by simp [Value.oneCell']) ?_))
        intro w7 hb' hu
        replace hb_o := hu.heap hb_o (by omega)
        replace hT := hT.upd hu (by omega)
        replace ho_v := hu.owns ho_v (fun j hj h => by have := own_ge ho_v hj; omega)
        replace hU := hU.trans hu fun j hj h => by omega
        replace hz1 := Nat.le_trans hz1 hu.size
        have hg := Lib.hid (hfin.out _ _ hT ho_v hU)
        clear hb_r hb_o hu hT ho_v hU
        go_wp2_with fail
        (try simp only [Exit.inBlock, Exit.then])
        refine bodyPost_ret (results_cell_row rfl _ _ w.heap.size _ _ _ _ rfl hb' Tryz.underlying35 rfl (hszL.out _ _ _ _)) rfl ?_
        exact hg.out
      case neg =>
        have hltI : ¬ (k : Int) < (z : Int) := by omega
        clear y2
        go_wp2_with fail
        refine (f1.out _ hT).mono ?_
        rintro en w1 ⟨rfl, hT', hu⟩
        clear hT
        have hT := hT'
        clear hT'
        replace hb_r := hu.heap hb_r (by omega)
        replace hb_o := hu.heap hb_o (by omega)
        replace ho_v := hu.owns ho_v (fun j hj h => by have := own_ge ho_v hj; omega)
        replace hU := hU.trans hu fun _ _ h => h
        replace hz1 := Nat.le_trans hz1 hu.size
        clear hu
        have hz := hU.size
        go_wp2_with ((with_reducible (show wpList _ _ _ (⟨_, Op.store _ _ _, _, _, _, _⟩ :: _) _ _)); refine storeC_list rfl 9 _ _ rfl (w.heap.size + 1) 1 (.string ⟨o.toArray⟩) #[.slice va l.length vc, .string ⟨#[]⟩, .int .i64 0, .bool false] _ rfl rfl hb_o (by simp) rfl rfl rfl ?_)
        intro w2 hb' hu
        replace hb' : w2.heap[(w.heap.size + 1)]? = some (.cells #[.slice va l.length vc, .string ⟨o.toArray⟩, .int .i64 0, .bool false] 35 (0, 0)) := hb'
        replace hb_r := hu.heap hb_r (by omega)
        replace hT := hT.upd hu (by omega)
        replace ho_v := hu.owns ho_v (fun j hj h => by have := own_ge ho_v hj; omega)
        replace hU := hU.trans hu fun j hj h => by omega
        replace hz1 := Nat.le_trans hz1 hu.size
        clear hb_o hu
        have hb_o := hb'
        clear hb'
        have hz := hU.size
        clear f1
        go_wp2_with fail
        refine (f2.out _ hT).mono ?_
        rintro en w3 ⟨rfl, hT', hu⟩
        clear hT
        have hT := hT'
        clear hT'
        replace hb_r := hu.heap hb_r (by omega)
        replace hb_o := hu.heap hb_o (by omega)
        replace ho_v := hu.owns ho_v (fun j hj h => by have := own_ge ho_v hj; omega)
        replace hU := hU.trans hu fun _ _ h => h
        replace hz1 := Nat.le_trans hz1 hu.size
        clear hu
        have hz := hU.size
        go_wp2_with ((with_reducible (show wpList _ _ _ (⟨_, Op.store _ _ _, _, _, _, _⟩ :: _) _ _)); refine storeC_list rfl 3 _ _ rfl (w.heap.size + 1) 2 (.int .i64 lid) #[.slice va l.length vc, .string ⟨o.toArray⟩, .int .i64 0, .bool false] _ rfl rfl hb_o (by simp) rfl rfl rfl ?_)
        intro w4 hb' hu
        replace hb' : w4.heap[(w.heap.size + 1)]? = some (.cells #[.slice va l.length vc, .string ⟨o.toArray⟩, .int .i64 lid, .bool false] 35 (0, 0)) := hb'
        replace hb_r := hu.heap hb_r (by omega)
        replace hT := hT.upd hu (by omega)
        replace ho_v := hu.owns ho_v (fun j hj h => by have := own_ge ho_v hj; omega)
        replace hU := hU.trans hu fun j hj h => by omega
        replace hz1 := Nat.le_trans hz1 hu.size
        clear hb_o hu
        have hb_o := hb'
        clear hb'
        have hz := hU.size
        clear f2
        go_wp2_with fail
        refine (f3.out _ hT).mono ?_
        rintro en w5 ⟨rfl, hT', hu⟩
        clear hT
        have hT := hT'
        clear hT'
        replace hb_r := hu.heap hb_r (by omega)
        replace hb_o := hu.heap hb_o (by omega)
        replace ho_v := hu.owns ho_v (fun j hj h => by have := own_ge ho_v hj; omega)
        replace hU := hU.trans hu fun _ _ h => h
        replace hz1 := Nat.le_trans hz1 hu.size
        clear hu
        have hz := hU.size
        go_wp2_with ((with_reducible (show wpList _ _ _ (⟨_, Op.store _ _ _, _, _, _, _⟩ :: _) _ _)); refine storeC_list rfl 4 _ _ rfl (w.heap.size + 1) 3 (.bool (decide (m = 1))) #[.slice va l.length vc, .string ⟨o.toArray⟩, .int .i64 lid, .bool false] _ rfl rfl hb_o (by simp) rfl rfl rfl ?_)
        intro w6 hb' hu
        replace hb' : w6.heap[(w.heap.size + 1)]? = some (.cells #[.slice va l.length vc, .string ⟨o.toArray⟩, .int .i64 lid, .bool (decide (m = 1))] 35 (0, 0)) := hb'
        replace hb_r := hu.heap hb_r (by omega)
        replace hT := hT.upd hu (by omega)
        replace ho_v := hu.owns ho_v (fun j hj h => by have := own_ge ho_v hj; omega)
        replace hU := hU.trans hu fun j hj h => by omega
        replace hz1 := Nat.le_trans hz1 hu.size
        clear hb_o hu
        have hb_o := hb'
        clear hb'
        have hz := hU.size
        clear f3
        go_wp2_with (first | ((with_reducible (show wpList _ _ _ (⟨_, Op.load _ _, _, _, _, _⟩ :: _) _ _)); refine loadB_list rfl 35 _ rfl (w.heap.size + 1) #[.slice va l.length vc, .string ⟨o.toArray⟩, .int .i64 lid, .bool (decide (m = 1))] _ _ rfl hb_o Tryz.underlying35 rfl (hszL.out _ _ _ _) ?_) | ((with_reducible (show wpList _ _ _ (⟨_, Op.store _ _ _, _, _, _, _⟩ :: _) _ _)); refine storeB_list rfl 35 _ _ rfl w.heap.size #[.slice va l.length vc, .string ⟨o.toArray⟩, .int .i64 lid, .bool (decide (m = 1))] _ _ rfl rfl hb_r rfl (hszL.out _ _ _ _) (by simp [Value.oneCell']) ?_))
        intro w7 hb' hu
        replace hb_o := hu.heap hb_o (by omega)
        replace hT := hT.upd hu (by omega)
        replace ho_v := hu.owns ho_v (fun j hj h => by have := own_ge ho_v hj; omega)
        replace hU := hU.trans hu fun j hj h => by omega
        replace hz1 := Nat.le_trans hz1 hu.size
        have hg := Lib.hid (hfin.out _ _ hT ho_v hU)
        clear hb_r hb_o hu hT ho_v hU
        go_wp2_with fail
        (try simp only [Exit.inBlock, Exit.then])
        refine bodyPost_ret (results_cell_row rfl _ _ w.heap.size _ _ _ _ rfl hb' Tryz.underlying35 rfl (hszL.out _ _ _ _)) rfl ?_
        exact hg.out
end Go.Proofs.YtogekobpjjmnjaaGreat
