/- The reference: taken.tag, taken.head, taken.texts. -/
import Derived.Test.YtogekobpjjmnjaaGreatMWrV
import Derived.Test.YtogekobpjjmnjaaGreatMWrO
import Derived.Test.YtogekobpjjmnjaaGreatMWaS
import Derived.Test.YtogekobpjjmnjaaGreatMWaX
namespace Go.Proofs.YtogekobpjjmnjaaGreat
open Go.RowKit Go.Amb
set_option linter.unusedVariables false
set_option linter.unusedSimpArgs false
set_option maxRecDepth 100000
attribute [local go_sem ↓] Go.wp_at_zero Go.wp_at_succ
theorem TkAt.upd {Q : Nat → Prop} {w w' : World} {t : Nat} {s : List UInt8} {a : Nat} {e : Int} (h : TkAt w t s a e) (hu : Upd Q w w') (hn : ¬ Q t) : TkAt w' t s a e := ⟨h.1, hu.heap h.2 hn⟩
set_option maxHeartbeats 2000000 in
theorem tTag (t : Nat) (s : List UInt8) (a : Nat) (e : Int) (w : World) (h : TkAt w t s a e) (hs : s.length ≤ 140737488355328) :
    Calls Tryz.prog 25 #[.pointer (some ⟨t, 0, none⟩)] w (Tkd t s (rdTag s a e).1 (rdTag s a e).2.1 (tagV (rdTag s a e).2.2.1 (rdTag s a e).2.2.2) w) := by
  have c1 := Lib.hid (fun w h => tNum t s a e 4 w h hs (by omega))
  have c2 := Lib.hid (fun w h => tNum t s (rdNum s a e 4).1 (rdNum s a e 4).2.1 4 w h hs (by omega))
  unfold rdTag tagV
  dsimp only
  generalize rdNum s a e 4 = x at *
  obtain ⟨a1, e1, n1⟩ := x
  dsimp only at *
  generalize rdNum s a1 e1 4 = x at *
  obtain ⟨a2, e2, n2⟩ := x
  dsimp only at *
  have hlt := heap_lt h.2
  have hb0 := heap_alloc_new w (.cells #[.int .i64 0, .int .i64 0] 25)
  have h0 : TkAt (w.alloc (.cells #[.int .i64 0, .int .i64 0] 25)) t s a e := h.upd (Upd.alloc Non w _) fun h => h
  have hsz : Hid ((Tryz.prog.info? 25).map (·.size) = some (#[Value.int .i64 n1, .int .i64 n2] : Array Value).size) := Lib.hid (by kernel_rfl)
  go_enter Tryz.func25, Tryz.ntmps25
  go_wp2_with fail
  refine (c1.out _ h0).mono ?_
  rintro en w1 ⟨rfl, h1, hu1⟩
  have hb1 := hu1.heap hb0 (by omega)
  clear c1 hb0
  go_wp2_with fail
  refine (c2.out _ h1).mono ?_
  rintro en w2 ⟨rfl, h2, hu2⟩
  have hb2 := hu2.heap hb1 (by omega)
  clear c2 hb1 h1
  go_wp2_with ((with_reducible (show wpList _ _ _ (⟨_, Op.store _ _ _, _, _, _, _⟩ :: _) _ _)); refine storeB_list rfl 25 _ _ rfl w.heap.size #[.int .i64 n1, .int .i64 n2] _ _ rfl rfl hb2 rfl hsz.out (by simp [Value.oneCell']) ?_)
  intro w3 hb3 hu3
  have hg : Tkd t s a2 e2 (.agg #[.int .i64 n1, .int .i64 n2]) w (.returned (.agg #[.int .i64 n1, .int .i64 n2])) w3 := ⟨rfl, h2.upd hu3 (by omega), (((Upd.alloc _ w (.cells #[.int .i64 0, .int .i64 0] 25)).trans hu1 fun _ _ h => h).trans hu2 fun _ _ h => h).trans hu3 fun j hj h => by omega⟩
  clear hu1 hu2 hu3 h2 hb2 h0
  go_wp2_with fail
  (try simp only [Exit.inBlock, Exit.then])
  refine bodyPost_ret (results_cell_row rfl _ _ w.heap.size _ _ _ _ rfl hb3 Tryz.underlying25 rfl hsz.out) rfl ?_
  exact hg
theorem nat_two (z : Nat) : Int.tmod (z : Int) 2 = ((z % 2 : Nat) : Int) ∧ Int.tdiv (z : Int) 2 = ((z / 2 : Nat) : Int) := ⟨rfl, rfl⟩
set_option maxHeartbeats 2000000 in
theorem tHead (t : Nat) (s : List UInt8) (a : Nat) (e : Int) (w : World) (h : TkAt w t s a e) (hs : s.length ≤ 140737488355328) :
    Calls Tryz.prog 26 #[.pointer (some ⟨t, 0, none⟩)] w (Tkd t s (rdHd s a e).1 (rdHd s a e).2.1 (hdV (rdHd s a e).2.2) w) := by
  have c1 := Lib.hid (fun w h => tNum t s a e 1 w h hs (by omega))
  have c2 := Lib.hid (fun w h => tNum t s (rdNum s a e 1).1 (rdNum s a e 1).2.1 2 w h hs (by omega))
  have c3 := Lib.hid (fun a e w h => tTag t s a e w h hs)
  obtain ⟨z, hz, hz2⟩ := rdNum_nat s a e 1 (by omega)
  unfold rdHd
  dsimp only
  generalize rdNum s a e 1 = x at *
  obtain ⟨a1, e1, n1⟩ := x
  dsimp only at *
  subst hz
  generalize rdNum s a1 e1 2 = x at *
  obtain ⟨a2, e2, n2⟩ := x
  dsimp only at *
  replace c3 := Lib.hid (c3.out a2 e2)
  generalize rdTag s a2 e2 = x at *
  obtain ⟨a3, e3, re, im⟩ := x
  unfold tagV at c3
  unfold hdV
  dsimp only at *
  have hz3 : z < 256 := by simpa using hz2
  obtain ⟨g, hgd⟩ : ∃ g, decide ((z : Int) % 2 = 1) = g := ⟨_, rfl⟩
  obtain ⟨nl, hnl⟩ : ∃ nl, decide ((z : Int) / 2 % 2 = 1) = nl := ⟨_, rfl⟩
  rw [hgd, hnl]
  replace hgd : ((z : Int) % 2 == 1) = g := hgd
  replace hnl : ((z : Int) / 2 % 2 == 1) = nl := hnl
  have hlt := heap_lt h.2
  have hb0 := heap_alloc_new w (.cells #[.int .i64 0, .int .i64 0, .int .i64 0, .bool false, .bool false] 27)
  have h0 : TkAt (w.alloc (.cells #[.int .i64 0, .int .i64 0, .int .i64 0, .bool false, .bool false] 27)) t s a e := h.upd (Upd.alloc Non w _) fun h => h
  have hsz : Hid ((Tryz.prog.info? 27).map (·.size) = some (#[Value.int .i64 n2, .int .i64 re, .int .i64 im, .bool g, .bool nl] : Array Value).size) := Lib.hid (by kernel_rfl)
  go_enter Tryz.func26, Tryz.ntmps26
  go_wp2_with fail
  refine (c1.out _ h0).mono ?_
  rintro en w1 ⟨rfl, h1, hu1⟩
  have hb1 := hu1.heap hb0 (by omega)
  clear c1 hb0
  go_wp2_with fail
  refine (c2.out _ h1).mono ?_
  rintro en w2 ⟨rfl, h2, hu2⟩
  have hb2 := hu2.heap hb1 (by omega)
  clear c2 hb1 h1
  go_wp2_with fail
  refine (c3.out _ h2).mono ?_
  rintro en w3 ⟨rfl, h3, hu3⟩
  have hb3 := hu3.heap hb2 (by omega)
  clear c3 hb2 h2
  go_wp2_with ((with_reducible (show wpList _ _ _ (⟨_, Op.store _ _ _, _, _, _, _⟩ :: _) _ _)); refine storeB_list rfl 27 _ _ rfl w.heap.size #[.int .i64 n2, .int .i64 re, .int .i64 im, .bool g, .bool nl] _ _ rfl rfl hb3 rfl hsz.out (by simp [Value.oneCell']) ?_)
  intro w4 hb4 hu4
  have hg : Tkd t s a3 e3 (.agg #[.int .i64 n2, .int .i64 re, .int .i64 im, .bool g, .bool nl]) w (.returned (.agg #[.int .i64 n2, .int .i64 re, .int .i64 im, .bool g, .bool nl])) w4 := ⟨rfl, h3.upd hu4 (by omega), ((((Upd.alloc _ w (.cells #[.int .i64 0, .int .i64 0, .int .i64 0, .bool false, .bool false] 27)).trans hu1 fun _ _ h => h).trans hu2 fun _ _ h => h).trans hu3 fun _ _ h => h).trans hu4 fun j hj h => by omega⟩
  clear hu1 hu2 hu3 hu4 h3 hb3 h0
  go_wp2_with fail
  (try simp only [Exit.inBlock, Exit.then])
  refine bodyPost_ret (results_cell_row rfl _ _ w.heap.size _ _ _ _ rfl hb4 Tryz.underlying27 rfl hsz.out) rfl ?_
  exact hg
/-- A new value in the reference's reading: X of it. -/
def TNew (t : Nat) (s : List UInt8) (a' : Nat) (e' : Int) (X : World → Value → Prop) (w : World) : Ending → World → Prop := fun en w' => ∃ v, en = .returned v ∧ TkAt w' t s a' e' ∧ X w' v ∧ Upd (fun k => k = t) w w'
theorem many_end {α : Type} (f : Nat → Int → Nat × Int × α) {n k : Nat} (a : Nat) {e : Int} (l : List α) (h : ¬ (k < n ∧ e = 0)) : rdMany f (n - k) a e l = (a, e, l) := by
  by_cases he : e = 0
  · have hk : n - k = 0 := by omega
    rw [hk]; rfl
  · exact rdMany_err f _ a l he
theorem many_step {α : Type} (f : Nat → Int → Nat × Int × α) {n k : Nat} (a : Nat) (l : List α) (h : k < n) : rdMany f (n - k) a 0 l = rdMany f (n - (k + 1)) (f a 0).1 (f a 0).2.1 (l ++ [(f a 0).2.2]) := by
  rw [show n - k = (n - (k + 1)) + 1 by omega]
  exact rdMany_step f _ a l
end Go.Proofs.YtogekobpjjmnjaaGreat

namespace Go.Proofs.YtogekobpjjmnjaaGreat
open Go.RowKit Go.Amb
set_option linter.unusedVariables false
set_option linter.unusedSimpArgs false
set_option maxRecDepth 100000
attribute [local go_sem ↓] Go.wp_at_zero Go.wp_at_succ
set_option maxHeartbeats 4000000 in
theorem tTexts (t : Nat) (s : List UInt8) (a : Nat) (e : Int) (w : World) (h : TkAt w t s a e) (hs : s.length ≤ 140737488355328) :
    Calls Tryz.prog 27 #[.pointer (some ⟨t, 0, none⟩)] w (TNew t s (rdTxs rTx s a e).1 (rdTxs rTx s a e).2.1 (NewTx w (rdTxs rTx s a e).2.2) w) := by
  have c1 := Lib.hid (fun w h => tNum t s a e 2 w h hs (by omega))
  have c2 := Lib.hid (fun a w h => tText t s a 0 4 w h hs (by omega))
  obtain ⟨z, hz, hz2⟩ := rdNum_nat s a e 2 (by omega)
  have hzb : z < 65536 := by simpa using hz2
  have hRe : rdTxs rTx s a e = rdMany (rTx s) (rdNum s a e 2).2.2.toNat (rdNum s a e 2).1 (rdNum s a e 2).2.1 [] := rfl
  rw [hRe]
  generalize rdNum s a e 2 = x at *
  obtain ⟨a1, e1, n1⟩ := x
  dsimp only at *
  subst hz
  rw [Int.toNat_natCast]
  obtain ⟨R, hR⟩ : ∃ R, rdMany (rTx s) z a1 e1 [] = R := ⟨_, rfl⟩
  rw [hR]
  have hlt := heap_lt h.2
  obtain ⟨PR, hPR⟩ : ∃ PR, TNew t s R.1 R.2.1 (NewTx w R.2.2) w = PR := ⟨_, rfl⟩
  rw [hPR]
  have hfin : Hid (∀ w' v, TkAt w' t s R.1 R.2.1 → w'.ownsRow w.heap.size 9 1 v R.2.2.length (R.2.2.flatMap txC) → Upd (fun k => k = t) w w' → PR (.returned v) w') := Lib.hid (fun w' v e1 e2 e3 => by
    rw [← hPR]
    refine ⟨v, rfl, e1, ⟨?_, fun k hk => ⟨own_ge e2 hk, own_lt e2 hk⟩⟩, e3⟩
    have := has_of_owns e2
    rw [flat_txC] at this
    exact this)
  have hrel0 : Hid (rdMany (rTx s) (z - 0) a1 e1 [] = R) := Lib.hid (by rw [Nat.sub_zero]; exact hR)
  have hii : Hid ((Tryz.prog.info? 9).map (fun i => (i.zero, i.size, i.bytes)) = some (some (.string ⟨#[]⟩), 1, 16)) := Lib.hid (by kernel_rfl)
  clear hPR hR hRe hz2
  go_enter Tryz.func27, Tryz.ntmps27
  go_wp2_with fail
  refine (c1.out _ h).mono ?_
  rintro en w1 ⟨rfl, h1, hu1⟩
  clear c1 h
  go_wp2_with fail
  go_loopw [3, 5] (fun v iv wr => ∃ (k : Nat) (l : List (List UInt8)) (a : Nat) (e : Int), iv = .int .i64 (k : Int) ∧ k ≤ z ∧ l.length = k ∧ Hid (rdMany (rTx s) (z - k) a e l = R) ∧ TkAt wr t s a e ∧ wr.ownsRow w.heap.size 9 1 v l.length (l.flatMap txC) ∧ Upd (fun k => k = t) w wr) (fun _ iv _ => z - (intOf iv).toNat)
  case atStart => exact ⟨0, [], a1, e1, rfl, Nat.zero_le _, rfl, hrel0, h1, World.ownsRow_nil _ _ _ _, hu1⟩
  case round =>
    obtain ⟨k, l, ar, er, rfl, hk, hlk, hq, hT, ho, hU⟩ := hrel
    have y2 := (cells_of hT.2).1 2
    replace y2 : wr.cell? ⟨t, 2, none⟩ = some (.int .i64 er) := y2
    have hk0 : (0 : Int) ≤ (k : Int) := by omega
    by_cases hc : k < z ∧ er = 0
    · obtain ⟨hlt2, rfl⟩ := hc
      have hltI : (k : Int) < (z : Int) := by omega
      have hq2 := Lib.hid ((many_step (rTx s) ar l hlt2).symm.trans hq.out)
      replace c2 := Lib.hid (c2.out ar)
      have hrx : Hid (rTx s ar 0 = rdTxt s ar 0 4) := Lib.hid rfl
      rw [hrx.out] at hq2
      clear hq hrx
      generalize rdTxt s ar 0 4 = x at *
      obtain ⟨a3, e3, t3⟩ := x
      dsimp only at *
      go_wp2_with fail
      refine (c2.out _ hT).mono ?_
      rintro en w2 ⟨rfl, h2, hu2⟩
      replace ho := hu2.owns ho fun j hj h => by have := own_ge ho hj; omega
      have hz1 := hu1.size
      have hzw := (hU.trans hu2 fun _ _ h => h).size
      clear y2 hT
      go_wp2_with (at_builtin; go_must (refine wpList_app1 rfl _ _ 30 rfl w.heap.size 9 (.string ⟨#[]⟩) 1 16 Tryz.underlying30 hii.out rfl _ _ _ rfl ho [.string ⟨t3.toArray⟩] rfl rfl (by intro u hu; rw [List.mem_singleton.1 hu]; rfl) ?h63 ?hby hzw ?_))
      case h63 => unfold maxLen; omega
      case hby => omega
      intro v4 w4 ho4 hu4 hf4
      have h4 := h2.upd hu4 (fun hj => by have := own_ge ho hj; omega)
      have hU4 := (hU.trans hu2 fun _ _ h => h).trans hu4 fun j hj hh => by have := own_ge ho hh; omega
      have ho5 : w4.ownsRow w.heap.size 9 1 v4 (l ++ [t3]).length ((l ++ [t3]).flatMap txC) := by rw [List.length_append, List.flatMap_append, hlk]; exact ho4
      clear ho4 hu4 hf4 ho h2 hU hu2
      go_wp2_with fail
      go_roundw
      case rel => exact ⟨k + 1, l ++ [t3], a3, e3, by go_num, by omega, by simp [hlk], hq2, h4, ho5, hU4⟩
      case measure => simp [intOf]; omega
    · have hq2 := (many_end (rTx s) ar l hc).symm.trans hq.out
      subst hq2
      dsimp only at hfin
      have hg := Lib.hid (hfin.out _ _ hT ho hU)
      obtain ⟨-, sa, sc, rfl, -⟩ := has_of_owns ho
      clear hfin hq c2
      by_cases hlt2 : k < z
      · have hltI : (k : Int) < (z : Int) := by omega
        have her : ¬ er = 0 := fun h => hc ⟨hlt2, h⟩
        go_wp2_with fail
        first | exact hg.out | exact hlk ▸ hg.out
      · have hltI : ¬ (k : Int) < (z : Int) := by omega
        clear y2
        go_wp2_with fail
        first | exact hg.out | exact hlk ▸ hg.out
end Go.Proofs.YtogekobpjjmnjaaGreat
