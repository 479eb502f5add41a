/- The reference's Write. -/
import Derived.Test.YtgkiglodhhlnmaaBlY
namespace Go.Amb
open Go.RowKit
set_option linter.unusedVariables false
theorem wc_one (P : List (List UInt8 × Nat)) : ∀ u ∈ (P.map wc).flatten, u.oneCell' = true := by
  intro u hu
  obtain ⟨s, hs, hu⟩ := List.mem_flatten.1 hu
  obtain ⟨x, -, rfl⟩ := List.mem_map.1 hs
  simp [wc] at hu
  rcases hu with rfl | rfl <;> rfl
/-- A whole block is stored. -/
theorem wpList_store_blk {P : Program} {ops : Array Oper} {rest : List Oper} {op : Oper} {a : Act} {w : World} {Q : Exit → Act → World → Prop} (hgd : op.guard = none) (ty : TypeId) (x y : Operand) (ho : op.op = .store ty x y)
    (b : Nat) (cells old : Array Value) (t : TypeId) (hx : a.eval x = .pointer (some ⟨b, 0, none⟩)) (hy : a.eval y = .agg cells) (hb : w.heap[b]? = some (.cells old t (0, 0))) (hl : cells.size = old.size)
    (hi : (P.info? ty).map (·.size) = some cells.size) (h1 : cells.all (·.oneCell') = true)
    (h : ∀ w', w'.heap[b]? = some (.cells cells t (0, 0)) → Upd (fun k => k = b) w w' → wpList P ops Q rest (a.put op.dst undef) w') : wpList P ops Q (op :: rest) a w := by
  have hc := cells_of hb
  refine wpList_store_mid hgd ty x y ho b 0 cells hx hy (fun j hj => ⟨?_, hc.2 _⟩) hi h1 (h _ ?_ (upd_setCells b cells.toList 0 w))
  · rw [hc.1, Array.getElem?_eq_getElem (by omega)]; rfl
  · rw [heap_setCells b t cells.toList 0 w old hb (by simp; omega)]
    rw [List.drop_of_length_le (by simp; omega)]
    simp
end Go.Amb
namespace Go.Proofs.Ytgkiglodhhlnmaa
open Go.RowKit Go.Amb Go.Shelf
set_option linter.unusedVariables false
set_option linter.unusedSimpArgs false
set_option maxRecDepth 100000
theorem Same.within {d r : Dk} (h : Same d r) (i : Int) : d.within i = r.within i := by unfold Dk.within; rw [h.k, h.dd, List.length_map]
theorem Same.burn {d r : Dk} (h : Same d r) : Same d.burn.1 r.burn.1 ∧ d.burn.2 = r.burn.2 := by
  unfold Dk.burn
  rw [h.f]
  by_cases h0 : r.f = 0
  · rw [if_pos h0, if_pos h0]; exact ⟨⟨h.k, h.l, h.p, rfl, rfl⟩, rfl⟩
  · rw [if_neg h0, if_neg h0]
    by_cases h1 : 0 < r.f
    · rw [if_pos h1, if_pos h1]; exact ⟨⟨h.k, h.l, h.p, rfl, h.dd⟩, rfl⟩
    · rw [if_neg h1, if_neg h1]; exact ⟨h, rfl⟩
theorem Same.write {d r : Dk} (h : Same d r) (i : Int) (s : List UInt8) : Same (d.write i s).1 (r.write i s).1 ∧ (d.write i s).2 = (r.write i s).2 := by
  have hb := h.burn
  unfold Dk.write
  rw [h.within i, hb.2]
  by_cases h1 : r.within i ≠ 0
  · rw [if_pos h1, if_pos h1]; exact ⟨h, rfl⟩
  · rw [if_neg h1, if_neg h1]
    by_cases h2 : 128 < s.length
    · rw [if_pos h2, if_pos h2]; exact ⟨h, rfl⟩
    · rw [if_neg h2, if_neg h2]
      by_cases h3 : r.burn.2 ≠ 0
      · rw [if_pos h3, if_pos h3]; exact hb
      · rw [if_neg h3, if_neg h3]
        exact ⟨⟨hb.1.k, hb.1.l, by simp only [hb.1.p], hb.1.f, hb.1.dd⟩, rfl⟩
theorem burn_eq (r : Dk) (kv pv : Value) : rfv r.burn.1 kv pv = .agg #[.int .i64 (r.K.length : Nat), kv, pv, .int .i64 r.burn.1.f, .bool r.burn.1.dd] := by
  unfold rfv; rw [Dk.burn_K]
theorem info_rwrite : (Try.prog.info? 85).map (fun i => (i.zero, i.size, i.bytes)) = some (some (.agg #[.int .i64 0, .string ⟨#[]⟩]), 2, 24) := by kernel_rfl
theorem size_disk5 : (Try.prog.info? 48).map (·.size) = some 5 := by kernel_rfl
theorem RAt.keepP {w w' : World} {r r' : Dk} {kv pv : Value} (h : RAt w r kv pv) (hu : Upd Non w w') (hk : r'.K = r.K) (hp : r'.P = r.P) : RAt w' r' kv pv := by
  have h2 := h.non hu
  exact ⟨by rw [hk]; exact h2.k, by rw [hp]; exact h2.p⟩
def Wrote (r : Dk) (kv pv : Value) (w : World) (r' : Dk) (e : Int) (en : Ending) (w' : World) : Prop :=
  ∃ pv', en = .returned (.tuple #[rfv r' kv pv', .int .i64 e]) ∧ RAt w' r' kv pv' ∧ Upd Non w w' ∧ Nw w w' pv pv'
/-- A write refused. -/
theorem refWriteNo (r : Dk) (kv pv : Value) (w : World) (h : RAt w r kv pv) (i : Int) (s : List UInt8) (hs : s.length ≤ 1000000) (hno : r.within i ≠ 0 ∨ 128 < s.length) :
    Calls Try.prog 36 #[rfv r kv pv, .int .i64 i, .string ⟨s.toArray⟩] w (Ret (.tuple #[rfv (r.write i s).1 kv pv, .int .i64 (r.write i s).2]) w) := by
  obtain ⟨_, ka, kc, rfl, -⟩ := id h.k
  obtain ⟨_, pa, pcp, rfl, -⟩ := id h.p
  clear h
  have hlen : (⟨s.toArray⟩ : ByteArray).size = s.length := by simp [ByteArray.size]
  obtain ⟨K, P, f, dd⟩ := r
  unfold Dk.write rfv
  obtain ⟨m, hm⟩ : ∃ m, K.length = m := ⟨_, rfl⟩
  obtain ⟨n, hn⟩ : ∃ n, P.length = n := ⟨_, rfl⟩
  unfold Dk.within at hno ⊢
  simp only [hm, hn] at hno ⊢
  cases dd with
  | true =>
    simp only [if_true, show ¬ (20 : Int) = 0 by omega, not_false_eq_true, if_false, ne_eq, hm, hn] at hno ⊢
    clear hm hn hno
    go_enter Try.func36, Try.ntmps36
    go_wp2_with fail
    refine bodyPost_ret (v := .tuple #[.agg #[.int .i64 (m : Int), .slice ka m kc, .slice pa n pcp, .int .i64 f, .bool true], .int .i64 20]) (by simp [results, Try.results36, go_sem]; try rfl) rfl ⟨rfl, by (repeat (first | (with_reducible exact Upd.refl _ _) | (with_reducible assumption) | (with_reducible refine Upd.then_drew ?_) | (with_reducible refine Upd.then_drewN ?_ _) | (with_reducible refine Upd.then_alloc ?_ _) | (with_reducible refine Upd.then_setCell ?_ (fun h => absurd h (by simp <;> omega)) _) | (with_reducible refine Upd.trans ?_ (Upd.non (by assumption)) (fun _ _ h => h))))⟩
  | false =>
    simp only [Bool.false_eq_true, if_false] at hno ⊢
    by_cases h1 : i < 0
    · simp only [h1, true_or, if_true, show ¬ (6 : Int) = 0 by omega, not_false_eq_true, ne_eq, hm, hn]
      clear hm hn hno
      go_enter Try.func36, Try.ntmps36
      go_wp2_with fail
      refine bodyPost_ret (v := .tuple #[.agg #[.int .i64 (m : Int), .slice ka m kc, .slice pa n pcp, .int .i64 f, .bool false], .int .i64 6]) (by simp [results, Try.results36, go_sem]; try rfl) rfl ⟨rfl, by (repeat (first | (with_reducible exact Upd.refl _ _) | (with_reducible assumption) | (with_reducible refine Upd.then_drew ?_) | (with_reducible refine Upd.then_drewN ?_ _) | (with_reducible refine Upd.then_alloc ?_ _) | (with_reducible refine Upd.then_setCell ?_ (fun h => absurd h (by simp <;> omega)) _) | (with_reducible refine Upd.trans ?_ (Upd.non (by assumption)) (fun _ _ h => h))))⟩
    · by_cases h2 : (m : Int) ≤ i
      · simp only [h1, h2, or_true, if_true, show ¬ (6 : Int) = 0 by omega, not_false_eq_true, ne_eq, hm, hn]
        have h3 : (i < 0) = False := eq_false h1
        have h4 : 0 ≤ i := by omega
        clear hm hn hno h1
        go_enter Try.func36, Try.ntmps36
        go_wp2_with fail
        refine bodyPost_ret (v := .tuple #[.agg #[.int .i64 (m : Int), .slice ka m kc, .slice pa n pcp, .int .i64 f, .bool false], .int .i64 6]) (by simp [results, Try.results36, go_sem]; try rfl) rfl ⟨rfl, by (repeat (first | (with_reducible exact Upd.refl _ _) | (with_reducible assumption) | (with_reducible refine Upd.then_drew ?_) | (with_reducible refine Upd.then_drewN ?_ _) | (with_reducible refine Upd.then_alloc ?_ _) | (with_reducible refine Upd.then_setCell ?_ (fun h => absurd h (by simp <;> omega)) _) | (with_reducible refine Upd.trans ?_ (Upd.non (by assumption)) (fun _ _ h => h))))⟩
      · simp only [h1, h2, or_false, if_false, ne_eq, not_true_eq_false, false_or] at hno ⊢
        simp only [hno, if_true, hm, hn]
        have h3 : (i < 0) = False := eq_false h1
        have h4 : 0 ≤ i := by omega
        have h5 : i < m := by omega
        have h6 : ((m : Int) ≤ i) = False := eq_false h2
        have h7 : (128 : Int) < (s.length : Int) := by omega
        clear hm hn hno h1 h2
        go_enter Try.func36, Try.ntmps36
        go_wp2_with fail
        refine bodyPost_ret (v := .tuple #[.agg #[.int .i64 (m : Int), .slice ka m kc, .slice pa n pcp, .int .i64 f, .bool false], .int .i64 5]) (by simp [results, Try.results36, go_sem]; try rfl) rfl ⟨rfl, by (repeat (first | (with_reducible exact Upd.refl _ _) | (with_reducible assumption) | (with_reducible refine Upd.then_drew ?_) | (with_reducible refine Upd.then_drewN ?_ _) | (with_reducible refine Upd.then_alloc ?_ _) | (with_reducible refine Upd.then_setCell ?_ (fun h => absurd h (by simp <;> omega)) _) | (with_reducible refine Upd.trans ?_ (Upd.non (by assumption)) (fun _ _ h => h))))⟩
set_option maxHeartbeats 4000000 in
/-- A write that is not refused. -/
theorem refWriteYes (r : Dk) (kv pv : Value) (w : World) (h : RAt w r kv pv) (hP : r.P.length ≤ 1000000) (hK : r.K.length ≤ 1000000) (hf1 : -1 ≤ r.f) (hf2 : r.f < 9223372036854775808) (j : Nat) (hw : r.within (j : Int) = 0) (s : List UInt8) (hs : s.length ≤ 128) :
    Calls Try.prog 36 #[rfv r kv pv, .int .i64 (j : Int), .string ⟨s.toArray⟩] w (Wrote r kv pv w (r.write (j : Int) s).1 (r.write (j : Int) s).2) := by
  obtain ⟨_, ka, kc, rfl, -⟩ := id h.k
  obtain ⟨_, pa, pcp, rfl, -⟩ := id h.p
  have hlen : (⟨s.toArray⟩ : ByteArray).size = s.length := by simp [ByteArray.size]
  have hb := Lib.hid (fun w => refBurn r (.slice ka r.K.length kc) (.slice pa r.P.length pcp) w ⟨_, _, _, rfl⟩ ⟨_, _, _, rfl⟩ hf1 hf2)
  have hF := Lib.hid (fun w => refFull s hs w)
  simp only [burn_eq] at hb
  obtain ⟨hd, h0, h1⟩ := Dk.within_0 hw
  have hwr : r.write (j : Int) s = if r.burn.2 ≠ 0 then r.burn else ({ r.burn.1 with P := r.burn.1.P ++ [(full s, j)] }, 0) := by
    unfold Dk.write
    rw [if_neg (by rw [hw]; simp), if_neg (by omega), Int.toNat_natCast]
  rw [hwr]
  simp only [rfv, hd] at hb ⊢
  obtain ⟨m, hm⟩ : ∃ m, r.K.length = m := ⟨_, rfl⟩
  obtain ⟨n, hn⟩ : ∃ n, r.P.length = n := ⟨_, rfl⟩
  obtain ⟨f, hf⟩ : ∃ f, r.f = f := ⟨_, rfl⟩
  obtain ⟨bf, hbf⟩ : ∃ bf, r.burn.1.f = bf := ⟨_, rfl⟩
  obtain ⟨bd, hbd⟩ : ∃ bd, r.burn.1.dd = bd := ⟨_, rfl⟩
  have hpw : Hid (∀ w', Upd Non w w' → Has w' 2 (.slice pa n pcp) n (r.P.map wc).flatten) := Lib.hid (fun w' hu => by have := (h.non hu).p; rw [hn] at this; exact this)
  have hkw : Hid (∀ w', Upd Non w w' → Has w' 1 (.slice ka m kc) r.K.length (r.K.map strV)) := Lib.hid (fun w' hu => by have := (h.non hu).k; rw [hm] at this ⊢; exact this)
  have h3 : ((j : Int) < 0) = False := eq_false (by omega)
  have h4 : (0 : Int) ≤ (j : Int) := by omega
  have h5 : (j : Int) < (m : Int) := by omega
  have h6 : ((m : Int) ≤ (j : Int)) = False := eq_false (by omega)
  have h7 : ((128 : Int) < (s.length : Int)) = False := eq_false (by omega)
  have h8 : (s.length : Int) ≤ 128 := by omega
  rw [hm, hn, hf, hbf, hbd] at hb
  by_cases hb2 : r.burn.2 = 0
  · simp only [hb2, not_true_eq_false, if_false, ne_eq, decide_true, hm, hn, hf] at hb ⊢
    have hRK : Hid (r.burn.1.K = r.K) := Lib.hid (Dk.burn_K r)
    have hRP : Hid (r.burn.1.P = r.P) := Lib.hid (Dk.burn_P r)
    obtain ⟨R, hR⟩ : ∃ R, r.burn.1 = R := ⟨_, rfl⟩
    rw [hR] at hRK hRP hbf hbd ⊢
    have hi2 := Lib.hid info_rwrite
    have hs5 := Lib.hid size_disk5
    replace hbf := Lib.hid hbf
    replace hbd := Lib.hid hbd
    have hn3 : n ≤ 1000000 := by omega
    replace hm := Lib.hid hm
    replace hn := Lib.hid hn
    clear hP hK
    clear hb2 hwr hw h0 h1 hf1 hf2 hd hf hR h hs
    go_enter Try.func36, Try.ntmps36
    go_wp2_with fail
    refine (hb.out _).mono ?_
    rintro en w2 ⟨rfl, hu2⟩
    obtain ⟨hx, hy, hz⟩ := upd_two hu2 (fun _ h => h.elim)
    have hU2 : Upd Non w w2 := ((Upd.alloc Non w _).then_alloc _).trans hu2 fun k hk h => h
    simp only []
    clear hu2
    replace hU2 := Lib.hid hU2
    replace hz := Lib.hid hz
    go_wp2_with (refine wpList_store_blk rfl 48 _ _ rfl w.heap.size #[.int .i64 (m : Int), .slice ka m kc, .slice pa n pcp, .int .i64 bf, .bool bd] _ _ rfl rfl hx rfl hs5.out (by simp [Value.oneCell']) ?_)
    intro w3 hx3 hu3
    replace hy := hu3.heap hy (by omega)
    have hU3 : Hid (Upd Non w w3) := Lib.hid (hU2.out.trans hu3 fun k hk h => by omega)
    replace hz : Hid (w.heap.size + 2 ≤ w3.heap.size) := Lib.hid (Nat.le_trans hz.out hu3.size)
    clear hx hU2 hu3
    obtain ⟨c0, f0⟩ := cells_of hx3
    have z3 : w.heap.size < w3.heap.size := by have := hz.out; omega
    have hown : Hid ((w3.alloc (.cells #[] 85)).ownsRow w3.heap.size 85 2 (.slice (some ⟨w3.heap.size, 0, none⟩) 0 0) 0 []) := Lib.hid (World.ownsRow_lit (size := 2) w3 #[] 0 (Nat.le_refl _) (Nat.zero_le _) rfl)
    have hsrc : Hid (Src Try.prog 2 46 (.slice pa n pcp) n (r.P.map wc).flatten (w3.alloc (.cells #[] 85))) := Lib.hid (Src.ofHas Try.underlying46 (hpw.out _ (hU3.out.then_alloc _)) (wc_one r.P))
    go_wp2_with (at_builtin; go_must (refine wpList_app rfl _ _ 46 46 rfl w3.heap.size 85 (.agg #[.int .i64 0, .string ⟨#[]⟩]) 2 24 Try.underlying46 hi2.out rfl _ 0 [] rfl hown.out _ n (r.P.map wc).flatten rfl hsrc.out (by unfold maxLen; omega) (by omega) (by simp) ?_))
    intro v4 w4 ho4 hu4 hb4
    replace hx := hu4.heap ((Upd.alloc Non w3 (.cells #[] 85)).heap hx3 fun h => h) (by simp [At, Value.ownBlock]; omega)
    replace hy := hu4.heap ((Upd.alloc Non w3 (.cells #[] 85)).heap hy fun h => h) (by have := hz.out; simp [At, Value.ownBlock]; omega)
    have hU4 : Hid (Upd Non w w4) := Lib.hid ((hU3.out.then_alloc _).trans hu4 fun k hk h => by have := hz.out; simp [At, Value.ownBlock] at h; omega)
    have hz4 : w3.heap.size ≤ w4.heap.size := Nat.le_trans (by simp) hu4.size
    clear hx3 hU3 hu4 c0 f0 hown hsrc hb4
    go_wp2_with fail
    refine (hF.out _).mono ?_
    rintro en w5 ⟨rfl, hu5⟩
    replace hx := hu5.heap hx fun h => h
    replace hy := hu5.heap hy fun h => h
    replace hU4 : Hid (Upd Non w w5) := Lib.hid (hU4.out.trans hu5 fun _ _ h => h)
    have ho5 := hu5.owns ho4 fun _ _ h => h
    replace hz4 : w3.heap.size ≤ w5.heap.size := Nat.le_trans hz4 hu5.size
    clear ho4 hu5
    obtain ⟨c0, f0⟩ := cells_of hx
    simp only []
    go_wp2_with (at_builtin; go_must (refine wpList_app1n rfl _ _ 46 rfl w3.heap.size 85 (.agg #[.int .i64 0, .string ⟨#[]⟩]) 2 24 Try.underlying46 hi2.out rfl _ _ _ rfl ho5 [.int .i64 (j : Int), .string ⟨(full s).toArray⟩] w5.heap.size rfl rfl rfl (by intro u hu; simp at hu; rcases hu with rfl | rfl <;> rfl) (by unfold maxLen; omega) (by omega) hz4 ?_))
    intro v6 w6 ho6 hu6 hb6
    have hg5 : ∀ k, At v4 k → w3.heap.size ≤ k := fun k hk => own_ge ho5 hk
    replace hx := hu6.heap hx fun h => by have := hg5 _ h; omega
    replace hy := hu6.heap hy fun h => by have := hg5 _ h; have := hz.out; omega
    have hU6 : Hid (Upd Non w w6) := Lib.hid (hU4.out.trans hu6 fun k hk h => by have := hg5 _ h; have := hz.out; omega)
    have hz6 : w3.heap.size ≤ w6.heap.size := Nat.le_trans hz4 hu6.size
    clear hU4 hu6 hb6 hg5 c0 f0 ho5
    obtain ⟨c0, f0⟩ := cells_of hx
    have hx7 := heap_setCell_same w6 w.heap.size 2 _ _ v6 hx
    have hy7 := (heap_setCell_other w6 ⟨w.heap.size, 2, none⟩ (w.heap.size + 1) v6 (by simp)).trans hy
    have hU7 : Hid (Upd Non w (w6.setCell ⟨w.heap.size, 2, none⟩ v6)) := Lib.hid (hU6.out.then_setCell (fun h => by simp at h) _)
    have hzz := hz.out
    have ho7 := ownsRow_setCell_below ho6 (a := ⟨w.heap.size, 2, none⟩) (by dsimp only; omega) v6
    simp only [Array.set!_eq_setIfInBounds, List.setIfInBounds_toArray, List.set_cons_succ, List.set_cons_zero] at hx7
    obtain ⟨c7, f7⟩ := cells_of hx7
    have hnw6 : ∀ k, At v6 k → w3.heap.size ≤ k ∧ k < w6.heap.size := fun k hk => ⟨own_ge ho6 hk, own_lt ho6 hk⟩
    obtain ⟨g6, cap6, rfl⟩ : ∃ g cap, v6 = .slice (some ⟨g, 0, none⟩) (n + 1) cap := by
      rcases ho6.2 with ⟨-, h1⟩ | ⟨g', cap', cur', h1, -⟩
      · simp at h1
      · exact ⟨g', cap', h1⟩
    replace ho6 := Lib.hid ho6
    replace ho7 := Lib.hid ho7
    replace hnw6 := Lib.hid hnw6
    go_wp2_with (refine wpList_store_blk rfl 48 _ _ rfl (w.heap.size + 1) #[.int .i64 (m : Int), .slice ka m kc, .slice (some ⟨g6, 0, none⟩) (n + 1) cap6, .int .i64 bf, .bool bd] _ _ rfl rfl hy7 rfl hs5.out (by simp [Value.oneCell']) ?_)
    intro w8 hy8 hu8
    have hU8 : Upd Non w w8 := hU7.out.trans hu8 fun k hk h => by omega
    have ho8 := hu8.owns ho7.out fun k hk h => by have := (hnw6.out k hk).1; omega
    have hz8 : w6.heap.size ≤ w8.heap.size := Nat.le_trans (by simp) hu8.size
    obtain ⟨c8, f8⟩ := cells_of hy8
    clear hy8 hu8 c7 f7 hx7 hy7 hx hy c0 f0 hU7 hU6
    go_wp2_with fail
    refine bodyPost_ret (v := .tuple #[.agg #[.int .i64 (m : Int), .slice ka m kc, .slice (some ⟨g6, 0, none⟩) (n + 1) cap6, .int .i64 bf, .bool bd], .int .i64 0]) (by simp [results, Try.results36, go_sem, c8]; try rfl) rfl ⟨.slice (some ⟨g6, 0, none⟩) (n + 1) cap6, by simp only [rfv, hRK.out, hm.out, hbf.out, hbd.out], ⟨?_, ?_⟩, hU8, fun k hk => .inr ?_⟩
    · simp only [hRK.out]; exact hkw.out _ hU8
    · have hh := has_of_owns ho8
      simp only [hRP.out, List.map_append, List.flatten_append, List.length_append, List.length_singleton, hn.out]
      simpa [wc, strV] using hh
    · have h9 := hnw6.out k hk
      have := hz.out
      omega
  · simp only [hb2, not_false_eq_true, if_true, ne_eq, decide_false, hm, hn, hf] at hb ⊢
    have hRK : Hid (r.burn.1.K = r.K) := Lib.hid (Dk.burn_K r)
    have hRP : Hid (r.burn.1.P = r.P) := Lib.hid (Dk.burn_P r)
    obtain ⟨R, hR⟩ : ∃ R, r.burn.1 = R := ⟨_, rfl⟩
    obtain ⟨e, he⟩ : ∃ e, r.burn.2 = e := ⟨_, rfl⟩
    have he20 : e = 20 := by
      rw [← he]; revert hb2
      unfold Dk.burn
      split
      · intro _; rfl
      · split <;> (intro h; exact absurd rfl h)
    rw [he, he20]
    rw [hR] at hRK hRP hbf hbd ⊢
    replace hbf := Lib.hid hbf
    replace hbd := Lib.hid hbd
    replace hm := Lib.hid hm
    replace hn := Lib.hid hn
    clear hP hK
    clear hb2 hwr hw h0 h1 hf1 hf2 hd hf hR he he20 h hs hF
    go_enter Try.func36, Try.ntmps36
    go_wp2_with fail
    refine (hb.out _).mono ?_
    rintro en w2 ⟨rfl, hu2⟩
    obtain ⟨hx, hy, hz⟩ := upd_two hu2 (fun _ h => h.elim)
    have hU2 : Upd Non w w2 := ((Upd.alloc Non w _).then_alloc _).trans hu2 fun k hk h => h
    have hs5 := Lib.hid size_disk5
    simp only []
    clear hu2
    replace hz := Lib.hid hz
    replace hU2 := Lib.hid hU2
    go_wp2_with (refine wpList_store_blk rfl 48 _ _ rfl w.heap.size #[.int .i64 (m : Int), .slice ka m kc, .slice pa n pcp, .int .i64 bf, .bool bd] _ _ rfl rfl hx rfl hs5.out (by simp [Value.oneCell']) ?_)
    intro w3 hx3 hu3
    replace hy := hu3.heap hy (by omega)
    have hU3 : Upd Non w w3 := hU2.out.trans hu3 fun k hk h => by omega
    clear hx hU2 hu3
    obtain ⟨c0, f0⟩ := cells_of hx3
    go_wp2_with (refine wpList_store_blk rfl 48 _ _ rfl (w.heap.size + 1) #[.int .i64 (m : Int), .slice ka m kc, .slice pa n pcp, .int .i64 bf, .bool bd] _ _ rfl rfl hy rfl hs5.out (by simp [Value.oneCell']) ?_)
    intro w4 hy4 hu4
    have hU4 : Upd Non w w4 := hU3.trans hu4 fun k hk h => by omega
    obtain ⟨c1, f1⟩ := cells_of hy4
    clear hy4 hu4 hx3 c0 f0 hU3 hy
    go_wp2_with fail
    refine bodyPost_ret (v := .tuple #[.agg #[.int .i64 (m : Int), .slice ka m kc, .slice pa n pcp, .int .i64 bf, .bool bd], .int .i64 20]) (by simp [results, Try.results36, go_sem, c1]; try rfl) rfl ⟨.slice pa n pcp, by simp only [rfv, hRK.out, hm.out, hbf.out, hbd.out], ⟨?_, ?_⟩, hU4, Nw.refl _ _ _⟩
    · rw [hRK.out]; exact hkw.out _ hU4
    · rw [hRP.out, hn.out]; exact hpw.out _ hU4
end Go.Proofs.Ytgkiglodhhlnmaa
