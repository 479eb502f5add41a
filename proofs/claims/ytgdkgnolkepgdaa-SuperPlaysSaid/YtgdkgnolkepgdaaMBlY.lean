/- The reference's kept. -/
import Derived.Test.YtgdkgnolkepgdaaMBlW
namespace Go.Amb
open Go.RowKit
set_option linter.unusedVariables false
/-- The sectors behind writes. -/
def keepL (K : List (List UInt8)) (l : List (List UInt8 × Nat)) : List (List UInt8) := l.foldl (fun K p => K.set p.2 p.1) K
theorem keepL_length (K : List (List UInt8)) (l : List (List UInt8 × Nat)) : (keepL K l).length = K.length := by
  unfold keepL
  induction l generalizing K with
  | nil => rfl
  | cons p l ih => rw [List.foldl_cons, ih, List.length_set]
theorem keepL_succ (K : List (List UInt8)) (l : List (List UInt8 × Nat)) (k : Nat) (hk : k < l.length) : keepL K (l.take (k + 1)) = (keepL K (l.take k)).set l[k].2 l[k].1 := by
  unfold keepL
  rw [List.take_add_one, List.getElem?_eq_getElem hk, Option.toList_some, List.foldl_append]
  rfl
theorem fl_at {w : World} {lv : Value} {l : List (List UInt8 × Nat)} (h : Has w 2 lv l.length (l.map wc).flatten) {k : Nat} (hk : k < l.length) : ∃ g off c, lv = .slice (some ⟨g, off, none⟩) l.length c ∧ w.cell? ⟨g, off + k * 2, none⟩ = some (.int .i64 (l[k].2 : Int)) ∧ w.cell? ⟨g, off + k * 2 + 1, none⟩ = some (.string ⟨l[k].1.toArray⟩) := by
  obtain ⟨_, a, c, rfl, -, -, h3⟩ := h
  obtain ⟨g, off, rfl, hc⟩ := h3.resolve_left (by omega)
  have hg := fun j (hj : j < 2) => fl_get (wc_len l) k j (by rw [List.length_map]; exact hk) hj
  refine ⟨g, off, c, rfl, hc (k * 2) _ ?_, ?_⟩
  · have := hg 0 (by omega); rw [Nat.add_zero, List.getElem_map] at this; exact this
  · rw [Nat.add_assoc]
    refine hc (k * 2 + 1) _ ?_
    have := hg 1 (by omega); rw [List.getElem_map] at this; exact this
theorem strV_one (K : List (List UInt8)) : ∀ u ∈ K.map strV, u.oneCell' = true := by
  intro u hu
  obtain ⟨x, -, rfl⟩ := List.mem_map.1 hu
  rfl
theorem own_free {w : World} {base g n cap : Nat} {e : TypeId} {size : Nat} {xs : List Value} (h : w.ownsRow base e size (.slice (some ⟨g, 0, none⟩) n cap) n xs) (k : Nat) (hk : k < xs.length) : w.cell? ⟨g, k, none⟩ = some (xs[k]) ∧ w.frozen? ⟨g, k, none⟩ = false := by
  refine ⟨?_, h.frozenAt k⟩
  have := h.cells (g := g) rfl k _ (List.getElem?_eq_getElem hk)
  rwa [Addr.add_lit, Nat.zero_add] at this
theorem upd_two {S : Nat → Prop} {w w1 : World} {ca cb : Array Value} {ea eb : TypeId} (hu : Upd S ((w.alloc (.cells ca ea)).alloc (.cells cb eb)) w1) (hS : ∀ k, S k → k < w.heap.size ∨ w.heap.size + 2 ≤ k) :
    w1.heap[w.heap.size]? = some (.cells ca ea (0, 0)) ∧ w1.heap[w.heap.size + 1]? = some (.cells cb eb (0, 0)) ∧ w.heap.size + 2 ≤ w1.heap.size := by
  have hs := hu.size
  simp at hs
  exact ⟨hu.heap (heap_alloc2_old w (.cells ca ea) (.cells cb eb)) fun h => by have := hS _ h; omega, hu.heap (heap_alloc2_new w (.cells ca ea) (.cells cb eb)) fun h => by have := hS _ h; omega, by omega⟩
end Go.Amb
namespace Go.Proofs.Ytgdkgnolkepgdaa
open Go.RowKit Go.Amb Go.Shelf
set_option linter.unusedVariables false
set_option linter.unusedSimpArgs false
set_option maxRecDepth 100000
theorem info_str : (Try.prog.info? 9).map (fun i => (i.zero, i.size, i.bytes)) = some (some (.string ⟨#[]⟩), 1, 16) := by kernel_rfl
set_option maxHeartbeats 4000000 in
theorem refKept (r : Dk) (kv pv lv : Value) (l : List (List UInt8 × Nat)) (w : World) (h : RAt w r kv pv) (hpv : ∃ a n c, pv = .slice a n c) (hL : Has w 2 lv l.length (l.map wc).flatten) (hi : ∀ p ∈ l, p.2 < r.K.length) (h1 : 1 ≤ r.K.length) (h2 : r.K.length ≤ 1000000) (h3 : l.length ≤ 1000000) :
    Calls Try.prog 52 #[rfv r kv pv, lv] w (fun en w' => ∃ kv', en = .returned (rfv { r with K := keepL r.K l, P := [] } kv' (.slice none 0 0)) ∧ RAt w' { r with K := keepL r.K l, P := [] } kv' (.slice none 0 0) ∧ Upd Non w w' ∧ ∀ k, At kv' k → w.heap.size ≤ k ∧ k < w'.heap.size) := by
  obtain ⟨pa, pn, pcp, rfl⟩ := hpv
  obtain ⟨K, P, f, dd⟩ := r
  simp only at hi h1 h2
  have hK := h.k
  simp only at hK
  clear h
  obtain ⟨_, ka, kc, rfl, -⟩ := id hK
  obtain ⟨_, la, lc, rfl, -⟩ := id hL
  unfold rfv
  simp only [keepL_length]
  obtain ⟨n, hn⟩ : ∃ n, K.length = n := ⟨_, rfl⟩
  obtain ⟨m, hm⟩ : ∃ m, l.length = m := ⟨_, rfl⟩
  rw [hn] at h1 h2 hi
  have hKs := hK
  rw [hn] at hK ⊢
  rw [hm] at hL h3 ⊢
  have hi2 := Lib.hid info_str
  obtain ⟨W1, hW1⟩ : ∃ W1 : World, W1 = (w.alloc (.cells #[.int .i64 (n : Int), .slice ka n kc, .slice pa pn pcp, .int .i64 f, .bool dd] 64)).alloc (.cells #[.int .i64 0, .slice none 0 0, .slice none 0 0, .int .i64 0, .bool false] 64) := ⟨_, rfl⟩
  have hK1 : Has (W1.alloc (.cells #[] 9)) 1 (.slice ka n kc) n (K.map strV) := by
    subst hW1
    refine hK.upd ?_ (fun _ _ h => h)
    (repeat (first | (with_reducible exact Upd.refl _ _) | (with_reducible assumption) | (with_reducible refine Upd.then_drew ?_) | (with_reducible refine Upd.then_drewN ?_ _) | (with_reducible refine Upd.then_alloc ?_ _) | (with_reducible refine Upd.then_setCell ?_ (fun h => absurd h (by simp <;> omega)) _) | (with_reducible refine Upd.trans ?_ (Upd.non (by assumption)) (fun _ _ h => h))))
  have hz1 : W1.heap.size = w.heap.size + 1 + 1 := by subst hW1; simp
  have hsrc : Src Try.prog 1 61 (.slice ka n kc) n (K.map strV) (W1.alloc (.cells #[] 9)) := Src.ofHas Try.underlying61 hK1 (strV_one K)
  have hown : (W1.alloc (.cells #[] 9)).ownsRow (w.heap.size + 1 + 1) 9 1 (.slice (some ⟨w.heap.size + 1 + 1, 0, none⟩) 0 0) 0 [] := by
    have := World.ownsRow_lit (base := w.heap.size + 1 + 1) (e := 9) (size := 1) W1 #[] 0 (by omega) (Nat.zero_le _) rfl
    rw [hz1] at this
    exact this
  have hz2 : w.heap.size + 1 + 1 ≤ (W1.alloc (.cells #[] 9)).heap.size := by simp; omega
  subst hW1
  replace hsrc := Lib.hid hsrc
  replace hown := Lib.hid hown
  replace hz2 := Lib.hid hz2
  replace hn := Lib.hid hn
  replace hm := Lib.hid hm
  replace h1 := Lib.hid h1
  replace hi := Lib.hid hi
  clear hK hK1 hKs hz1
  go_enter Try.func52, Try.ntmps52
  go_wp2_with (at_builtin; go_must (refine wpList_app rfl _ _ 61 61 rfl (w.heap.size + 1 + 1) 9 (.string ⟨#[]⟩) 1 16 Try.underlying61 hi2.out rfl _ 0 [] rfl hown.out _ n (K.map strV) rfl hsrc.out (by unfold maxLen; omega) (by omega) hz2.out ?_))
  intro v2 w2 ho2 hu2 hb2
  have hu2' : Upd (fun k => k = w.heap.size + 1 + 1) ((w.alloc (.cells #[.int .i64 (n : Int), .slice ka n kc, .slice pa pn pcp, .int .i64 f, .bool dd] 64)).alloc (.cells #[.int .i64 0, .slice none 0 0, .slice none 0 0, .int .i64 0, .bool false] 64)) w2 :=
    (Upd.alloc _ _ _).trans hu2 fun k _ hk => by simpa [At, Value.ownBlock] using hk.symm
  obtain ⟨hx, hy, hz⟩ := upd_two hu2' (fun k hk => by omega)
  have hU2 : Upd Non w w2 := ((Upd.alloc Non w _).then_alloc _).trans hu2' fun k hk h => by omega
  clear hu2 hu2' hb2 hsrc hown hz2
  obtain ⟨g, cap, rfl⟩ : ∃ g cap, v2 = .slice (some ⟨g, 0, none⟩) n cap := by
    rcases ho2.2 with ⟨h1', h2'⟩ | ⟨g, cap, cur, h1', -⟩
    · have := h1.out; omega
    · exact ⟨g, cap, by simpa using h1'⟩
  have hg1 := (own_lt ho2 (k := g) rfl)
  have hg2 := own_ge ho2 (k := g) rfl
  obtain ⟨c0, f0⟩ := cells_of hx
  have ho3 := ownsRow_setCell_below ho2 (a := ⟨w.heap.size, 1, none⟩) (by dsimp only; omega) (.slice (some ⟨g, 0, none⟩) n cap)
  have hx3 := heap_setCell_same w2 w.heap.size 1 _ _ (.slice (some ⟨g, 0, none⟩) n cap) hx
  have hy3 := (heap_setCell_other w2 ⟨w.heap.size, 1, none⟩ (w.heap.size + 1) (.slice (some ⟨g, 0, none⟩) n cap) (by simp)).trans hy
  have hU3 : Upd Non w (w2.setCell ⟨w.heap.size, 1, none⟩ (.slice (some ⟨g, 0, none⟩) n cap)) := hU2.then_setCell (fun h => by simp at h) _
  simp only [Array.set!_eq_setIfInBounds, List.setIfInBounds_toArray, List.set_cons_succ, List.set_cons_zero] at hx3
  replace hz := Lib.hid hz
  replace hg1 := Lib.hid hg1
  replace hg2 := Lib.hid hg2
  go_wp2_with fail
  obtain ⟨w3, hw3⟩ : ∃ w3, w2.setCell ⟨w.heap.size, 1, none⟩ (.slice (some ⟨g, 0, none⟩) n cap) = w3 := ⟨_, rfl⟩
  rw [hw3] at ho3 hx3 hy3 hU3 ⊢
  clear c0 f0 hx hy ho2 hU2
  go_loopw [5] (fun kv wr => ∃ k : Nat, kv = .int .i64 (k : Int) ∧ k ≤ m ∧ wr.heap[w.heap.size]? = some (.cells #[.int .i64 (n : Int), .slice (some ⟨g, 0, none⟩) n cap, .slice pa pn pcp, .int .i64 f, .bool dd] 64 (0, 0)) ∧ wr.heap[w.heap.size + 1]? = some (.cells #[.int .i64 0, .slice none 0 0, .slice none 0 0, .int .i64 0, .bool false] 64 (0, 0)) ∧ wr.ownsRow (w.heap.size + 1 + 1) 9 1 (.slice (some ⟨g, 0, none⟩) n cap) n ((keepL K (l.take k)).map strV) ∧ Upd Non w wr) (fun kv _ => m - (intOf kv).toNat)
  case atStart => exact ⟨0, rfl, Nat.zero_le _, hx3, hy3, ho3, hU3⟩
  case round =>
    obtain ⟨k, rfl, hk, hxr, hyr, hor, hur⟩ := hrel
    obtain ⟨c0, f0⟩ := cells_of hxr
    obtain ⟨c1, f1⟩ := cells_of hyr
    clear hx3 hy3 ho3 hU3 hw3
    by_cases hkm : k < m
    · have hkl : k < l.length := by rw [hm.out]; exact hkm
      obtain ⟨gp, op, cp, hlv, p0, p1⟩ := fl_at (w := w) (by rw [hm.out]; exact hL) hkl
      injection hlv with e1 e2 e3
      clear e2 e3
      subst e1
      replace p0 := hur.cell p0 fun h => h
      replace p1 := hur.cell p1 fun h => h
      have hpn := hi.out _ (List.getElem_mem hkl)
      have hks := keepL_succ K l k hkl
      have hKl : ((keepL K (l.take k)).map strV).length = n := by rw [List.length_map, keepL_length, hn.out]
      obtain ⟨pi, hpi⟩ : ∃ pi, l[k].2 = pi := ⟨_, rfl⟩
      obtain ⟨ps, hps⟩ : ∃ ps, l[k].1 = ps := ⟨_, rfl⟩
      rw [hpi] at p0 hpn hks
      rw [hps] at p1 hks
      obtain ⟨q0, q1⟩ := own_free hor pi (by omega)
      have hset := hor.stored pi (.string ⟨ps.toArray⟩)
      have hset1 : Hid ((wr.setCell ⟨g, pi, none⟩ (.string ⟨ps.toArray⟩)).ownsRow (w.heap.size + 1 + 1) 9 1 (.slice (some ⟨g, 0, none⟩) n cap) n ((keepL K (l.take (k + 1))).map strV)) := by
        have := hset.1
        rw [hks, List.map_set]
        exact this
      have hx4 : Hid _ := Lib.hid ((heap_setCell_other wr ⟨g, pi, none⟩ w.heap.size (.string ⟨ps.toArray⟩) (by have := hg2.out; simp; omega)).trans hxr)
      have hy4 : Hid _ := Lib.hid ((heap_setCell_other wr ⟨g, pi, none⟩ (w.heap.size + 1) (.string ⟨ps.toArray⟩) (by have := hg2.out; simp; omega)).trans hyr)
      have hu4 : Hid (Upd Non w (wr.setCell ⟨g, pi, none⟩ (.string ⟨ps.toArray⟩))) := Lib.hid (hur.then_setCell (fun h => by have := hg2.out; simp at h; omega) _)
      generalize (((keepL K (l.take k)).map strV)[pi]'_) = old at q0
      clear hpi hps
      clear hset hks hKl hkl hor hxr hyr hL hi
      have hk1 : (k : Int) < (m : Int) := by omega
      have hk0 : (0 : Int) ≤ (k : Int) := by omega
      have hp1 : (pi : Int) < (n : Int) := by omega
      have hp0 : (0 : Int) ≤ (pi : Int) := by omega
      replace hur := Lib.hid hur
      go_wp2_with fail
      (refine wp_tail 13 (by kernel_rfl) (by kernel_rfl) ?_; simp only [List.take_succ_cons, List.take_zero, List.drop_succ_cons, List.drop_zero]; (repeat still_step); refine wpStill_nil ?_)
      go_wp2_with fail
      go_roundw
      case rel => exact ⟨k + 1, by go_num, by omega, hx4.out, hy4.out, hset1.out, hu4.out.then_drew⟩
      case measure => simp [intOf]; omega
    · obtain rfl : k = m := by omega
      rw [List.take_of_length_le (by rw [hm.out]; exact Nat.le_refl _)] at hor
      replace hor := Lib.hid hor
      replace hur := Lib.hid hur
      clear hL hi
      go_wp2_with fail
      refine bodyPost_ret (v := .agg #[.int .i64 (n : Int), .slice (some ⟨g, 0, none⟩) n cap, .slice none 0 0, .int .i64 f, .bool dd]) (by simp [results, Try.results52, go_sem, c1, f1]; try rfl) rfl ⟨.slice (some ⟨g, 0, none⟩) n cap, rfl, ⟨?_, ⟨by simp, none, 0, rfl, Nat.le_refl _, Nat.zero_le _, .inl rfl⟩⟩, ?_, fun k hk => ?_⟩
      · show Has _ 1 _ (keepL K l).length ((keepL K l).map strV)
        rw [keepL_length, hn.out]
        refine has_of_owns (base := w.heap.size + 1 + 1) (e := 9) ?_
        refine ownsRow_setCell_below ?_ (by dsimp only; omega) _
        refine ownsRow_setCell_below ?_ (by dsimp only; omega) _
        refine ownsRow_setCell_below ?_ (by dsimp only; omega) _
        refine ownsRow_setCell_below ?_ (by dsimp only; omega) _
        refine ownsRow_setCell_below ?_ (by dsimp only; omega) _
        refine ownsRow_setCell_below ?_ (by dsimp only; omega) _
        exact hor.out
      · have := hur.out
        (repeat (first | (with_reducible exact Upd.refl _ _) | (with_reducible assumption) | (with_reducible refine Upd.then_drew ?_) | (with_reducible refine Upd.then_drewN ?_ _) | (with_reducible refine Upd.then_alloc ?_ _) | (with_reducible refine Upd.then_setCell ?_ (fun h => absurd h (by simp <;> omega)) _) | (with_reducible refine Upd.trans ?_ (Upd.non (by assumption)) (fun _ _ h => h))))
      · have := hg2.out
        have h5 := own_lt hor.out (k := g) rfl
        simp [At, Value.ownBlock] at hk
        subst hk
        exact ⟨by omega, by simpa using h5⟩
end Go.Proofs.Ytgdkgnolkepgdaa

namespace Go.Amb
open Go.RowKit
set_option linter.unusedVariables false
theorem wc_one (P : List (List UInt8 × Nat)) : ∀ u ∈ (P.map wc).flatten, u.oneCell' = true := by
  intro u hu
  obtain ⟨s, hs, hu⟩ := List.mem_flatten.1 hu
  obtain ⟨x, -, rfl⟩ := List.mem_map.1 hs
  simp [wc] at hu
  rcases hu with rfl | rfl <;> rfl
/-- A whole block is stored. -/
theorem wpList_store_blk {P : Program} {ops : Array Oper} {rest : List Oper} {op : Oper} {a : Act} {w : World} {Q : Exit → Act → World → Prop} (hgd : op.guard = none) (ty : TypeId) (x y : Operand) (ho : op.op = .store ty x y)
    (b : Nat) (cells old : Array Value) (t : TypeId) (hx : a.eval x = .pointer (some ⟨b, 0, none⟩)) (hy : a.eval y = .agg cells) (hb : w.heap[b]? = some (.cells old t (0, 0))) (hl : cells.size = old.size)
    (hi : (P.info? ty).map (·.size) = some cells.size) (h1 : cells.all (·.oneCell') = true)
    (h : ∀ w', w'.heap[b]? = some (.cells cells t (0, 0)) → Upd (fun k => k = b) w w' → wpList P ops Q rest (a.put op.dst undef) w') : wpList P ops Q (op :: rest) a w := by
  have hc := cells_of hb
  refine wpList_store_mid hgd ty x y ho b 0 cells hx hy (fun j hj => ⟨?_, hc.2 _⟩) hi h1 (h _ ?_ (upd_setCells b cells.toList 0 w))
  · rw [hc.1, Array.getElem?_eq_getElem (by omega)]; rfl
  · rw [heap_setCells b t cells.toList 0 w old hb (by simp; omega)]
    rw [List.drop_of_length_le (by simp; omega)]
    simp
end Go.Amb
namespace Go.Proofs.Ytgdkgnolkepgdaa
open Go.RowKit Go.Amb Go.Shelf
set_option linter.unusedVariables false
set_option linter.unusedSimpArgs false
set_option maxRecDepth 100000
theorem Same.within {d r : Dk} (h : Same d r) (i : Int) : d.within i = r.within i := by unfold Dk.within; rw [h.k, h.dd, List.length_map]
theorem Same.burn {d r : Dk} (h : Same d r) : Same d.burn.1 r.burn.1 ∧ d.burn.2 = r.burn.2 := by
  unfold Dk.burn
  rw [h.f]
  by_cases h0 : r.f = 0
  · rw [if_pos h0, if_pos h0]; exact ⟨⟨h.k, h.l, h.p, rfl, rfl⟩, rfl⟩
  · rw [if_neg h0, if_neg h0]
    by_cases h1 : 0 < r.f
    · rw [if_pos h1, if_pos h1]; exact ⟨⟨h.k, h.l, h.p, rfl, h.dd⟩, rfl⟩
    · rw [if_neg h1, if_neg h1]; exact ⟨h, rfl⟩
theorem Same.write {d r : Dk} (h : Same d r) (i : Int) (s : List UInt8) : Same (d.write i s).1 (r.write i s).1 ∧ (d.write i s).2 = (r.write i s).2 := by
  have hb := h.burn
  unfold Dk.write
  rw [h.within i, hb.2]
  by_cases h1 : r.within i ≠ 0
  · rw [if_pos h1, if_pos h1]; exact ⟨h, rfl⟩
  · rw [if_neg h1, if_neg h1]
    by_cases h2 : 128 < s.length
    · rw [if_pos h2, if_pos h2]; exact ⟨h, rfl⟩
    · rw [if_neg h2, if_neg h2]
      by_cases h3 : r.burn.2 ≠ 0
      · rw [if_pos h3, if_pos h3]; exact hb
      · rw [if_neg h3, if_neg h3]
        exact ⟨⟨hb.1.k, hb.1.l, by simp only [hb.1.p], hb.1.f, hb.1.dd⟩, rfl⟩
theorem burn_eq (r : Dk) (kv pv : Value) : rfv r.burn.1 kv pv = .agg #[.int .i64 (r.K.length : Nat), kv, pv, .int .i64 r.burn.1.f, .bool r.burn.1.dd] := by
  unfold rfv; rw [Dk.burn_K]
theorem info_rwrite : (Try.prog.info? 98).map (fun i => (i.zero, i.size, i.bytes)) = some (some (.agg #[.int .i64 0, .string ⟨#[]⟩]), 2, 24) := by kernel_rfl
theorem size_disk5 : (Try.prog.info? 64).map (·.size) = some 5 := by kernel_rfl
theorem RAt.keepP {w w' : World} {r r' : Dk} {kv pv : Value} (h : RAt w r kv pv) (hu : Upd Non w w') (hk : r'.K = r.K) (hp : r'.P = r.P) : RAt w' r' kv pv := by
  have h2 := h.non hu
  exact ⟨by rw [hk]; exact h2.k, by rw [hp]; exact h2.p⟩
def Wrote (r : Dk) (kv pv : Value) (w : World) (r' : Dk) (e : Int) (en : Ending) (w' : World) : Prop :=
  ∃ pv', en = .returned (.tuple #[rfv r' kv pv', .int .i64 e]) ∧ RAt w' r' kv pv' ∧ Upd Non w w' ∧ Nw w w' pv pv'
/-- A write refused. -/
theorem refWriteNo (r : Dk) (kv pv : Value) (w : World) (h : RAt w r kv pv) (i : Int) (s : List UInt8) (hs : s.length ≤ 1000000) (hno : r.within i ≠ 0 ∨ 128 < s.length) :
    Calls Try.prog 23 #[rfv r kv pv, .int .i64 i, .string ⟨s.toArray⟩] w (Ret (.tuple #[rfv (r.write i s).1 kv pv, .int .i64 (r.write i s).2]) w) := by
  obtain ⟨_, ka, kc, rfl, -⟩ := id h.k
  obtain ⟨_, pa, pcp, rfl, -⟩ := id h.p
  clear h
  have hlen : (⟨s.toArray⟩ : ByteArray).size = s.length := by simp [ByteArray.size]
  obtain ⟨K, P, f, dd⟩ := r
  unfold Dk.write rfv
  obtain ⟨m, hm⟩ : ∃ m, K.length = m := ⟨_, rfl⟩
  obtain ⟨n, hn⟩ : ∃ n, P.length = n := ⟨_, rfl⟩
  unfold Dk.within at hno ⊢
  simp only [hm, hn] at hno ⊢
  cases dd with
  | true =>
    simp only [if_true, show ¬ (20 : Int) = 0 by omega, not_false_eq_true, if_false, ne_eq, hm, hn] at hno ⊢
    clear hm hn hno
    go_enter Try.func23, Try.ntmps23
    go_wp2_with fail
    refine bodyPost_ret (v := .tuple #[.agg #[.int .i64 (m : Int), .slice ka m kc, .slice pa n pcp, .int .i64 f, .bool true], .int .i64 20]) (by simp [results, Try.results23, go_sem]; try rfl) rfl ⟨rfl, by (repeat (first | (with_reducible exact Upd.refl _ _) | (with_reducible assumption) | (with_reducible refine Upd.then_drew ?_) | (with_reducible refine Upd.then_drewN ?_ _) | (with_reducible refine Upd.then_alloc ?_ _) | (with_reducible refine Upd.then_setCell ?_ (fun h => absurd h (by simp <;> omega)) _) | (with_reducible refine Upd.trans ?_ (Upd.non (by assumption)) (fun _ _ h => h))))⟩
  | false =>
    simp only [Bool.false_eq_true, if_false] at hno ⊢
    by_cases h1 : i < 0
    · simp only [h1, true_or, if_true, show ¬ (6 : Int) = 0 by omega, not_false_eq_true, ne_eq, hm, hn]
      clear hm hn hno
      go_enter Try.func23, Try.ntmps23
      go_wp2_with fail
      refine bodyPost_ret (v := .tuple #[.agg #[.int .i64 (m : Int), .slice ka m kc, .slice pa n pcp, .int .i64 f, .bool false], .int .i64 6]) (by simp [results, Try.results23, go_sem]; try rfl) rfl ⟨rfl, by (repeat (first | (with_reducible exact Upd.refl _ _) | (with_reducible assumption) | (with_reducible refine Upd.then_drew ?_) | (with_reducible refine Upd.then_drewN ?_ _) | (with_reducible refine Upd.then_alloc ?_ _) | (with_reducible refine Upd.then_setCell ?_ (fun h => absurd h (by simp <;> omega)) _) | (with_reducible refine Upd.trans ?_ (Upd.non (by assumption)) (fun _ _ h => h))))⟩
    · by_cases h2 : (m : Int) ≤ i
      · simp only [h1, h2, or_true, if_true, show ¬ (6 : Int) = 0 by omega, not_false_eq_true, ne_eq, hm, hn]
        have h3 : (i < 0) = False := eq_false h1
        have h4 : 0 ≤ i := by omega
        clear hm hn hno h1
        go_enter Try.func23, Try.ntmps23
        go_wp2_with fail
        refine bodyPost_ret (v := .tuple #[.agg #[.int .i64 (m : Int), .slice ka m kc, .slice pa n pcp, .int .i64 f, .bool false], .int .i64 6]) (by simp [results, Try.results23, go_sem]; try rfl) rfl ⟨rfl, by (repeat (first | (with_reducible exact Upd.refl _ _) | (with_reducible assumption) | (with_reducible refine Upd.then_drew ?_) | (with_reducible refine Upd.then_drewN ?_ _) | (with_reducible refine Upd.then_alloc ?_ _) | (with_reducible refine Upd.then_setCell ?_ (fun h => absurd h (by simp <;> omega)) _) | (with_reducible refine Upd.trans ?_ (Upd.non (by assumption)) (fun _ _ h => h))))⟩
      · simp only [h1, h2, or_false, if_false, ne_eq, not_true_eq_false, false_or] at hno ⊢
        simp only [hno, if_true, hm, hn]
        have h3 : (i < 0) = False := eq_false h1
        have h4 : 0 ≤ i := by omega
        have h5 : i < m := by omega
        have h6 : ((m : Int) ≤ i) = False := eq_false h2
        have h7 : (128 : Int) < (s.length : Int) := by omega
        clear hm hn hno h1 h2
        go_enter Try.func23, Try.ntmps23
        go_wp2_with fail
        refine bodyPost_ret (v := .tuple #[.agg #[.int .i64 (m : Int), .slice ka m kc, .slice pa n pcp, .int .i64 f, .bool false], .int .i64 5]) (by simp [results, Try.results23, go_sem]; try rfl) rfl ⟨rfl, by (repeat (first | (with_reducible exact Upd.refl _ _) | (with_reducible assumption) | (with_reducible refine Upd.then_drew ?_) | (with_reducible refine Upd.then_drewN ?_ _) | (with_reducible refine Upd.then_alloc ?_ _) | (with_reducible refine Upd.then_setCell ?_ (fun h => absurd h (by simp <;> omega)) _) | (with_reducible refine Upd.trans ?_ (Upd.non (by assumption)) (fun _ _ h => h))))⟩
set_option maxHeartbeats 4000000 in
/-- A write that is not refused. -/
theorem refWriteYes (r : Dk) (kv pv : Value) (w : World) (h : RAt w r kv pv) (hP : r.P.length ≤ 1000000) (hK : r.K.length ≤ 1000000) (hf1 : -1 ≤ r.f) (hf2 : r.f < 9223372036854775808) (j : Nat) (hw : r.within (j : Int) = 0) (s : List UInt8) (hs : s.length ≤ 128) :
    Calls Try.prog 23 #[rfv r kv pv, .int .i64 (j : Int), .string ⟨s.toArray⟩] w (Wrote r kv pv w (r.write (j : Int) s).1 (r.write (j : Int) s).2) := by
  obtain ⟨_, ka, kc, rfl, -⟩ := id h.k
  obtain ⟨_, pa, pcp, rfl, -⟩ := id h.p
  have hlen : (⟨s.toArray⟩ : ByteArray).size = s.length := by simp [ByteArray.size]
  have hb := Lib.hid (fun w => refBurn r (.slice ka r.K.length kc) (.slice pa r.P.length pcp) w ⟨_, _, _, rfl⟩ ⟨_, _, _, rfl⟩ hf1 hf2)
  have hF := Lib.hid (fun w => refFull s hs w)
  simp only [burn_eq] at hb
  obtain ⟨hd, h0, h1⟩ := Dk.within_0 hw
  have hwr : r.write (j : Int) s = if r.burn.2 ≠ 0 then r.burn else ({ r.burn.1 with P := r.burn.1.P ++ [(full s, j)] }, 0) := by
    unfold Dk.write
    rw [if_neg (by rw [hw]; simp), if_neg (by omega), Int.toNat_natCast]
  rw [hwr]
  simp only [rfv, hd] at hb ⊢
  obtain ⟨m, hm⟩ : ∃ m, r.K.length = m := ⟨_, rfl⟩
  obtain ⟨n, hn⟩ : ∃ n, r.P.length = n := ⟨_, rfl⟩
  obtain ⟨f, hf⟩ : ∃ f, r.f = f := ⟨_, rfl⟩
  obtain ⟨bf, hbf⟩ : ∃ bf, r.burn.1.f = bf := ⟨_, rfl⟩
  obtain ⟨bd, hbd⟩ : ∃ bd, r.burn.1.dd = bd := ⟨_, rfl⟩
  have hpw : Hid (∀ w', Upd Non w w' → Has w' 2 (.slice pa n pcp) n (r.P.map wc).flatten) := Lib.hid (fun w' hu => by have := (h.non hu).p; rw [hn] at this; exact this)
  have hkw : Hid (∀ w', Upd Non w w' → Has w' 1 (.slice ka m kc) r.K.length (r.K.map strV)) := Lib.hid (fun w' hu => by have := (h.non hu).k; rw [hm] at this ⊢; exact this)
  have h3 : ((j : Int) < 0) = False := eq_false (by omega)
  have h4 : (0 : Int) ≤ (j : Int) := by omega
  have h5 : (j : Int) < (m : Int) := by omega
  have h6 : ((m : Int) ≤ (j : Int)) = False := eq_false (by omega)
  have h7 : ((128 : Int) < (s.length : Int)) = False := eq_false (by omega)
  have h8 : (s.length : Int) ≤ 128 := by omega
  rw [hm, hn, hf, hbf, hbd] at hb
  by_cases hb2 : r.burn.2 = 0
  · simp only [hb2, not_true_eq_false, if_false, ne_eq, decide_true, hm, hn, hf] at hb ⊢
    have hRK : Hid (r.burn.1.K = r.K) := Lib.hid (Dk.burn_K r)
    have hRP : Hid (r.burn.1.P = r.P) := Lib.hid (Dk.burn_P r)
    obtain ⟨R, hR⟩ : ∃ R, r.burn.1 = R := ⟨_, rfl⟩
    rw [hR] at hRK hRP hbf hbd ⊢
    have hi2 := Lib.hid info_rwrite
    have hs5 := Lib.hid size_disk5
    replace hbf := Lib.hid hbf
    replace hbd := Lib.hid hbd
    have hn3 : n ≤ 1000000 := by omega
    replace hm := Lib.hid hm
    replace hn := Lib.hid hn
    clear hP hK
    clear hb2 hwr hw h0 h1 hf1 hf2 hd hf hR h hs
    go_enter Try.func23, Try.ntmps23
    go_wp2_with fail
    refine (hb.out _).mono ?_
    rintro en w2 ⟨rfl, hu2⟩
    obtain ⟨hx, hy, hz⟩ := upd_two hu2 (fun _ h => h.elim)
    have hU2 : Upd Non w w2 := ((Upd.alloc Non w _).then_alloc _).trans hu2 fun k hk h => h
    simp only []
    clear hu2
    replace hU2 := Lib.hid hU2
    replace hz := Lib.hid hz
    go_wp2_with (refine wpList_store_blk rfl 64 _ _ rfl w.heap.size #[.int .i64 (m : Int), .slice ka m kc, .slice pa n pcp, .int .i64 bf, .bool bd] _ _ rfl rfl hx rfl hs5.out (by simp [Value.oneCell']) ?_)
    intro w3 hx3 hu3
    replace hy := hu3.heap hy (by omega)
    have hU3 : Hid (Upd Non w w3) := Lib.hid (hU2.out.trans hu3 fun k hk h => by omega)
    replace hz : Hid (w.heap.size + 2 ≤ w3.heap.size) := Lib.hid (Nat.le_trans hz.out hu3.size)
    clear hx hU2 hu3
    obtain ⟨c0, f0⟩ := cells_of hx3
    have z3 : w.heap.size < w3.heap.size := by have := hz.out; omega
    have hown : Hid ((w3.alloc (.cells #[] 98)).ownsRow w3.heap.size 98 2 (.slice (some ⟨w3.heap.size, 0, none⟩) 0 0) 0 []) := Lib.hid (World.ownsRow_lit (size := 2) w3 #[] 0 (Nat.le_refl _) (Nat.zero_le _) rfl)
    have hsrc : Hid (Src Try.prog 2 62 (.slice pa n pcp) n (r.P.map wc).flatten (w3.alloc (.cells #[] 98))) := Lib.hid (Src.ofHas Try.underlying62 (hpw.out _ (hU3.out.then_alloc _)) (wc_one r.P))
    go_wp2_with (at_builtin; go_must (refine wpList_app rfl _ _ 62 62 rfl w3.heap.size 98 (.agg #[.int .i64 0, .string ⟨#[]⟩]) 2 24 Try.underlying62 hi2.out rfl _ 0 [] rfl hown.out _ n (r.P.map wc).flatten rfl hsrc.out (by unfold maxLen; omega) (by omega) (by simp) ?_))
    intro v4 w4 ho4 hu4 hb4
    replace hx := hu4.heap ((Upd.alloc Non w3 (.cells #[] 98)).heap hx3 fun h => h) (by simp [At, Value.ownBlock]; omega)
    replace hy := hu4.heap ((Upd.alloc Non w3 (.cells #[] 98)).heap hy fun h => h) (by have := hz.out; simp [At, Value.ownBlock]; omega)
    have hU4 : Hid (Upd Non w w4) := Lib.hid ((hU3.out.then_alloc _).trans hu4 fun k hk h => by have := hz.out; simp [At, Value.ownBlock] at h; omega)
    have hz4 : w3.heap.size ≤ w4.heap.size := Nat.le_trans (by simp) hu4.size
    clear hx3 hU3 hu4 c0 f0 hown hsrc hb4
    go_wp2_with fail
    refine (hF.out _).mono ?_
    rintro en w5 ⟨rfl, hu5⟩
    replace hx := hu5.heap hx fun h => h
    replace hy := hu5.heap hy fun h => h
    replace hU4 : Hid (Upd Non w w5) := Lib.hid (hU4.out.trans hu5 fun _ _ h => h)
    have ho5 := hu5.owns ho4 fun _ _ h => h
    replace hz4 : w3.heap.size ≤ w5.heap.size := Nat.le_trans hz4 hu5.size
    clear ho4 hu5
    obtain ⟨c0, f0⟩ := cells_of hx
    simp only []
    go_wp2_with (at_builtin; go_must (refine wpList_app1n rfl _ _ 62 rfl w3.heap.size 98 (.agg #[.int .i64 0, .string ⟨#[]⟩]) 2 24 Try.underlying62 hi2.out rfl _ _ _ rfl ho5 [.int .i64 (j : Int), .string ⟨(full s).toArray⟩] w5.heap.size rfl rfl rfl (by intro u hu; simp at hu; rcases hu with rfl | rfl <;> rfl) (by unfold maxLen; omega) (by omega) hz4 ?_))
    intro v6 w6 ho6 hu6 hb6
    have hg5 : ∀ k, At v4 k → w3.heap.size ≤ k := fun k hk => own_ge ho5 hk
    replace hx := hu6.heap hx fun h => by have := hg5 _ h; omega
    replace hy := hu6.heap hy fun h => by have := hg5 _ h; have := hz.out; omega
    have hU6 : Hid (Upd Non w w6) := Lib.hid (hU4.out.trans hu6 fun k hk h => by have := hg5 _ h; have := hz.out; omega)
    have hz6 : w3.heap.size ≤ w6.heap.size := Nat.le_trans hz4 hu6.size
    clear hU4 hu6 hb6 hg5 c0 f0 ho5
    obtain ⟨c0, f0⟩ := cells_of hx
    have hx7 := heap_setCell_same w6 w.heap.size 2 _ _ v6 hx
    have hy7 := (heap_setCell_other w6 ⟨w.heap.size, 2, none⟩ (w.heap.size + 1) v6 (by simp)).trans hy
    have hU7 : Hid (Upd Non w (w6.setCell ⟨w.heap.size, 2, none⟩ v6)) := Lib.hid (hU6.out.then_setCell (fun h => by simp at h) _)
    have hzz := hz.out
    have ho7 := ownsRow_setCell_below ho6 (a := ⟨w.heap.size, 2, none⟩) (by dsimp only; omega) v6
    simp only [Array.set!_eq_setIfInBounds, List.setIfInBounds_toArray, List.set_cons_succ, List.set_cons_zero] at hx7
    obtain ⟨c7, f7⟩ := cells_of hx7
    have hnw6 : ∀ k, At v6 k → w3.heap.size ≤ k ∧ k < w6.heap.size := fun k hk => ⟨own_ge ho6 hk, own_lt ho6 hk⟩
    obtain ⟨g6, cap6, rfl⟩ : ∃ g cap, v6 = .slice (some ⟨g, 0, none⟩) (n + 1) cap := by
      rcases ho6.2 with ⟨-, h1⟩ | ⟨g', cap', cur', h1, -⟩
      · simp at h1
      · exact ⟨g', cap', h1⟩
    replace ho6 := Lib.hid ho6
    replace ho7 := Lib.hid ho7
    replace hnw6 := Lib.hid hnw6
    go_wp2_with (refine wpList_store_blk rfl 64 _ _ rfl (w.heap.size + 1) #[.int .i64 (m : Int), .slice ka m kc, .slice (some ⟨g6, 0, none⟩) (n + 1) cap6, .int .i64 bf, .bool bd] _ _ rfl rfl hy7 rfl hs5.out (by simp [Value.oneCell']) ?_)
    intro w8 hy8 hu8
    have hU8 : Upd Non w w8 := hU7.out.trans hu8 fun k hk h => by omega
    have ho8 := hu8.owns ho7.out fun k hk h => by have := (hnw6.out k hk).1; omega
    have hz8 : w6.heap.size ≤ w8.heap.size := Nat.le_trans (by simp) hu8.size
    obtain ⟨c8, f8⟩ := cells_of hy8
    clear hy8 hu8 c7 f7 hx7 hy7 hx hy c0 f0 hU7 hU6
    go_wp2_with fail
    refine bodyPost_ret (v := .tuple #[.agg #[.int .i64 (m : Int), .slice ka m kc, .slice (some ⟨g6, 0, none⟩) (n + 1) cap6, .int .i64 bf, .bool bd], .int .i64 0]) (by simp [results, Try.results23, go_sem, c8]; try rfl) rfl ⟨.slice (some ⟨g6, 0, none⟩) (n + 1) cap6, by simp only [rfv, hRK.out, hm.out, hbf.out, hbd.out], ⟨?_, ?_⟩, hU8, fun k hk => .inr ?_⟩
    · simp only [hRK.out]; exact hkw.out _ hU8
    · have hh := has_of_owns ho8
      simp only [hRP.out, List.map_append, List.flatten_append, List.length_append, List.length_singleton, hn.out]
      simpa [wc, strV] using hh
    · have h9 := hnw6.out k hk
      have := hz.out
      omega
  · simp only [hb2, not_false_eq_true, if_true, ne_eq, decide_false, hm, hn, hf] at hb ⊢
    have hRK : Hid (r.burn.1.K = r.K) := Lib.hid (Dk.burn_K r)
    have hRP : Hid (r.burn.1.P = r.P) := Lib.hid (Dk.burn_P r)
    obtain ⟨R, hR⟩ : ∃ R, r.burn.1 = R := ⟨_, rfl⟩
    obtain ⟨e, he⟩ : ∃ e, r.burn.2 = e := ⟨_, rfl⟩
    have he20 : e = 20 := by
      rw [← he]; revert hb2
      unfold Dk.burn
      split
      · intro _; rfl
      · split <;> (intro h; exact absurd rfl h)
    rw [he, he20]
    rw [hR] at hRK hRP hbf hbd ⊢
    replace hbf := Lib.hid hbf
    replace hbd := Lib.hid hbd
    replace hm := Lib.hid hm
    replace hn := Lib.hid hn
    clear hP hK
    clear hb2 hwr hw h0 h1 hf1 hf2 hd hf hR he he20 h hs hF
    go_enter Try.func23, Try.ntmps23
    go_wp2_with fail
    refine (hb.out _).mono ?_
    rintro en w2 ⟨rfl, hu2⟩
    obtain ⟨hx, hy, hz⟩ := upd_two hu2 (fun _ h => h.elim)
    have hU2 : Upd Non w w2 := ((Upd.alloc Non w _).then_alloc _).trans hu2 fun k hk h => h
    have hs5 := Lib.hid size_disk5
    simp only []
    clear hu2
    replace hz := Lib.hid hz
    replace hU2 := Lib.hid hU2
    go_wp2_with (refine wpList_store_blk rfl 64 _ _ rfl w.heap.size #[.int .i64 (m : Int), .slice ka m kc, .slice pa n pcp, .int .i64 bf, .bool bd] _ _ rfl rfl hx rfl hs5.out (by simp [Value.oneCell']) ?_)
    intro w3 hx3 hu3
    replace hy := hu3.heap hy (by omega)
    have hU3 : Upd Non w w3 := hU2.out.trans hu3 fun k hk h => by omega
    clear hx hU2 hu3
    obtain ⟨c0, f0⟩ := cells_of hx3
    go_wp2_with (refine wpList_store_blk rfl 64 _ _ rfl (w.heap.size + 1) #[.int .i64 (m : Int), .slice ka m kc, .slice pa n pcp, .int .i64 bf, .bool bd] _ _ rfl rfl hy rfl hs5.out (by simp [Value.oneCell']) ?_)
    intro w4 hy4 hu4
    have hU4 : Upd Non w w4 := hU3.trans hu4 fun k hk h => by omega
    obtain ⟨c1, f1⟩ := cells_of hy4
    clear hy4 hu4 hx3 c0 f0 hU3 hy
    go_wp2_with fail
    refine bodyPost_ret (v := .tuple #[.agg #[.int .i64 (m : Int), .slice ka m kc, .slice pa n pcp, .int .i64 bf, .bool bd], .int .i64 20]) (by simp [results, Try.results23, go_sem, c1]; try rfl) rfl ⟨.slice pa n pcp, by simp only [rfv, hRK.out, hm.out, hbf.out, hbd.out], ⟨?_, ?_⟩, hU4, Nw.refl _ _ _⟩
    · rw [hRK.out]; exact hkw.out _ hU4
    · rw [hRP.out, hn.out]; exact hpw.out _ hU4
end Go.Proofs.Ytgdkgnolkepgdaa
