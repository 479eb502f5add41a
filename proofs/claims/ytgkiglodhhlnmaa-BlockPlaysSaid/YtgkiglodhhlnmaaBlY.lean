/- The reference's kept. -/
import Derived.Test.YtgkiglodhhlnmaaBlX
namespace Go.Amb
open Go.RowKit
set_option linter.unusedVariables false
/-- The sectors behind writes. -/
def keepL (K : List (List UInt8)) (l : List (List UInt8 × Nat)) : List (List UInt8) := l.foldl (fun K p => K.set p.2 p.1) K
theorem keepL_length (K : List (List UInt8)) (l : List (List UInt8 × Nat)) : (keepL K l).length = K.length := by
  unfold keepL
  induction l generalizing K with
  | nil => rfl
  | cons p l ih => rw [List.foldl_cons, ih, List.length_set]
theorem keepL_succ (K : List (List UInt8)) (l : List (List UInt8 × Nat)) (k : Nat) (hk : k < l.length) : keepL K (l.take (k + 1)) = (keepL K (l.take k)).set l[k].2 l[k].1 := by
  unfold keepL
  rw [List.take_add_one, List.getElem?_eq_getElem hk, Option.toList_some, List.foldl_append]
  rfl
theorem fl_at {w : World} {lv : Value} {l : List (List UInt8 × Nat)} (h : Has w 2 lv l.length (l.map wc).flatten) {k : Nat} (hk : k < l.length) : ∃ g off c, lv = .slice (some ⟨g, off, none⟩) l.length c ∧ w.cell? ⟨g, off + k * 2, none⟩ = some (.int .i64 (l[k].2 : Int)) ∧ w.cell? ⟨g, off + k * 2 + 1, none⟩ = some (.string ⟨l[k].1.toArray⟩) := by
  obtain ⟨_, a, c, rfl, -, -, h3⟩ := h
  obtain ⟨g, off, rfl, hc⟩ := h3.resolve_left (by omega)
  have hg := fun j (hj : j < 2) => fl_get (wc_len l) k j (by rw [List.length_map]; exact hk) hj
  refine ⟨g, off, c, rfl, hc (k * 2) _ ?_, ?_⟩
  · have := hg 0 (by omega); rw [Nat.add_zero, List.getElem_map] at this; exact this
  · rw [Nat.add_assoc]
    refine hc (k * 2 + 1) _ ?_
    have := hg 1 (by omega); rw [List.getElem_map] at this; exact this
theorem strV_one (K : List (List UInt8)) : ∀ u ∈ K.map strV, u.oneCell' = true := by
  intro u hu
  obtain ⟨x, -, rfl⟩ := List.mem_map.1 hu
  rfl
theorem own_free {w : World} {base g n cap : Nat} {e : TypeId} {size : Nat} {xs : List Value} (h : w.ownsRow base e size (.slice (some ⟨g, 0, none⟩) n cap) n xs) (k : Nat) (hk : k < xs.length) : w.cell? ⟨g, k, none⟩ = some (xs[k]) ∧ w.frozen? ⟨g, k, none⟩ = false := by
  refine ⟨?_, h.frozenAt k⟩
  have := h.cells (g := g) rfl k _ (List.getElem?_eq_getElem hk)
  rwa [Addr.add_lit, Nat.zero_add] at this
theorem upd_two {S : Nat → Prop} {w w1 : World} {ca cb : Array Value} {ea eb : TypeId} (hu : Upd S ((w.alloc (.cells ca ea)).alloc (.cells cb eb)) w1) (hS : ∀ k, S k → k < w.heap.size ∨ w.heap.size + 2 ≤ k) :
    w1.heap[w.heap.size]? = some (.cells ca ea (0, 0)) ∧ w1.heap[w.heap.size + 1]? = some (.cells cb eb (0, 0)) ∧ w.heap.size + 2 ≤ w1.heap.size := by
  have hs := hu.size
  simp at hs
  exact ⟨hu.heap (heap_alloc2_old w (.cells ca ea) (.cells cb eb)) fun h => by have := hS _ h; omega, hu.heap (heap_alloc2_new w (.cells ca ea) (.cells cb eb)) fun h => by have := hS _ h; omega, by omega⟩
end Go.Amb
namespace Go.Proofs.Ytgkiglodhhlnmaa
open Go.RowKit Go.Amb Go.Shelf
set_option linter.unusedVariables false
set_option linter.unusedSimpArgs false
set_option maxRecDepth 100000
theorem info_str : (Try.prog.info? 9).map (fun i => (i.zero, i.size, i.bytes)) = some (some (.string ⟨#[]⟩), 1, 16) := by kernel_rfl
set_option maxHeartbeats 4000000 in
theorem refKept (r : Dk) (kv pv lv : Value) (l : List (List UInt8 × Nat)) (w : World) (h : RAt w r kv pv) (hpv : ∃ a n c, pv = .slice a n c) (hL : Has w 2 lv l.length (l.map wc).flatten) (hi : ∀ p ∈ l, p.2 < r.K.length) (h1 : 1 ≤ r.K.length) (h2 : r.K.length ≤ 1000000) (h3 : l.length ≤ 1000000) :
    Calls Try.prog 43 #[rfv r kv pv, lv] w (fun en w' => ∃ kv', en = .returned (rfv { r with K := keepL r.K l, P := [] } kv' (.slice none 0 0)) ∧ RAt w' { r with K := keepL r.K l, P := [] } kv' (.slice none 0 0) ∧ Upd Non w w' ∧ ∀ k, At kv' k → w.heap.size ≤ k ∧ k < w'.heap.size) := by
  obtain ⟨pa, pn, pcp, rfl⟩ := hpv
  obtain ⟨K, P, f, dd⟩ := r
  simp only at hi h1 h2
  have hK := h.k
  simp only at hK
  clear h
  obtain ⟨_, ka, kc, rfl, -⟩ := id hK
  obtain ⟨_, la, lc, rfl, -⟩ := id hL
  unfold rfv
  simp only [keepL_length]
  obtain ⟨n, hn⟩ : ∃ n, K.length = n := ⟨_, rfl⟩
  obtain ⟨m, hm⟩ : ∃ m, l.length = m := ⟨_, rfl⟩
  rw [hn] at h1 h2 hi
  have hKs := hK
  rw [hn] at hK ⊢
  rw [hm] at hL h3 ⊢
  have hi2 := Lib.hid info_str
  obtain ⟨W1, hW1⟩ : ∃ W1 : World, W1 = (w.alloc (.cells #[.int .i64 (n : Int), .slice ka n kc, .slice pa pn pcp, .int .i64 f, .bool dd] 48)).alloc (.cells #[.int .i64 0, .slice none 0 0, .slice none 0 0, .int .i64 0, .bool false] 48) := ⟨_, rfl⟩
  have hK1 : Has (W1.alloc (.cells #[] 9)) 1 (.slice ka n kc) n (K.map strV) := by
    subst hW1
    refine hK.upd ?_ (fun _ _ h => h)
    (repeat (first | (with_reducible exact Upd.refl _ _) | (with_reducible assumption) | (with_reducible refine Upd.then_drew ?_) | (with_reducible refine Upd.then_drewN ?_ _) | (with_reducible refine Upd.then_alloc ?_ _) | (with_reducible refine Upd.then_setCell ?_ (fun h => absurd h (by simp <;> omega)) _) | (with_reducible refine Upd.trans ?_ (Upd.non (by assumption)) (fun _ _ h => h))))
  have hz1 : W1.heap.size = w.heap.size + 1 + 1 := by subst hW1; simp
  have hsrc : Src Try.prog 1 40 (.slice ka n kc) n (K.map strV) (W1.alloc (.cells #[] 9)) := Src.ofHas Try.underlying40 hK1 (strV_one K)
  have hown : (W1.alloc (.cells #[] 9)).ownsRow (w.heap.size + 1 + 1) 9 1 (.slice (some ⟨w.heap.size + 1 + 1, 0, none⟩) 0 0) 0 [] := by
    have := World.ownsRow_lit (base := w.heap.size + 1 + 1) (e := 9) (size := 1) W1 #[] 0 (by omega) (Nat.zero_le _) rfl
    rw [hz1] at this
    exact this
  have hz2 : w.heap.size + 1 + 1 ≤ (W1.alloc (.cells #[] 9)).heap.size := by simp; omega
  subst hW1
  replace hsrc := Lib.hid hsrc
  replace hown := Lib.hid hown
  replace hz2 := Lib.hid hz2
  replace hn := Lib.hid hn
  replace hm := Lib.hid hm
  replace h1 := Lib.hid h1
  replace hi := Lib.hid hi
  clear hK hK1 hKs hz1
  go_enter Try.func43, Try.ntmps43
  go_wp2_with (at_builtin; go_must (refine wpList_app rfl _ _ 40 40 rfl (w.heap.size + 1 + 1) 9 (.string ⟨#[]⟩) 1 16 Try.underlying40 hi2.out rfl _ 0 [] rfl hown.out _ n (K.map strV) rfl hsrc.out (by unfold maxLen; omega) (by omega) hz2.out ?_))
  intro v2 w2 ho2 hu2 hb2
  have hu2' : Upd (fun k => k = w.heap.size + 1 + 1) ((w.alloc (.cells #[.int .i64 (n : Int), .slice ka n kc, .slice pa pn pcp, .int .i64 f, .bool dd] 48)).alloc (.cells #[.int .i64 0, .slice none 0 0, .slice none 0 0, .int .i64 0, .bool false] 48)) w2 :=
    (Upd.alloc _ _ _).trans hu2 fun k _ hk => by simpa [At, Value.ownBlock] using hk.symm
  obtain ⟨hx, hy, hz⟩ := upd_two hu2' (fun k hk => by omega)
  have hU2 : Upd Non w w2 := ((Upd.alloc Non w _).then_alloc _).trans hu2' fun k hk h => by omega
  clear hu2 hu2' hb2 hsrc hown hz2
  obtain ⟨g, cap, rfl⟩ : ∃ g cap, v2 = .slice (some ⟨g, 0, none⟩) n cap := by
    rcases ho2.2 with ⟨h1', h2'⟩ | ⟨g, cap, cur, h1', -⟩
    · have := h1.out; omega
    · exact ⟨g, cap, by simpa using h1'⟩
  have hg1 := (own_lt ho2 (k := g) rfl)
  have hg2 := own_ge ho2 (k := g) rfl
  obtain ⟨c0, f0⟩ := cells_of hx
  have ho3 := ownsRow_setCell_below ho2 (a := ⟨w.heap.size, 1, none⟩) (by dsimp only; omega) (.slice (some ⟨g, 0, none⟩) n cap)
  have hx3 := heap_setCell_same w2 w.heap.size 1 _ _ (.slice (some ⟨g, 0, none⟩) n cap) hx
  have hy3 := (heap_setCell_other w2 ⟨w.heap.size, 1, none⟩ (w.heap.size + 1) (.slice (some ⟨g, 0, none⟩) n cap) (by simp)).trans hy
  have hU3 : Upd Non w (w2.setCell ⟨w.heap.size, 1, none⟩ (.slice (some ⟨g, 0, none⟩) n cap)) := hU2.then_setCell (fun h => by simp at h) _
  simp only [Array.set!_eq_setIfInBounds, List.setIfInBounds_toArray, List.set_cons_succ, List.set_cons_zero] at hx3
  replace hz := Lib.hid hz
  replace hg1 := Lib.hid hg1
  replace hg2 := Lib.hid hg2
  go_wp2_with fail
  obtain ⟨w3, hw3⟩ : ∃ w3, w2.setCell ⟨w.heap.size, 1, none⟩ (.slice (some ⟨g, 0, none⟩) n cap) = w3 := ⟨_, rfl⟩
  rw [hw3] at ho3 hx3 hy3 hU3 ⊢
  clear c0 f0 hx hy ho2 hU2
  go_loopw [5] (fun kv wr => ∃ k : Nat, kv = .int .i64 (k : Int) ∧ k ≤ m ∧ wr.heap[w.heap.size]? = some (.cells #[.int .i64 (n : Int), .slice (some ⟨g, 0, none⟩) n cap, .slice pa pn pcp, .int .i64 f, .bool dd] 48 (0, 0)) ∧ wr.heap[w.heap.size + 1]? = some (.cells #[.int .i64 0, .slice none 0 0, .slice none 0 0, .int .i64 0, .bool false] 48 (0, 0)) ∧ wr.ownsRow (w.heap.size + 1 + 1) 9 1 (.slice (some ⟨g, 0, none⟩) n cap) n ((keepL K (l.take k)).map strV) ∧ Upd Non w wr) (fun kv _ => m - (intOf kv).toNat)
  case atStart => exact ⟨0, rfl, Nat.zero_le _, hx3, hy3, ho3, hU3⟩
  case round =>
    obtain ⟨k, rfl, hk, hxr, hyr, hor, hur⟩ := hrel
    obtain ⟨c0, f0⟩ := cells_of hxr
    obtain ⟨c1, f1⟩ := cells_of hyr
    clear hx3 hy3 ho3 hU3 hw3
    by_cases hkm : k < m
    · have hkl : k < l.length := by rw [hm.out]; exact hkm
      obtain ⟨gp, op, cp, hlv, p0, p1⟩ := fl_at (w := w) (by rw [hm.out]; exact hL) hkl
      injection hlv with e1 e2 e3
      clear e2 e3
      subst e1
      replace p0 := hur.cell p0 fun h => h
      replace p1 := hur.cell p1 fun h => h
      have hpn := hi.out _ (List.getElem_mem hkl)
      have hks := keepL_succ K l k hkl
      have hKl : ((keepL K (l.take k)).map strV).length = n := by rw [List.length_map, keepL_length, hn.out]
      obtain ⟨pi, hpi⟩ : ∃ pi, l[k].2 = pi := ⟨_, rfl⟩
      obtain ⟨ps, hps⟩ : ∃ ps, l[k].1 = ps := ⟨_, rfl⟩
      rw [hpi] at p0 hpn hks
      rw [hps] at p1 hks
      obtain ⟨q0, q1⟩ := own_free hor pi (by omega)
      have hset := hor.stored pi (.string ⟨ps.toArray⟩)
      have hset1 : Hid ((wr.setCell ⟨g, pi, none⟩ (.string ⟨ps.toArray⟩)).ownsRow (w.heap.size + 1 + 1) 9 1 (.slice (some ⟨g, 0, none⟩) n cap) n ((keepL K (l.take (k + 1))).map strV)) := by
        have := hset.1
        rw [hks, List.map_set]
        exact this
      have hx4 : Hid _ := Lib.hid ((heap_setCell_other wr ⟨g, pi, none⟩ w.heap.size (.string ⟨ps.toArray⟩) (by have := hg2.out; simp; omega)).trans hxr)
      have hy4 : Hid _ := Lib.hid ((heap_setCell_other wr ⟨g, pi, none⟩ (w.heap.size + 1) (.string ⟨ps.toArray⟩) (by have := hg2.out; simp; omega)).trans hyr)
      have hu4 : Hid (Upd Non w (wr.setCell ⟨g, pi, none⟩ (.string ⟨ps.toArray⟩))) := Lib.hid (hur.then_setCell (fun h => by have := hg2.out; simp at h; omega) _)
      generalize (((keepL K (l.take k)).map strV)[pi]'_) = old at q0
      clear hpi hps
      clear hset hks hKl hkl hor hxr hyr hL hi
      have hk1 : (k : Int) < (m : Int) := by omega
      have hk0 : (0 : Int) ≤ (k : Int) := by omega
      have hp1 : (pi : Int) < (n : Int) := by omega
      have hp0 : (0 : Int) ≤ (pi : Int) := by omega
      replace hur := Lib.hid hur
      go_wp2_with fail
      (refine wp_tail 13 (by kernel_rfl) (by kernel_rfl) ?_; simp only [List.take_succ_cons, List.take_zero, List.drop_succ_cons, List.drop_zero]; (repeat still_step); refine wpStill_nil ?_)
      go_wp2_with fail
      go_roundw
      case rel => exact ⟨k + 1, by go_num, by omega, hx4.out, hy4.out, hset1.out, hu4.out.then_drew⟩
      case measure => simp [intOf]; omega
    · obtain rfl : k = m := by omega
      rw [List.take_of_length_le (by rw [hm.out]; exact Nat.le_refl _)] at hor
      replace hor := Lib.hid hor
      replace hur := Lib.hid hur
      clear hL hi
      go_wp2_with fail
      refine bodyPost_ret (v := .agg #[.int .i64 (n : Int), .slice (some ⟨g, 0, none⟩) n cap, .slice none 0 0, .int .i64 f, .bool dd]) (by simp [results, Try.results43, go_sem, c1, f1]; try rfl) rfl ⟨.slice (some ⟨g, 0, none⟩) n cap, rfl, ⟨?_, ⟨by simp, none, 0, rfl, Nat.le_refl _, Nat.zero_le _, .inl rfl⟩⟩, ?_, fun k hk => ?_⟩
      · show Has _ 1 _ (keepL K l).length ((keepL K l).map strV)
        rw [keepL_length, hn.out]
        refine has_of_owns (base := w.heap.size + 1 + 1) (e := 9) ?_
        refine ownsRow_setCell_below ?_ (by dsimp only; omega) _
        refine ownsRow_setCell_below ?_ (by dsimp only; omega) _
        refine ownsRow_setCell_below ?_ (by dsimp only; omega) _
        refine ownsRow_setCell_below ?_ (by dsimp only; omega) _
        refine ownsRow_setCell_below ?_ (by dsimp only; omega) _
        refine ownsRow_setCell_below ?_ (by dsimp only; omega) _
        exact hor.out
      · have := hur.out
        (repeat (first | (with_reducible exact Upd.refl _ _) | (with_reducible assumption) | (with_reducible refine Upd.then_drew ?_) | (with_reducible refine Upd.then_drewN ?_ _) | (with_reducible refine Upd.then_alloc ?_ _) | (with_reducible refine Upd.then_setCell ?_ (fun h => absurd h (by simp <;> omega)) _) | (with_reducible refine Upd.trans ?_ (Upd.non (by assumption)) (fun _ _ h => h))))
      · have := hg2.out
        have h5 := own_lt hor.out (k := g) rfl
        simp [At, Value.ownBlock] at hk
        subst hk
        exact ⟨by omega, by simpa using h5⟩
end Go.Proofs.Ytgkiglodhhlnmaa
