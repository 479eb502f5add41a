/- The reference's Crash. -/
import Derived.Test.YtgkiglodhhlnmaaBmA
import Derived.Test.YtgkiglodhhlnmaaBlK
namespace Go.Amb
open Go.RowKit
set_option linter.unusedVariables false
theorem mem_take_succ {l : List Int} {i : Nat} (h : i < l.length) (k : Int) : k ∈ l.take (i + 1) ↔ k ∈ l.take i ∨ l[i] = k := by
  rw [List.take_add_one, List.getElem?_eq_getElem h, Option.toList_some, List.mem_append, List.mem_singleton]
  constructor
  · rintro (h | h); exact .inl h; exact .inr h.symm
  · rintro (h | h); exact .inl h; exact .inr h.symm
theorem pk_yes {P : List (List UInt8 × Nat)} {pick : Nat → Bool} {k : Nat} (h : k < P.length) (hp : pick k = true) : pk P pick (k + 1) = pk P pick k ++ [P[k]] := by
  rw [pk, List.getElem?_eq_getElem h]; simp only [hp, if_true]
theorem pk_no {P : List (List UInt8 × Nat)} {pick : Nat → Bool} {k : Nat} (h : k < P.length) (hp : pick k = false) : pk P pick (k + 1) = pk P pick k := by
  rw [pk, List.getElem?_eq_getElem h]; simp only [hp, Bool.false_eq_true, if_false]
end Go.Amb
namespace Go.Proofs.Ytgkiglodhhlnmaa
open Go.RowKit Go.Amb Go.Shelf
set_option linter.unusedVariables false
set_option linter.unusedSimpArgs false
set_option maxRecDepth 100000
set_option maxHeartbeats 4000000 in
theorem refCrash (r : Dk) (kv pv lv : Value) (l : List Int) (w : World) (h : RAt w r kv pv) (hL : Ints w lv l) (hi : ∀ p ∈ r.P, p.2 < r.K.length) (hK1 : 1 ≤ r.K.length) (hP : r.P.length ≤ 1000000) (hK : r.K.length ≤ 1000000) :
    Calls Try.prog 34 #[rfv r kv pv, lv] w (fun en w' => ∃ kv', en = .returned (rfv (r.crashR l) kv' (.slice none 0 0)) ∧ RAt w' (r.crashR l) kv' (.slice none 0 0) ∧ Upd Non w w' ∧ ∀ k, At kv' k → w.heap.size ≤ k ∧ k < w'.heap.size) := by
  obtain ⟨_, ka, kc, rfl, -⟩ := id h.k
  obtain ⟨_, pa, pcp, rfl, -⟩ := id h.p
  obtain ⟨_, la, lc, rfl, hl1, hl2, hl3⟩ := hL
  have hl9 : l.length ≤ 9223372036854775807 := by unfold maxLen at hl2; omega
  clear hl1 hl2
  obtain ⟨m, hm⟩ : ∃ m, r.K.length = m := ⟨_, rfl⟩
  obtain ⟨n, hn⟩ : ∃ n, r.P.length = n := ⟨_, rfl⟩
  obtain ⟨f, hf⟩ : ∃ f, r.f = f := ⟨_, rfl⟩
  obtain ⟨dd, hdd⟩ : ∃ dd, r.dd = dd := ⟨_, rfl⟩
  obtain ⟨q, hq⟩ : ∃ q, l.length = q := ⟨_, rfl⟩
  obtain ⟨pick, hpick⟩ : ∃ pick : Nat → Bool, (fun k : Nat => decide ((k : Int) ∈ l)) = pick := ⟨_, rfl⟩
  obtain ⟨R', hR'⟩ : ∃ R' : Dk, r.crashR l = R' := ⟨_, rfl⟩
  have hRe : R' = { K := keepL r.K (pk r.P pick n), P := [], f := -1, dd := false } := by rw [← hR', ← hpick, ← hn]; rfl
  have h1' : R'.K.length = m := by rw [hRe]; show (keepL r.K _).length = m; rw [keepL_length, hm]
  have h2' : R'.f = -1 := by rw [hRe]
  have h3' : R'.dd = false := by rw [hRe]
  rw [hR']
  have hk : Hid (∀ (xv : Value) (w' : World), Upd Non w w' → Has w' 2 xv (pk r.P pick n).length ((pk r.P pick n).map wc).flatten → Calls Try.prog 43 #[.agg #[.int .i64 (m : Int), .slice ka m kc, .slice pa n pcp, .int .i64 (-1), .bool false], xv] w' (fun en w9 => ∃ a9 c9, en = .returned (.agg #[.int .i64 (m : Int), .slice a9 m c9, .slice none 0 0, .int .i64 (-1), .bool false]) ∧ RAt w9 R' (.slice a9 m c9) (.slice none 0 0) ∧ Upd Non w' w9 ∧ ∀ k, At (.slice a9 m c9) k → w'.heap.size ≤ k ∧ k < w9.heap.size)) := Lib.hid (fun xv w' hu hx => by
    have hR1 : RAt w' { r with f := -1, dd := false } (.slice ka r.K.length kc) (.slice pa r.P.length pcp) := h.keepP hu rfl rfl
    have hc := refKept { r with f := -1, dd := false } (.slice ka r.K.length kc) (.slice pa r.P.length pcp) xv (pk r.P pick n) w' hR1 ⟨_, _, _, rfl⟩ hx (fun p hp => hi p (pk_mem p hp)) hK1 hK (Nat.le_trans (pk_len _ _ _) (by rw [← hn]; exact hP))
    have e9 : ({ K := keepL r.K (pk r.P pick n), P := [], f := -1, dd := false } : Dk) = R' := hRe.symm
    simp only [e9] at hc
    unfold rfv at hc
    rw [h1', h2', h3'] at hc
    simp only [hm, hn] at hc
    refine hc.mono ?_
    rintro en w9 ⟨kv', rfl, hR9, hu9, hn9⟩
    obtain ⟨_, a9, c9, rfl, -⟩ := id hR9.k
    rw [h1'] at hR9 hn9 ⊢
    exact ⟨a9, c9, rfl, hR9, hu9, hn9⟩)
  have hpw : Hid (∀ w', Upd Non w w' → Has w' 2 (.slice pa n pcp) r.P.length (r.P.map wc).flatten) := Lib.hid (fun w' hu => by have := (h.non hu).p; rw [hn] at this ⊢; exact this)
  have hi2 := Lib.hid info_rwrite
  have hs5 := Lib.hid size_disk5
  have hn3 : n ≤ 1000000 := by omega
  unfold rfv
  rw [hm, hn, hf, hdd]
  rw [hq] at hl9 hl3 ⊢
  replace hn := Lib.hid hn
  replace hq := Lib.hid hq
  replace h1' := Lib.hid h1'
  replace h2' := Lib.hid h2'
  replace h3' := Lib.hid h3'
  replace hl3 := Lib.hid hl3
  replace hpick := Lib.hid hpick
  clear hR' hRe hi hK1 hP hK h hm hf hdd
  go_enter Try.func34, Try.ntmps34
  go_wp2_with fail
  obtain ⟨w2, hw2⟩ : ∃ w2 : World, w2 = ((w.alloc (.cells #[.int .i64 (m : Int), .slice ka m kc, .slice pa n pcp, .int .i64 f, .bool dd] 48)).alloc (.cells #[.int .i64 0, .slice none 0 0, .slice none 0 0, .int .i64 0, .bool false] 48)) := ⟨_, rfl⟩
  rw [← hw2]
  have hu2 : Upd Non ((w.alloc (.cells #[.int .i64 (m : Int), .slice ka m kc, .slice pa n pcp, .int .i64 f, .bool dd] 48)).alloc (.cells #[.int .i64 0, .slice none 0 0, .slice none 0 0, .int .i64 0, .bool false] 48)) w2 := by rw [hw2]; exact Upd.refl _ _
  obtain ⟨hx, hy, hz⟩ := upd_two hu2 (fun _ h => h.elim)
  have hU2 : Upd Non w w2 := ((Upd.alloc Non w _).then_alloc _).trans hu2 fun k hk h => h
  clear hu2 hw2
  go_loopw [5, 6] (fun lv kv wr => ∃ k : Nat, kv = .int .i64 (k : Int) ∧ k ≤ n ∧ wr.heap[w.heap.size]? = some (.cells #[.int .i64 (m : Int), .slice ka m kc, .slice pa n pcp, .int .i64 f, .bool dd] 48 (0, 0)) ∧ wr.heap[w.heap.size + 1]? = some (.cells #[.int .i64 0, .slice none 0 0, .slice none 0 0, .int .i64 0, .bool false] 48 (0, 0)) ∧ wr.ownsRow (w.heap.size + 1 + 1) 85 2 lv (pk r.P pick k).length ((pk r.P pick k).map wc).flatten ∧ Upd Non w wr) (fun _ kv _ => n - (intOf kv).toNat)
  case atStart => exact ⟨0, rfl, Nat.zero_le _, hx, hy, World.ownsRow_nil _ _ _ _, hU2⟩
  case round =>
    obtain ⟨w5, rfl⟩ : ∃ w5, w5 = wr := ⟨_, rfl⟩
    obtain ⟨k, rfl, hkn, hxr, hyr, hor, hur⟩ := hrel
    clear hx hy hz hU2
    obtain ⟨c0, f0⟩ := cells_of hxr
    by_cases hkm : k < n
    · have hkm' : (k : Int) < (n : Int) := by omega
      have hk0 : (0 : Int) ≤ (k : Int) := by omega
      have hkl : k < r.P.length := by rw [hn.out]; exact hkm
      obtain ⟨gp, op, cp, hlv, p0, p1⟩ := fl_at (hpw.out _ hur) hkl
      injection hlv with e1 e2 e3
      clear e2 e3
      subst e1
      have hy9 := pk_yes (pick := pick) hkl
      have hn9 := pk_no (pick := pick) hkl
      obtain ⟨pi, hpi⟩ : ∃ pi, r.P[k].2 = pi := ⟨_, rfl⟩
      obtain ⟨ps, hps⟩ : ∃ ps, r.P[k].1 = ps := ⟨_, rfl⟩
      have hpp : r.P[k] = (ps, pi) := by rw [← hpi, ← hps]
      rw [hpp] at hy9
      rw [hpi] at p0
      rw [hps] at p1
      clear hpi hps hpp
      have hpk : pick k = decide ((k : Int) ∈ l) := by rw [← hpick.out]
      replace hy9 := Lib.hid hy9
      replace hn9 := Lib.hid hn9
      replace hpk := Lib.hid hpk
      replace hkl := Lib.hid hkl
      replace hxr := Lib.hid hxr
      replace hyr := Lib.hid hyr
      replace hor := Lib.hid hor
      replace hur := Lib.hid hur
      go_wp2_with fail
      go_loopw [7, 8] (fun fv iv wr => ∃ i : Nat, iv = .int .i64 (i : Int) ∧ i ≤ q ∧ fv = .bool (decide ((k : Int) ∈ l.take i)) ∧ wr = w5) (fun _ iv _ => q - (intOf iv).toNat)
      case atStart => exact ⟨0, rfl, Nat.zero_le _, by simp, rfl⟩
      case round =>
        obtain ⟨i, rfl, hiq, rfl, rfl⟩ := hrel
        by_cases hiq' : i < q
        · have hiq2 : (i : Int) < (q : Int) := by omega
          have hi0 : (0 : Int) ≤ (i : Int) := by omega
          have hil : i < l.length := by rw [hq.out]; exact hiq'
          obtain ⟨g, off, rfl, hc⟩ := hl3.out.resolve_left (by omega)
          have x0 := hur.out.cell (hc i (.int .i64 l[i]) (by rw [List.getElem?_map, List.getElem?_eq_getElem hil]; rfl)) fun h => h
          have hms := Lib.hid (mem_take_succ hil (k : Int))
          obtain ⟨y, hy⟩ : ∃ y, l[i] = y := ⟨_, rfl⟩
          rw [hy] at x0 hms
          clear hc hy hil hk hpw hl3
          by_cases hf : (k : Int) ∈ l.take i
          · simp only [hf, decide_true]
            have hf1 : (k : Int) ∈ l.take (i + 1) := hms.out.2 (.inl hf)
            replace hf := Lib.hid hf
            replace hf1 := Lib.hid hf1
            clear hms
            go_wp2_with fail
            go_roundw
            case rel => exact ⟨i + 1, by go_num, by omega, by simp [hf1.out], trivial⟩
            case measure => simp [intOf]; omega
          · simp only [hf, decide_false]
            have hms2 : (k : Int) ∈ l.take (i + 1) ↔ y = (k : Int) := hms.out.trans ⟨fun h => h.resolve_left hf, .inr⟩
            replace hms2 := Lib.hid hms2
            clear hms
            replace hf := Lib.hid hf
            by_cases he : y = (k : Int)
            · subst he
              go_wp2_with fail
              go_roundw
              case rel => exact ⟨i + 1, by go_num, by omega, by simp [hms2.out], trivial⟩
              case measure => simp [intOf]; omega
            · have he1 : (y = (k : Int)) = False := eq_false he
              have he2 : (y == (k : Int)) = false := by simp [he]
              have he3 : ((k : Int) = y) = False := eq_false (fun h => he h.symm)
              replace he := Lib.hid he
              go_wp2_with fail
              go_roundw
              case rel => exact ⟨i + 1, by go_num, by omega, by simp [hms2.out, he.out], trivial⟩
              case measure => simp [intOf]; omega
        · obtain rfl : i = q := by omega
          have ht : l.take i = l := List.take_of_length_le (by rw [hq.out]; exact Nat.le_refl _)
          rw [ht, ← hpk.out]
          clear ht hk hl3
          by_cases hf : pick k = true
          · rw [hf]
            have hy8 := Lib.hid (hy9.out hf)
            clear hy9 hn9 hpk hf
            have hlen := pk_len r.P pick k
            have hzr : w.heap.size + 1 + 1 ≤ wr.heap.size := heap_lt hyr.out
            go_wp2_with (at_builtin; go_must (refine wpList_app1n rfl _ _ 46 rfl (w.heap.size + 1 + 1) 85 (.agg #[.int .i64 0, .string ⟨#[]⟩]) 2 24 Try.underlying46 hi2.out rfl _ _ _ rfl hor.out [.int .i64 (pi : Int), .string ⟨ps.toArray⟩] wr.heap.size rfl rfl rfl (by intro u hu; simp at hu; rcases hu with rfl | rfl <;> rfl) (by unfold maxLen; omega) (by omega) hzr ?_))
            intro v6 w6 ho6 hu6 hb6
            have hg5 : ∀ k, At u5 k → w.heap.size + 1 + 1 ≤ k := fun k hk => own_ge hor.out hk
            have hx6 := Lib.hid (hu6.heap hxr.out fun h => by have := hg5 _ h; omega)
            have hy6 := Lib.hid (hu6.heap hyr.out fun h => by have := hg5 _ h; omega)
            have hU6 : Hid (Upd Non w w6) := Lib.hid (hur.out.trans hu6 fun k hk h => by have := hg5 _ h; omega)
            replace ho6 := Lib.hid ho6
            clear hu6 hb6 hg5 c0 f0
            go_wp2_with fail
            go_roundw
            case rel => exact ⟨k + 1, by go_num, by omega, hx6.out, hy6.out, by rw [hy8.out, List.length_append, List.length_singleton, List.map_append, List.flatten_append]; simpa [wc, strV] using ho6.out, hU6.out⟩
            case measure => simp [intOf]; omega
          · have hf : pick k = false := by simpa using hf
            rw [hf]
            have hn8 := Lib.hid (hn9.out hf)
            clear hy9 hn9 hpk hf
            go_wp2_with fail
            go_roundw
            case rel => exact ⟨k + 1, by go_num, by omega, hxr.out, hyr.out, by rw [hn8.out]; exact hor.out, hur.out⟩
            case measure => simp [intOf]; omega
    · obtain rfl : n = k := by omega
      clear hkm hkn hn hq hl9 hl3 hpick hpw
      have hzz : w.heap.size + 1 < w5.heap.size := heap_lt hyr
      have hx1 := heap_setCell_same w5 w.heap.size 3 _ _ (.int .i64 (-1)) hxr
      simp only [Array.set!_eq_setIfInBounds, List.setIfInBounds_toArray, List.set_cons_succ, List.set_cons_zero] at hx1
      have hx2 := heap_setCell_same _ w.heap.size 4 _ _ (.bool false) hx1
      simp only [Array.set!_eq_setIfInBounds, List.setIfInBounds_toArray, List.set_cons_succ, List.set_cons_zero] at hx2
      have hy1 := (heap_setCell_other w5 ⟨w.heap.size, 3, none⟩ (w.heap.size + 1) (.int .i64 (-1)) (by simp)).trans hyr
      have hy2 := (heap_setCell_other _ ⟨w.heap.size, 4, none⟩ (w.heap.size + 1) (.bool false) (by simp)).trans hy1
      have hU1 : Upd Non w (w5.setCell ⟨w.heap.size, 3, none⟩ (.int .i64 (-1))) := hur.then_setCell (fun h => by simp at h) _
      have hU2 : Upd Non w ((w5.setCell ⟨w.heap.size, 3, none⟩ (.int .i64 (-1))).setCell ⟨w.heap.size, 4, none⟩ (.bool false)) := hU1.then_setCell (fun h => by simp at h) _
      have ho2 := ownsRow_setCell_below (ownsRow_setCell_below hor (a := ⟨w.heap.size, 3, none⟩) (by dsimp only; omega) (.int .i64 (-1))) (a := ⟨w.heap.size, 4, none⟩) (by dsimp only; omega) (.bool false)
      have hc := Lib.hid (hk.out u5 _ hU2 (has_of_owns ho2))
      obtain ⟨c2, f2⟩ := cells_of hx2
      clear ho2 hx1 hy1 hU1 hk hor hur
      replace hy2 := Lib.hid hy2
      replace hU2 := Lib.hid hU2
      go_wp2_with fail
      refine hc.out.mono ?_
      rintro en w4 ⟨a9, c9, rfl, hR4, hu4, hn4⟩
      have hy := hu4.heap hy2.out fun h => h
      have hU4 : Upd Non w w4 := hU2.out.trans hu4 fun _ _ h => h
      have hz4 : w5.heap.size ≤ w4.heap.size := Nat.le_trans (by simp) hu4.size
      replace hn4 : ∀ k, At (.slice a9 m c9) k → w5.heap.size ≤ k ∧ k < w4.heap.size := fun k hk => by have := hn4 k hk; simpa using this
      clear hu4 hx2 c2 f2 hy2 hU2 hc c0 f0 hxr hyr
      simp only []
      go_wp2_with (refine wpList_store_blk rfl 48 _ _ rfl (w.heap.size + 1) #[.int .i64 (m : Int), .slice a9 m c9, .slice none 0 0, .int .i64 (-1), .bool false] _ _ rfl rfl hy rfl hs5.out (by simp [Value.oneCell']) ?_)
      intro w5 hy5 hu5
      have hU5 : Upd Non w w5 := hU4.trans hu5 fun k hk h => by omega
      have hR5 := hR4.upd hu5 (fun k hk h => by have := (hn4 k hk).1; omega) (fun k hk h => by simp [At, Value.ownBlock] at hk)
      have hz5 := hu5.size
      obtain ⟨c1, f1⟩ := cells_of hy5
      clear hy5 hu5 hR4 hU4
      go_wp2_with fail
      refine bodyPost_ret (v := .agg #[.int .i64 (m : Int), .slice a9 m c9, .slice none 0 0, .int .i64 (-1), .bool false]) (by simp [results, Try.results34, go_sem, c1]; try rfl) rfl ⟨.slice a9 m c9, by simp only [rfv, h1'.out, h2'.out, h3'.out], hR5, hU5, fun k hk => by have := hn4 k hk; omega⟩
end Go.Proofs.Ytgkiglodhhlnmaa
