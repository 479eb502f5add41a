/- The walk over BlockPlays. -/
import Derived.Test.YtgkiglodhhlnmaaBmK
import Derived.Test.YtgkiglodhhlnmaaBlO
namespace Go.Proofs.Ytgkiglodhhlnmaa
open Go.RowKit Go.Amb Go.Shelf
set_option linter.unusedVariables false
set_option linter.unusedSimpArgs false
set_option maxRecDepth 100000
def rc (r : Dk) (kv pv : Value) : Array Value := #[.int .i64 (r.K.length : Nat), kv, pv, .int .i64 r.f, .bool r.dd]
theorem Acts.non {w w' : World} {v : Value} {l : List Act4} (h : Acts w v l) (hu : Upd Non w w') : Acts w' v l :=
  ⟨h.has.non hu, fun a ha => ⟨(h.good a ha).i, (h.good a ha).s, (h.good a ha).has.non hu, fun h0 k hk => Nat.lt_of_lt_of_le ((h.good a ha).old h0 k hk) hu.size⟩⟩
set_option maxHeartbeats 4000000 in
theorem lPlaysIn (n : Nat) (h1 : 1 ≤ n) (h2 : n ≤ 16384) (v : Value) (l : List Act4) (i : Int) (w : World) (hA : Acts w v l) (hf : few4 l = true) : Calls Try.prog 6 #[.int .i64 (n : Int), v, .int .i64 i] w (Ret (.bool true) w) := by
  have cN := Lib.hid (lvNew n h1 h2 w)
  have cR : Hid (∀ w' F D, Lv w D w' F (Dk.new n) → Calls Try.prog 18 #[.int .i64 (n : Int)] w' (fun en w9 => ∃ m ka kn kc pa pn pc f dd, en = .returned (.tuple #[.agg #[.int .i64 m, .slice ka kn kc, .slice pa pn pc, .int .i64 f, .bool dd], .int .i64 0]) ∧ Bth Non w w9 D F (Dk.new n) ⟨List.replicate n [], [], -1, false⟩ (.slice ka kn kc) (.slice pa pn pc) ∧ rfv ⟨List.replicate n [], [], -1, false⟩ (.slice ka kn kc) (.slice pa pn pc) = .agg #[.int .i64 m, .slice ka kn kc, .slice pa pn pc, .int .i64 f, .bool dd] ∧ Upd Non w' w9)) :=
    Lib.hid (fun w' F D hL => (refNew n h1 h2 w').mono fun en w9 ⟨kv, he, hR, hu, hn⟩ => by
      obtain ⟨_, ka, kc, rfl, -⟩ := id hR.k
      have hz := hL.upd.size
      exact ⟨_, _, _, _, _, _, _, _, _, he, ⟨hL.non hu, hR, fun k hk => ⟨fun hF => by have := hL.at_.lt k hF; have := hn k hk; omega, by have := hn k hk; omega, (hn k hk).2⟩, fun k hk => by simp [At, Value.ownBlock] at hk, fun k hk => hk.elim⟩, rfl, hu⟩)
  have cF : Hid (∀ w', Upd Non w w' → Calls Try.prog 19 #[v] w' (Ret (.bool true) w')) := Lib.hid (fun w' hu => by have := lFew v l w' (hA.non hu); rw [hf] at this; exact this)
  obtain ⟨hl200, hgood⟩ : l.length ≤ 200 ∧ ∀ a ∈ l, GoodLen a := by unfold few4 at hf; exact of_decide_eq_true hf
  obtain ⟨L, hL⟩ : ∃ L, l.length = L := ⟨_, rfl⟩
  have hform : ∃ a c, v = .slice a L c := by obtain ⟨_, a, c, rfl, -⟩ := hA.has; exact ⟨a, c, by rw [hL]⟩
  obtain ⟨va, vc, rfl⟩ := hform
  have hL200 : L ≤ 200 := by omega
  have hs5 := Lib.hid size_disk5
  have hsame := Lib.hid (same_new n)
  have hk0 : Hid ((Dk.new n).K.length = n ∧ (Dk.new n).P.length = 0) := Lib.hid ⟨List.length_replicate .., rfl⟩
  replace hA := Lib.hid hA
  replace hgood := Lib.hid hgood
  replace hL := Lib.hid hL
  clear hf hl200 h1
  have hn16 : Hid (n ≤ 16384) := Lib.hid h2
  clear h2
  go_enter Try.func6, Try.ntmps6
  go_wp2_with fail
  refine cN.out.mono ?_
  rintro en w1 ⟨D0, F1, rfl, L1⟩
  replace L1 := Lib.hid L1
  clear cN
  simp only []
  go_wp2_with fail
  refine (cR.out w1 _ _ L1.out).mono ?_
  rintro en w2 ⟨m0, ka0, kn0, kc0, pa0, pn0, pc0, f0, dd0, rfl, hB2, hlit, hu2⟩
  replace hB2 := Lib.hid hB2
  replace hlit := Lib.hid hlit
  have hN2 := Lib.hid (L1.out.upd.trans hu2 fun _ _ h => h)
  clear L1 cR hu2
  simp only []
  go_wp2_with (refine wpList_store_blk rfl 48 _ _ rfl w2.heap.size #[.int .i64 m0, .slice ka0 kn0 kc0, .slice pa0 pn0 pc0, .int .i64 f0, .bool dd0] _ _ rfl rfl (heap_alloc_new w2 (.cells #[.int .i64 0, .slice none 0 0, .slice none 0 0, .int .i64 0, .bool false] 48)) rfl hs5.out (by simp [Value.oneCell']) ?_)
  intro w3 hX3 hu3
  have hA2 := Upd.alloc Non w2 (.cells #[.int .i64 0, .slice none 0 0, .slice none 0 0, .int .i64 0, .bool false] 48)
  have hXlt : Hid (w2.heap.size < w3.heap.size) := Lib.hid (heap_lt hX3)
  have hB3 : Bth (fun k => k = w2.heap.size) w w3 D0 F1 (Dk.new n) ⟨List.replicate n [], [], -1, false⟩ (.slice ka0 kn0 kc0) (.slice pa0 pn0 pc0) := ((hB2.out.grow hA2).upd hu3 (fun k hk => by subst hk; exact .inr ⟨Nat.le_refl _, by simp⟩)).sub (fun k hk => by subst hk; exact .inr ⟨Nat.le_refl _, by simp⟩)
  have hN3 := hB3.lv.upd
  replace hB3 := Lib.hid hB3
  replace hX3 := Lib.hid hX3
  clear hu3 hA2 hB2 hN2
  go_wp2_with fail
  refine (cF.out w3 hN3).mono ?_
  rintro en w4 ⟨rfl, hu4⟩
  replace hB3 := Lib.hid (hB3.out.non hu4)
  replace hX3 := Lib.hid (hu4.heap hX3.out fun h => h)
  clear hu4 hN3 cF
  simp only []
  go_wp2_with fail
  go_loopw [7, 11] (fun dv iv wr => ∃ (k : Nat) (D : Nat) (F : Nat → Prop) (d r : Dk) (kv pv : Value), dv = .pointer (some ⟨D, 0, none⟩) ∧ iv = .int .i64 (k : Int) ∧ k ≤ L ∧ Bth (fun k => k = w2.heap.size) w wr D F d r kv pv ∧ Same d r ∧ wr.heap[w2.heap.size]? = some (.cells (rc r kv pv) 48 (0, 0)) ∧ d.P.length ≤ k ∧ d.K.length = n) (fun _ iv _ => L - (intOf iv).toNat)
  case atStart => exact ⟨0, D0, F1, _, _, _, _, rfl, rfl, Nat.zero_le _, hB3.out, hsame.out, by rw [hX3.out, ← Value.agg.inj hlit.out]; rfl, Nat.le_of_eq hk0.out.2, hk0.out.1⟩
  case round =>
    clear hB3 hX3 hlit hk0 hsame
    obtain ⟨k, D, F, d, r, kv, pv, rfl, rfl, hkn, hB, hS, hX, hP, hK⟩ := hrel
    obtain ⟨m, ka, kn, kc, pa, pn, pc, f, dd, hlit, -, -⟩ := rfv_lit2 hB.rat
    have hrc : rc r kv pv = #[.int .i64 m, .slice ka kn kc, .slice pa pn pc, .int .i64 f, .bool dd] := Value.agg.inj hlit
    rw [hrc] at hX
    by_cases hin : k < L
    · have hin' : (k : Int) < (L : Int) := by omega
      have hk0 : (0 : Int) ≤ (k : Int) := by omega
      have hkl : k < l.length := by rw [hL.out]; exact hin
      obtain ⟨g, off, c, hv, c0, c1, c2, c3⟩ := hA.out.cells hkl
      injection hv with hv e1 e2
      clear e1 e2
      subst hv
      have hga := hA.out.good _ (List.getElem_mem hkl)
      have hgl := hgood.out _ (List.getElem_mem hkl)
      generalize l[k] = a at *
      obtain ⟨kind, i9, s, v9, keep⟩ := a
      obtain ⟨hi, hsl, hI, hold⟩ := hga
      obtain ⟨hq3, hs3⟩ := hgl
      simp only at c0 c1 c2 c3 hi hsl hI hold hq3 hs3
      have hgw0 := World.block_lt_of_cell? w _ c0
      have hu := hB.lv.upd
      have x0 := hu.cell c0 fun h => h
      have x1 := hu.cell c1 fun h => h
      have x2 := hu.cell c2 fun h => h
      have x3 := hu.cell c3 fun h => h
      obtain ⟨_, va, vc2, rfl, -⟩ := id hI
      obtain ⟨q, hq⟩ : ∃ q, keep.length = q := ⟨_, rfl⟩
      rw [hq] at x3
      have hI' : Ints w (.slice va q vc2) keep := by rw [← hq]; exact hI
      have hgF : Hid (¬ F g) := Lib.hid (fun hF => by have := hB.lv.own g hF; simp only at hgw0; omega)
      have hgw : Hid (g < wr.heap.size) := Lib.hid (Nat.lt_of_lt_of_le hgw0 hu.size)
      have hXF : Hid (¬ F w2.heap.size) := Lib.hid (hB.bs _ rfl).1
      have hXlt' : w2.heap.size < wr.heap.size := heap_lt hX
      have hFlt : Hid (∀ k, F k → k < wr.heap.size) := Lib.hid hB.lv.at_.lt
      have cS : Hid (∀ w', Upd Non wr w' → Calls Try.prog 20 #[.pointer (some ⟨D, 0, none⟩), .agg #[.int .i64 m, .slice ka kn kc, .slice pa pn pc, .int .i64 f, .bool dd], .agg #[.int .i64 kind, .int .i64 i9, .string ⟨s.toArray⟩, .slice va q vc2]] w' (Stp (fun k => k = w2.heap.size ∨ (wr.heap.size ≤ k ∧ k < w'.heap.size)) w w' F d)) := Lib.hid (fun w' hu' => by
        have := lStep (hB.grow hu') hS (by omega) kind i9 s va q vc2 keep hi (hI'.non (hu.trans hu' fun _ _ h => h)) hq3 hs3
        rw [hlit] at this
        exact this)
      replace hXlt := Lib.hid hXlt'
      clear c0 c1 c2 c3 hI' hI hold hq3 hs3 hq hB hS hlit hrc hi hsl hkl hu hgw0 hXlt'
      go_wp2_with fail
      refine wp_region_held_drew (S := fun w' => w'.heap[w2.heap.size]? = some (.cells #[.int .i64 m, .slice ka kn kc, .slice pa pn pc, .int .i64 f, .bool dd] 48 (0, 0)) ∧ w'.cell? ⟨g, off + k * 4, none⟩ = some (.int .i64 kind) ∧ w'.cell? ⟨g, off + k * 4 + 1, none⟩ = some (.int .i64 i9) ∧ w'.cell? ⟨g, off + k * 4 + 2, none⟩ = some (.string ⟨s.toArray⟩) ∧ w'.cell? ⟨g, off + k * 4 + 3, none⟩ = some (.slice va q vc2)) (by kernel_rfl) (by exact ⟨hX, x0, x1, x2, x3⟩) (fun hHeld => ?_)
      (refine wpAnyH_take (i := 0) (oi := ?oi_r1) (v := ?v_r1) ?ho_r1 ?hs_r1 ?hf_r1 ?hr_r1 ?hQ_r1 ?hy_r1 ?hS_r1 ?rest_r1; (case hr_r1 => kernel_rfl); (case hf_r1 => kernel_rfl); (case hs_r1 => kernel_rfl); (case ho_r1 => (simp only [List.getElem?_toArray, List.getElem?_cons_succ, List.getElem?_cons_zero]; rfl)); (case hS_r1 => assumption); (case hQ_r1 => exact fun _ _ _ h => h); (case hy_r1 => (refine Or.inl ⟨by rfl, ?_⟩; (intro w hSw; obtain ⟨s0, s1, s2, s3, s4⟩ := hSw; obtain ⟨e0, g0⟩ := cells_of s0; go_simp) <;> with_reducible rfl)); (try simp only [Act.put, List.setIfInBounds_toArray, List.set_cons_zero, List.set_cons_succ]))
      (refine wpAnyH_take (i := 1) (oi := ?oi_r2) (v := ?v_r2) ?ho_r2 ?hs_r2 ?hf_r2 ?hr_r2 ?hQ_r2 ?hy_r2 ?hS_r2 ?rest_r2; (case hr_r2 => kernel_rfl); (case hf_r2 => kernel_rfl); (case hs_r2 => kernel_rfl); (case ho_r2 => (simp only [List.getElem?_toArray, List.getElem?_cons_succ, List.getElem?_cons_zero]; rfl)); (case hS_r2 => assumption); (case hQ_r2 => exact fun _ _ _ h => h); (case hy_r2 => (refine Or.inl ⟨by rfl, ?_⟩; (intro w hSw; obtain ⟨s0, s1, s2, s3, s4⟩ := hSw; obtain ⟨e0, g0⟩ := cells_of s0; go_simp) <;> with_reducible rfl)); (try simp only [Act.put, List.setIfInBounds_toArray, List.set_cons_zero, List.set_cons_succ]))
      (refine wpAnyH_take (i := 2) (oi := ?oi_r3) (v := ?v_r3) ?ho_r3 ?hs_r3 ?hf_r3 ?hr_r3 ?hQ_r3 ?hy_r3 ?hS_r3 ?rest_r3; (case hr_r3 => kernel_rfl); (case hf_r3 => kernel_rfl); (case hs_r3 => kernel_rfl); (case ho_r3 => (simp only [List.getElem?_toArray, List.getElem?_cons_succ, List.getElem?_cons_zero]; rfl)); (case hS_r3 => assumption); (case hQ_r3 => exact fun _ _ _ h => h); (case hy_r3 => (refine Or.inl ⟨by rfl, ?_⟩; (intro w hSw; obtain ⟨s0, s1, s2, s3, s4⟩ := hSw; obtain ⟨e0, g0⟩ := cells_of s0; go_simp) <;> with_reducible rfl)); (try simp only [Act.put, List.setIfInBounds_toArray, List.set_cons_zero, List.set_cons_succ]))
      (refine wpAnyH_take (i := 3) (oi := ?oi_r4) (v := ?v_r4) ?ho_r4 ?hs_r4 ?hf_r4 ?hr_r4 ?hQ_r4 ?hy_r4 ?hS_r4 ?rest_r4; (case hr_r4 => kernel_rfl); (case hf_r4 => kernel_rfl); (case hs_r4 => kernel_rfl); (case ho_r4 => (simp only [List.getElem?_toArray, List.getElem?_cons_succ, List.getElem?_cons_zero]; rfl)); (case hS_r4 => assumption); (case hQ_r4 => exact fun _ _ _ h => h); (case hy_r4 => (refine Or.inl ⟨by rfl, ?_⟩; (intro w hSw; obtain ⟨s0, s1, s2, s3, s4⟩ := hSw; obtain ⟨e0, g0⟩ := cells_of s0; go_simp) <;> with_reducible rfl)); (try simp only [Act.put, List.setIfInBounds_toArray, List.set_cons_zero, List.set_cons_succ]))
      (refine wpAnyH_take (i := 4) (oi := ?oi_r5) (v := ?v_r5) ?ho_r5 ?hs_r5 ?hf_r5 ?hr_r5 ?hQ_r5 ?hy_r5 ?hS_r5 ?rest_r5; (case hr_r5 => kernel_rfl); (case hf_r5 => kernel_rfl); (case hs_r5 => kernel_rfl); (case ho_r5 => (simp only [List.getElem?_toArray, List.getElem?_cons_succ, List.getElem?_cons_zero]; rfl)); (case hS_r5 => assumption); (case hQ_r5 => exact fun _ _ _ h => h); (case hy_r5 => (refine Or.inl ⟨by rfl, ?_⟩; (intro w hSw; obtain ⟨s0, s1, s2, s3, s4⟩ := hSw; obtain ⟨e0, g0⟩ := cells_of s0; go_simp) <;> with_reducible rfl)); (try simp only [Act.put, List.setIfInBounds_toArray, List.set_cons_zero, List.set_cons_succ]))
      (refine wpAnyH_take (i := 5) (oi := ?oi_r6) (v := ?v_r6) ?ho_r6 ?hs_r6 ?hf_r6 ?hr_r6 ?hQ_r6 ?hy_r6 ?hS_r6 ?rest_r6; (case hr_r6 => kernel_rfl); (case hf_r6 => kernel_rfl); (case hs_r6 => kernel_rfl); (case ho_r6 => (simp only [List.getElem?_toArray, List.getElem?_cons_succ, List.getElem?_cons_zero]; rfl)); (case hS_r6 => assumption); (case hQ_r6 => exact fun _ _ _ h => h); (case hy_r6 => (refine Or.inl ⟨by rfl, ?_⟩; (intro w hSw; obtain ⟨s0, s1, s2, s3, s4⟩ := hSw; obtain ⟨e0, g0⟩ := cells_of s0; go_simp) <;> with_reducible rfl)); (try simp only [Act.put, List.setIfInBounds_toArray, List.set_cons_zero, List.set_cons_succ]))
      refine wpAnyH_ready (rs := [6, 11]) (by kernel_rfl) (by simp) ?_
      refine (AllReadyH.cons (o := ?oor7_0) ?hor7_0 ?hsr7_0 (AllReadyH.cons (o := ?oor7_1) ?hor7_1 ?hsr7_1 AllReadyH.nil))
      case hor7_0 => (simp only [List.getElem?_toArray, List.getElem?_cons_succ, List.getElem?_cons_zero]; rfl)
      case hor7_1 => (simp only [List.getElem?_toArray, List.getElem?_cons_succ, List.getElem?_cons_zero]; rfl)
      case hsr7_0 =>
        intro K hK
        go_simp
        go_at_call 20
        refine (cS.out wr.drew (Upd.drew Non wr)).mono ?_
        rintro en w6 ⟨D', F', d', r', kv', pv', rfl, hB6, hS6, hP6, hK6, hu6⟩
        obtain ⟨m', ka', kn', kc', pa', pn', pc', f', dd', hlit', e1', e2'⟩ := rfv_lit2 hB6.rat
        rw [hlit']
        replace e1' := Lib.hid e1'
        replace e2' := Lib.hid e2'
        have hP8 : d'.P.length ≤ k + 1 := by omega
        have hK8 : d'.K.length = n := by omega
        clear hP6 hK6
        have hX6 := hu6.heap (show wr.drew.heap[w2.heap.size]? = _ from hX) hXF.out
        have y0 := hu6.cell (show wr.drew.cell? _ = _ from x0) hgF.out
        have y1 := hu6.cell (show wr.drew.cell? _ = _ from x1) hgF.out
        have y2 := hu6.cell (show wr.drew.cell? _ = _ from x2) hgF.out
        have y3 := hu6.cell (show wr.drew.cell? _ = _ from x3) hgF.out
        have hz0 : wr.heap.size ≤ w6.heap.size := hu6.size
        have hz6 := hu6.size
        replace hB6 := Lib.hid hB6
        replace hS6 := Lib.hid hS6
        replace hlit' := Lib.hid hlit'
        replace hK8 := Lib.hid hK8
        try go_wp2_with fail
        refine hK.out _ _ (by exact ⟨hX6, y0, y1, y2, y3⟩) (fun hHeld => ?_)
        clear hK K hX x0 x1 x2 x3 hu6 cS
        try simp only [Act.put, List.setIfInBounds_toArray, List.set_cons_zero, List.set_cons_succ]
        (refine wpAnyH_take (i := 7) (oi := ?oi_r8) (v := ?v_r8) ?ho_r8 ?hs_r8 ?hf_r8 ?hr_r8 ?hQ_r8 ?hy_r8 ?hS_r8 ?rest_r8; (case hr_r8 => kernel_rfl); (case hf_r8 => kernel_rfl); (case hs_r8 => kernel_rfl); (case ho_r8 => (simp only [List.getElem?_toArray, List.getElem?_cons_succ, List.getElem?_cons_zero]; rfl)); (case hS_r8 => assumption); (case hQ_r8 => exact fun _ _ _ h => h); (case hy_r8 => (refine Or.inl ⟨by rfl, ?_⟩; (intro w hSw; obtain ⟨s0, s1, s2, s3, s4⟩ := hSw; obtain ⟨e0, g0⟩ := cells_of s0; go_simp) <;> with_reducible rfl)); (try simp only [Act.put, List.setIfInBounds_toArray, List.set_cons_zero, List.set_cons_succ]))
        (refine wpAnyH_take (i := 8) (oi := ?oi_r9) (v := ?v_r9) ?ho_r9 ?hs_r9 ?hf_r9 ?hr_r9 ?hQ_r9 ?hy_r9 ?hS_r9 ?rest_r9; (case hr_r9 => kernel_rfl); (case hf_r9 => kernel_rfl); (case hs_r9 => kernel_rfl); (case ho_r9 => (simp only [List.getElem?_toArray, List.getElem?_cons_succ, List.getElem?_cons_zero]; rfl)); (case hS_r9 => assumption); (case hQ_r9 => exact fun _ _ _ h => h); (case hy_r9 => (refine Or.inl ⟨by rfl, ?_⟩; (intro w hSw; obtain ⟨s0, s1, s2, s3, s4⟩ := hSw; obtain ⟨e0, g0⟩ := cells_of s0; go_simp) <;> with_reducible rfl)); (try simp only [Act.put, List.setIfInBounds_toArray, List.set_cons_zero, List.set_cons_succ]))
        (refine wpAnyH_take (i := 9) (oi := ?oi_r10) (v := ?v_r10) ?ho_r10 ?hs_r10 ?hf_r10 ?hr_r10 ?hQ_r10 ?hy_r10 ?hS_r10 ?rest_r10; (case hr_r10 => kernel_rfl); (case hf_r10 => kernel_rfl); (case hs_r10 => kernel_rfl); (case ho_r10 => (simp only [List.getElem?_toArray, List.getElem?_cons_succ, List.getElem?_cons_zero]; rfl)); (case hS_r10 => assumption); (case hQ_r10 => exact fun _ _ _ h => h); (case hy_r10 => (refine Or.inl ⟨by rfl, ?_⟩; (intro w hSw; obtain ⟨s0, s1, s2, s3, s4⟩ := hSw; obtain ⟨e0, g0⟩ := cells_of s0; go_simp) <;> with_reducible rfl)); (try simp only [Act.put, List.setIfInBounds_toArray, List.set_cons_zero, List.set_cons_succ]))
        (refine wpAnyH_take (i := 10) (oi := ?oi_r11) (v := ?v_r11) ?ho_r11 ?hs_r11 ?hf_r11 ?hr_r11 ?hQ_r11 ?hy_r11 ?hS_r11 ?rest_r11; (case hr_r11 => kernel_rfl); (case hf_r11 => kernel_rfl); (case hs_r11 => kernel_rfl); (case ho_r11 => (simp only [List.getElem?_toArray, List.getElem?_cons_succ, List.getElem?_cons_zero]; rfl)); (case hS_r11 => assumption); (case hQ_r11 => exact fun _ _ _ h => h); (case hy_r11 => (refine Or.inl ⟨by rfl, ?_⟩; (intro w hSw; obtain ⟨s0, s1, s2, s3, s4⟩ := hSw; obtain ⟨e0, g0⟩ := cells_of s0; go_simp) <;> with_reducible rfl)); (try simp only [Act.put, List.setIfInBounds_toArray, List.set_cons_zero, List.set_cons_succ]))
        refine wpAnyH_ready (rs := [11]) (by kernel_rfl) (by simp) ?_
        refine (AllReadyH.cons (o := ?oor12_0) ?hor12_0 ?hsr12_0 AllReadyH.nil)
        case hor12_0 => (simp only [List.getElem?_toArray, List.getElem?_cons_succ, List.getElem?_cons_zero]; rfl)
        case hsr12_0 =>
          have hA6 := Upd.alloc Non w6 (.cells #[.int .i64 0, .slice none 0 0, .slice none 0 0, .int .i64 0, .bool false] 48)
          have hX7 := hA6.heap hX6 fun h => h
          have z0 := hA6.cell y0 fun h => h
          have z1 := hA6.cell y1 fun h => h
          have z2 := hA6.cell y2 fun h => h
          have z3 := hA6.cell y3 fun h => h
          have hB7 := Lib.hid (hB6.out.grow hA6)
          clear hA6
          intro K hK
          go_simp
          try go_wp2_with fail
          refine hK.out _ _ (by exact ⟨hX7, z0, z1, z2, z3⟩) (fun hHeld => ?_)
          clear hK K
          try simp only [Act.put, List.setIfInBounds_toArray, List.set_cons_zero, List.set_cons_succ]
          clear hX6 y0 y1 y2 y3
          (refine wpAnyH_take (i := 12) (oi := ?oi_r13) (v := ?v_r13) ?ho_r13 ?hs_r13 ?hf_r13 ?hr_r13 ?hQ_r13 ?hy_r13 ?hS_r13 ?rest_r13; (case hr_r13 => kernel_rfl); (case hf_r13 => kernel_rfl); (case hs_r13 => kernel_rfl); (case ho_r13 => (simp only [List.getElem?_toArray, List.getElem?_cons_succ, List.getElem?_cons_zero]; rfl)); (case hS_r13 => assumption); (case hQ_r13 => exact fun _ _ _ h => h); (case hy_r13 => (refine Or.inl ⟨by rfl, ?_⟩; (intro w hSw; obtain ⟨s0, s1, s2, s3, s4⟩ := hSw; obtain ⟨e0, g0⟩ := cells_of s0; go_simp) <;> with_reducible rfl)); (try simp only [Act.put, List.setIfInBounds_toArray, List.set_cons_zero, List.set_cons_succ]))
          refine wpAnyH_ready (rs := [13]) (by kernel_rfl) (by simp) ?_
          refine (AllReadyH.cons (o := ?oor14_0) ?hor14_0 ?hsr14_0 AllReadyH.nil)
          case hor14_0 => (simp only [List.getElem?_toArray, List.getElem?_cons_succ, List.getElem?_cons_zero]; rfl)
          case hsr14_0 =>
            intro K hK
            refine step_store_blk rfl 48 _ _ rfl w6.heap.size #[.int .i64 m', .slice ka' kn' kc', .slice pa' pn' pc', .int .i64 f', .bool dd'] _ _ rfl rfl (heap_alloc_new w6 (.cells #[.int .i64 0, .slice none 0 0, .slice none 0 0, .int .i64 0, .bool false] 48)) rfl hs5.out (by simp [Value.oneCell']) ?_
            intro w8 hY8 hu8
            have hX8 := hu8.heap hX7 (fun h => by have := hXlt.out; omega)
            have hgz := hgw.out
            have v0 := hu8.cell z0 (fun h => by dsimp only at h; omega)
            have v1 := hu8.cell z1 (fun h => by dsimp only at h; omega)
            have v2 := hu8.cell z2 (fun h => by dsimp only at h; omega)
            have v3 := hu8.cell z3 (fun h => by dsimp only at h; omega)
            try go_wp2_with fail
            refine hK.out _ _ (by exact ⟨hX8, v0, v1, v2, v3⟩) (fun hHeld => ?_)
            clear hK K hX7 z0 z1 z2 z3 hgz
            try simp only [Act.put, List.setIfInBounds_toArray, List.set_cons_zero, List.set_cons_succ]
            (refine wpAnyH_take (i := 14) (oi := ?oi_r15) (v := ?v_r15) ?ho_r15 ?hs_r15 ?hf_r15 ?hr_r15 ?hQ_r15 ?hy_r15 ?hS_r15 ?rest_r15; (case hr_r15 => kernel_rfl); (case hf_r15 => kernel_rfl); (case hs_r15 => kernel_rfl); (case ho_r15 => (simp only [List.getElem?_toArray, List.getElem?_cons_succ, List.getElem?_cons_zero]; rfl)); (case hS_r15 => assumption); (case hQ_r15 => exact fun _ _ _ h => h); (case hy_r15 => (refine Or.inl ⟨by rfl, ?_⟩; (intro w hSw; obtain ⟨s0, s1, s2, s3, s4⟩ := hSw; obtain ⟨e0, g0⟩ := cells_of s0; go_simp) <;> with_reducible rfl)); (try simp only [Act.put, List.setIfInBounds_toArray, List.set_cons_zero, List.set_cons_succ]))
            refine wpAnyH_done (by kernel_rfl) ?_ _
            have hXY : w2.heap.size ≠ w6.heap.size := by have := hXlt.out; omega
            have hB8 := (hB7.out.upd hu8 (fun k hk => by subst hk; exact .inr ⟨Nat.le_refl _, by simp⟩)).sub (B' := fun k => k = w2.heap.size ∨ k = w6.heap.size) (fun k hk => hk.elim (fun h => .inl (.inl h)) (fun h => by subst h; exact .inr ⟨Nat.le_refl _, by simp⟩))
            clear hB7 hu8 v0 v1 v2 v3
            replace e1' := e1'.out
            replace e2' := e2'.out
            replace hS6 := hS6.out
            replace hlit' := hlit'.out
            replace hK8 := hK8.out
            have cP : Hid (∀ w', Upd Non w8 w' → Calls Try.prog 15 #[.pointer (some ⟨D', 0, none⟩)] w' (Ret (.int .i64 (pn' : Int)) w')) := Lib.hid (fun w' hu => by have := lPending (hB8.non hu).lv.at_; rw [hS6.p, ← e1'] at this; exact this)
            have cE : Hid (∀ w', Upd Non w8 w' → Calls Try.prog 16 #[.pointer (some ⟨D', 0, none⟩)] w' (Ret (.bool dd') w')) := Lib.hid (fun w' hu => by have := lDead (hB8.non hu).lv.at_; rw [hS6.dd, ← e2'] at this; exact this)
            have cZ : Hid (∀ w', Upd Non w8 w' → Calls Try.prog 21 #[.pointer (some ⟨D', 0, none⟩)] w' (Ret (.int .i64 (n : Int)) w')) := Lib.hid (fun w' hu => by have := lSize (hB8.non hu).lv.at_; rw [hK8] at this; exact this)
            replace hB8 := Lib.hid hB8
            replace hS6 := Lib.hid hS6
            replace hlit' := Lib.hid hlit'
            replace hK8 := Lib.hid hK8
            clear e1' e2' hHeld
            go_wp2_with fail
            refine wp_region_held_drew (S := fun w' => w'.heap[w6.heap.size]? = some (.cells #[.int .i64 m', .slice ka' kn' kc', .slice pa' pn' pc', .int .i64 f', .bool dd'] 48 (0, 0))) (by kernel_rfl) (by exact hY8) (fun hHeld => ?_)
            (refine wpAnyH_take (i := 0) (oi := ?oi_p1) (v := ?v_p1) ?ho_p1 ?hs_p1 ?hf_p1 ?hr_p1 ?hQ_p1 ?hy_p1 ?hS_p1 ?rest_p1; (case hr_p1 => kernel_rfl); (case hf_p1 => kernel_rfl); (case hs_p1 => kernel_rfl); (case ho_p1 => (simp only [List.getElem?_toArray, List.getElem?_cons_succ, List.getElem?_cons_zero]; rfl)); (case hS_p1 => assumption); (case hQ_p1 => exact fun _ _ _ h => h); (case hy_p1 => (refine Or.inl ⟨by rfl, ?_⟩; (intro w hSw; obtain ⟨e0, g0⟩ := cells_of hSw; go_simp) <;> with_reducible rfl)); (try simp only [Act.put, List.setIfInBounds_toArray, List.set_cons_zero, List.set_cons_succ]))
            (refine wpAnyH_take (i := 1) (oi := ?oi_p2) (v := ?v_p2) ?ho_p2 ?hs_p2 ?hf_p2 ?hr_p2 ?hQ_p2 ?hy_p2 ?hS_p2 ?rest_p2; (case hr_p2 => kernel_rfl); (case hf_p2 => kernel_rfl); (case hs_p2 => kernel_rfl); (case ho_p2 => (simp only [List.getElem?_toArray, List.getElem?_cons_succ, List.getElem?_cons_zero]; rfl)); (case hS_p2 => assumption); (case hQ_p2 => exact fun _ _ _ h => h); (case hy_p2 => (refine Or.inl ⟨by rfl, ?_⟩; (intro w hSw; obtain ⟨e0, g0⟩ := cells_of hSw; go_simp) <;> with_reducible rfl)); (try simp only [Act.put, List.setIfInBounds_toArray, List.set_cons_zero, List.set_cons_succ]))
            (refine wpAnyH_take (i := 2) (oi := ?oi_p3) (v := ?v_p3) ?ho_p3 ?hs_p3 ?hf_p3 ?hr_p3 ?hQ_p3 ?hy_p3 ?hS_p3 ?rest_p3; (case hr_p3 => kernel_rfl); (case hf_p3 => kernel_rfl); (case hs_p3 => kernel_rfl); (case ho_p3 => (simp only [List.getElem?_toArray, List.getElem?_cons_succ, List.getElem?_cons_zero]; rfl)); (case hS_p3 => assumption); (case hQ_p3 => exact fun _ _ _ h => h); (case hy_p3 => (refine Or.inl ⟨by rfl, ?_⟩; (intro w hSw; obtain ⟨e0, g0⟩ := cells_of hSw; go_simp) <;> with_reducible rfl)); (try simp only [Act.put, List.setIfInBounds_toArray, List.set_cons_zero, List.set_cons_succ]))
            (refine wpAnyH_take (i := 3) (oi := ?oi_p4) (v := ?v_p4) ?ho_p4 ?hs_p4 ?hf_p4 ?hr_p4 ?hQ_p4 ?hy_p4 ?hS_p4 ?rest_p4; (case hr_p4 => kernel_rfl); (case hf_p4 => kernel_rfl); (case hs_p4 => kernel_rfl); (case ho_p4 => (simp only [List.getElem?_toArray, List.getElem?_cons_succ, List.getElem?_cons_zero]; rfl)); (case hS_p4 => assumption); (case hQ_p4 => exact fun _ _ _ h => h); (case hy_p4 => (refine Or.inl ⟨by rfl, ?_⟩; (intro w hSw; obtain ⟨e0, g0⟩ := cells_of hSw; go_simp) <;> with_reducible rfl)); (try simp only [Act.put, List.setIfInBounds_toArray, List.set_cons_zero, List.set_cons_succ]))
            (refine wpAnyH_take (i := 4) (oi := ?oi_p5) (v := ?v_p5) ?ho_p5 ?hs_p5 ?hf_p5 ?hr_p5 ?hQ_p5 ?hy_p5 ?hS_p5 ?rest_p5; (case hr_p5 => kernel_rfl); (case hf_p5 => kernel_rfl); (case hs_p5 => kernel_rfl); (case ho_p5 => (simp only [List.getElem?_toArray, List.getElem?_cons_succ, List.getElem?_cons_zero]; rfl)); (case hS_p5 => assumption); (case hQ_p5 => exact fun _ _ _ h => h); (case hy_p5 => (refine Or.inl ⟨by rfl, ?_⟩; (intro w hSw; obtain ⟨e0, g0⟩ := cells_of hSw; go_simp) <;> with_reducible rfl)); (try simp only [Act.put, List.setIfInBounds_toArray, List.set_cons_zero, List.set_cons_succ]))
            (refine wpAnyH_take (i := 5) (oi := ?oi_p6) (v := ?v_p6) ?ho_p6 ?hs_p6 ?hf_p6 ?hr_p6 ?hQ_p6 ?hy_p6 ?hS_p6 ?rest_p6; (case hr_p6 => kernel_rfl); (case hf_p6 => kernel_rfl); (case hs_p6 => kernel_rfl); (case ho_p6 => (simp only [List.getElem?_toArray, List.getElem?_cons_succ, List.getElem?_cons_zero]; rfl)); (case hS_p6 => assumption); (case hQ_p6 => exact fun _ _ _ h => h); (case hy_p6 => (refine Or.inl ⟨by rfl, ?_⟩; (intro w hSw; obtain ⟨e0, g0⟩ := cells_of hSw; go_simp) <;> with_reducible rfl)); (try simp only [Act.put, List.setIfInBounds_toArray, List.set_cons_zero, List.set_cons_succ]))
            (refine wpAnyH_take (i := 6) (oi := ?oi_p7) (v := ?v_p7) ?ho_p7 ?hs_p7 ?hf_p7 ?hr_p7 ?hQ_p7 ?hy_p7 ?hS_p7 ?rest_p7; (case hr_p7 => kernel_rfl); (case hf_p7 => kernel_rfl); (case hs_p7 => kernel_rfl); (case ho_p7 => (simp only [List.getElem?_toArray, List.getElem?_cons_succ, List.getElem?_cons_zero]; rfl)); (case hS_p7 => assumption); (case hQ_p7 => exact fun _ _ _ h => h); (case hy_p7 => (refine Or.inl ⟨by rfl, ?_⟩; (intro w hSw; obtain ⟨e0, g0⟩ := cells_of hSw; go_simp) <;> with_reducible rfl)); (try simp only [Act.put, List.setIfInBounds_toArray, List.set_cons_zero, List.set_cons_succ]))
            (refine wpAnyH_take (i := 7) (oi := ?oi_p8) (v := ?v_p8) ?ho_p8 ?hs_p8 ?hf_p8 ?hr_p8 ?hQ_p8 ?hy_p8 ?hS_p8 ?rest_p8; (case hr_p8 => kernel_rfl); (case hf_p8 => kernel_rfl); (case hs_p8 => kernel_rfl); (case ho_p8 => (simp only [List.getElem?_toArray, List.getElem?_cons_succ, List.getElem?_cons_zero]; rfl)); (case hS_p8 => assumption); (case hQ_p8 => exact fun _ _ _ h => h); (case hy_p8 => (refine Or.inl ⟨by rfl, ?_⟩; (intro w hSw; obtain ⟨e0, g0⟩ := cells_of hSw; go_simp) <;> with_reducible rfl)); (try simp only [Act.put, List.setIfInBounds_toArray, List.set_cons_zero, List.set_cons_succ]))
            (refine wpAnyH_take (i := 9) (oi := ?oi_p9) (v := ?v_p9) ?ho_p9 ?hs_p9 ?hf_p9 ?hr_p9 ?hQ_p9 ?hy_p9 ?hS_p9 ?rest_p9; (case hr_p9 => kernel_rfl); (case hf_p9 => kernel_rfl); (case hs_p9 => kernel_rfl); (case ho_p9 => (simp only [List.getElem?_toArray, List.getElem?_cons_succ, List.getElem?_cons_zero]; rfl)); (case hS_p9 => assumption); (case hQ_p9 => exact fun _ _ _ h => h); (case hy_p9 => (refine Or.inl ⟨by rfl, ?_⟩; (intro w hSw; obtain ⟨e0, g0⟩ := cells_of hSw; go_simp) <;> with_reducible rfl)); (try simp only [Act.put, List.setIfInBounds_toArray, List.set_cons_zero, List.set_cons_succ]))
            (refine wpAnyH_take (i := 10) (oi := ?oi_p10) (v := ?v_p10) ?ho_p10 ?hs_p10 ?hf_p10 ?hr_p10 ?hQ_p10 ?hy_p10 ?hS_p10 ?rest_p10; (case hr_p10 => kernel_rfl); (case hf_p10 => kernel_rfl); (case hs_p10 => kernel_rfl); (case ho_p10 => (simp only [List.getElem?_toArray, List.getElem?_cons_succ, List.getElem?_cons_zero]; rfl)); (case hS_p10 => assumption); (case hQ_p10 => exact fun _ _ _ h => h); (case hy_p10 => (refine Or.inl ⟨by rfl, ?_⟩; (intro w hSw; obtain ⟨e0, g0⟩ := cells_of hSw; go_simp) <;> with_reducible rfl)); (try simp only [Act.put, List.setIfInBounds_toArray, List.set_cons_zero, List.set_cons_succ]))
            (refine wpAnyH_take (i := 11) (oi := ?oi_p11) (v := ?v_p11) ?ho_p11 ?hs_p11 ?hf_p11 ?hr_p11 ?hQ_p11 ?hy_p11 ?hS_p11 ?rest_p11; (case hr_p11 => kernel_rfl); (case hf_p11 => kernel_rfl); (case hs_p11 => kernel_rfl); (case ho_p11 => (simp only [List.getElem?_toArray, List.getElem?_cons_succ, List.getElem?_cons_zero]; rfl)); (case hS_p11 => assumption); (case hQ_p11 => exact fun _ _ _ h => h); (case hy_p11 => (refine Or.inl ⟨by rfl, ?_⟩; (intro w hSw; obtain ⟨e0, g0⟩ := cells_of hSw; go_simp) <;> with_reducible rfl)); (try simp only [Act.put, List.setIfInBounds_toArray, List.set_cons_zero, List.set_cons_succ]))
            refine wpAnyH_ready (rs := [8]) (by kernel_rfl) (by simp) ?_
            refine (AllReadyH.cons (o := ?oop12_0) ?hop12_0 ?hsp12_0 AllReadyH.nil)
            case hop12_0 => (simp only [List.getElem?_toArray, List.getElem?_cons_succ, List.getElem?_cons_zero]; rfl)
            case hsp12_0 =>
              intro K hK
              go_simp
              go_at_call 15
              refine (cP.out w8.drew (Upd.drew Non w8)).mono ?_
              rintro en w9 ⟨rfl, hu9⟩
              have hN9 : Upd Non w8 w9 := (Upd.drew Non w8).trans hu9 fun _ _ h => h
              have hY9 := hN9.heap hY8 fun h => h
              have hX9 := hN9.heap hX8 fun h => h
              clear hu9 cP
              try go_wp2_with fail
              refine hK.out _ _ (by exact hY9) (fun hHeld => ?_)
              clear hK K
              try simp only [Act.put, List.setIfInBounds_toArray, List.set_cons_zero, List.set_cons_succ]
              (refine wpAnyH_take (i := 12) (oi := ?oi_p13) (v := ?v_p13) ?ho_p13 ?hs_p13 ?hf_p13 ?hr_p13 ?hQ_p13 ?hy_p13 ?hS_p13 ?rest_p13; (case hr_p13 => kernel_rfl); (case hf_p13 => kernel_rfl); (case hs_p13 => kernel_rfl); (case ho_p13 => (simp only [List.getElem?_toArray, List.getElem?_cons_succ, List.getElem?_cons_zero]; rfl)); (case hS_p13 => assumption); (case hQ_p13 => exact fun _ _ _ h => h); (case hy_p13 => (refine Or.inl ⟨by rfl, ?_⟩; (intro w hSw; obtain ⟨e0, g0⟩ := cells_of hSw; go_simp) <;> with_reducible rfl)); (try simp only [Act.put, List.setIfInBounds_toArray, List.set_cons_zero, List.set_cons_succ]))
              (refine wpAnyH_take (i := 13) (oi := ?oi_p14) (v := ?v_p14) ?ho_p14 ?hs_p14 ?hf_p14 ?hr_p14 ?hQ_p14 ?hy_p14 ?hS_p14 ?rest_p14; (case hr_p14 => kernel_rfl); (case hf_p14 => kernel_rfl); (case hs_p14 => kernel_rfl); (case ho_p14 => (simp only [List.getElem?_toArray, List.getElem?_cons_succ, List.getElem?_cons_zero]; rfl)); (case hS_p14 => assumption); (case hQ_p14 => exact fun _ _ _ h => h); (case hy_p14 => (refine Or.inl ⟨by rfl, ?_⟩; (intro w hSw; obtain ⟨e0, g0⟩ := cells_of hSw; go_simp) <;> with_reducible rfl)); (try simp only [Act.put, List.setIfInBounds_toArray, List.set_cons_zero, List.set_cons_succ]))
              (refine wpAnyH_take (i := 14) (oi := ?oi_p15) (v := ?v_p15) ?ho_p15 ?hs_p15 ?hf_p15 ?hr_p15 ?hQ_p15 ?hy_p15 ?hS_p15 ?rest_p15; (case hr_p15 => kernel_rfl); (case hf_p15 => kernel_rfl); (case hs_p15 => kernel_rfl); (case ho_p15 => (simp only [List.getElem?_toArray, List.getElem?_cons_succ, List.getElem?_cons_zero]; rfl)); (case hS_p15 => assumption); (case hQ_p15 => exact fun _ _ _ h => h); (case hy_p15 => (refine Or.inl ⟨by rfl, ?_⟩; (intro w hSw; obtain ⟨e0, g0⟩ := cells_of hSw; go_simp) <;> with_reducible rfl)); (try simp only [Act.put, List.setIfInBounds_toArray, List.set_cons_zero, List.set_cons_succ]))
              (refine wpAnyH_take (i := 15) (oi := ?oi_p16) (v := ?v_p16) ?ho_p16 ?hs_p16 ?hf_p16 ?hr_p16 ?hQ_p16 ?hy_p16 ?hS_p16 ?rest_p16; (case hr_p16 => kernel_rfl); (case hf_p16 => kernel_rfl); (case hs_p16 => kernel_rfl); (case ho_p16 => (simp only [List.getElem?_toArray, List.getElem?_cons_succ, List.getElem?_cons_zero]; rfl)); (case hS_p16 => assumption); (case hQ_p16 => exact fun _ _ _ h => h); (case hy_p16 => (refine Or.inl ⟨by rfl, ?_⟩; (intro w hSw; obtain ⟨e0, g0⟩ := cells_of hSw; go_simp) <;> with_reducible rfl)); (try simp only [Act.put, List.setIfInBounds_toArray, List.set_cons_zero, List.set_cons_succ]))
              (refine wpAnyH_take (i := 17) (oi := ?oi_p17) (v := ?v_p17) ?ho_p17 ?hs_p17 ?hf_p17 ?hr_p17 ?hQ_p17 ?hy_p17 ?hS_p17 ?rest_p17; (case hr_p17 => kernel_rfl); (case hf_p17 => kernel_rfl); (case hs_p17 => kernel_rfl); (case ho_p17 => (simp only [List.getElem?_toArray, List.getElem?_cons_succ, List.getElem?_cons_zero]; rfl)); (case hS_p17 => assumption); (case hQ_p17 => exact fun _ _ _ h => h); (case hy_p17 => (refine Or.inl ⟨by rfl, ?_⟩; (intro w hSw; obtain ⟨e0, g0⟩ := cells_of hSw; go_simp) <;> with_reducible rfl)); (try simp only [Act.put, List.setIfInBounds_toArray, List.set_cons_zero, List.set_cons_succ]))
              (refine wpAnyH_take (i := 18) (oi := ?oi_p18) (v := ?v_p18) ?ho_p18 ?hs_p18 ?hf_p18 ?hr_p18 ?hQ_p18 ?hy_p18 ?hS_p18 ?rest_p18; (case hr_p18 => kernel_rfl); (case hf_p18 => kernel_rfl); (case hs_p18 => kernel_rfl); (case ho_p18 => (simp only [List.getElem?_toArray, List.getElem?_cons_succ, List.getElem?_cons_zero]; rfl)); (case hS_p18 => assumption); (case hQ_p18 => exact fun _ _ _ h => h); (case hy_p18 => (refine Or.inl ⟨by rfl, ?_⟩; (intro w hSw; obtain ⟨e0, g0⟩ := cells_of hSw; go_simp) <;> with_reducible rfl)); (try simp only [Act.put, List.setIfInBounds_toArray, List.set_cons_zero, List.set_cons_succ]))
              refine wpAnyH_ready (rs := [16]) (by kernel_rfl) (by simp) ?_
              refine (AllReadyH.cons (o := ?oop19_0) ?hop19_0 ?hsp19_0 AllReadyH.nil)
              case hop19_0 => (simp only [List.getElem?_toArray, List.getElem?_cons_succ, List.getElem?_cons_zero]; rfl)
              case hsp19_0 =>
                intro K hK
                go_simp
                go_at_call 16
                refine (cE.out w9 hN9).mono ?_
                rintro en w10 ⟨rfl, hu10⟩
                have hN10 : Upd Non w8 w10 := hN9.trans hu10 fun _ _ h => h
                have hY10 := hN10.heap hY8 fun h => h
                have hX10 := hN10.heap hX8 fun h => h
                clear hu10 cE hN9 hY9 hX9
                try go_wp2_with fail
                refine hK.out _ _ (by exact hY10) (fun hHeld => ?_)
                clear hK K
                try simp only [Act.put, List.setIfInBounds_toArray, List.set_cons_zero, List.set_cons_succ]
                (refine wpAnyH_take (i := 19) (oi := ?oi_p20) (v := ?v_p20) ?ho_p20 ?hs_p20 ?hf_p20 ?hr_p20 ?hQ_p20 ?hy_p20 ?hS_p20 ?rest_p20; (case hr_p20 => kernel_rfl); (case hf_p20 => kernel_rfl); (case hs_p20 => kernel_rfl); (case ho_p20 => (simp only [List.getElem?_toArray, List.getElem?_cons_succ, List.getElem?_cons_zero]; rfl)); (case hS_p20 => assumption); (case hQ_p20 => exact fun _ _ _ h => h); (case hy_p20 => (refine Or.inl ⟨by rfl, ?_⟩; (intro w hSw; obtain ⟨e0, g0⟩ := cells_of hSw; go_simp) <;> with_reducible rfl)); (try simp only [Act.put, List.setIfInBounds_toArray, List.set_cons_zero, List.set_cons_succ]))
                (refine wpAnyH_take (i := 20) (oi := ?oi_p21) (v := ?v_p21) ?ho_p21 ?hs_p21 ?hf_p21 ?hr_p21 ?hQ_p21 ?hy_p21 ?hS_p21 ?rest_p21; (case hr_p21 => kernel_rfl); (case hf_p21 => kernel_rfl); (case hs_p21 => kernel_rfl); (case ho_p21 => (simp only [List.getElem?_toArray, List.getElem?_cons_succ, List.getElem?_cons_zero]; rfl)); (case hS_p21 => assumption); (case hQ_p21 => exact fun _ _ _ h => h); (case hy_p21 => (refine Or.inl ⟨by rfl, ?_⟩; (intro w hSw; obtain ⟨e0, g0⟩ := cells_of hSw; go_simp) <;> with_reducible rfl)); (try simp only [Act.put, List.setIfInBounds_toArray, List.set_cons_zero, List.set_cons_succ]))
                (refine wpAnyH_take (i := 21) (oi := ?oi_p22) (v := ?v_p22) ?ho_p22 ?hs_p22 ?hf_p22 ?hr_p22 ?hQ_p22 ?hy_p22 ?hS_p22 ?rest_p22; (case hr_p22 => kernel_rfl); (case hf_p22 => kernel_rfl); (case hs_p22 => kernel_rfl); (case ho_p22 => (simp only [List.getElem?_toArray, List.getElem?_cons_succ, List.getElem?_cons_zero]; rfl)); (case hS_p22 => assumption); (case hQ_p22 => exact fun _ _ _ h => h); (case hy_p22 => (refine Or.inl ⟨by rfl, ?_⟩; (intro w hSw; obtain ⟨e0, g0⟩ := cells_of hSw; go_simp) <;> with_reducible rfl)); (try simp only [Act.put, List.setIfInBounds_toArray, List.set_cons_zero, List.set_cons_succ]))
                (refine wpAnyH_take (i := 22) (oi := ?oi_p23) (v := ?v_p23) ?ho_p23 ?hs_p23 ?hf_p23 ?hr_p23 ?hQ_p23 ?hy_p23 ?hS_p23 ?rest_p23; (case hr_p23 => kernel_rfl); (case hf_p23 => kernel_rfl); (case hs_p23 => kernel_rfl); (case ho_p23 => (simp only [List.getElem?_toArray, List.getElem?_cons_succ, List.getElem?_cons_zero]; rfl)); (case hS_p23 => assumption); (case hQ_p23 => exact fun _ _ _ h => h); (case hy_p23 => (refine Or.inl ⟨by rfl, ?_⟩; (intro w hSw; obtain ⟨e0, g0⟩ := cells_of hSw; go_simp) <;> with_reducible rfl)); (try simp only [Act.put, List.setIfInBounds_toArray, List.set_cons_zero, List.set_cons_succ]))
                (refine wpAnyH_take (i := 24) (oi := ?oi_p24) (v := ?v_p24) ?ho_p24 ?hs_p24 ?hf_p24 ?hr_p24 ?hQ_p24 ?hy_p24 ?hS_p24 ?rest_p24; (case hr_p24 => kernel_rfl); (case hf_p24 => kernel_rfl); (case hs_p24 => kernel_rfl); (case ho_p24 => (simp only [List.getElem?_toArray, List.getElem?_cons_succ, List.getElem?_cons_zero]; rfl)); (case hS_p24 => assumption); (case hQ_p24 => exact fun _ _ _ h => h); (case hy_p24 => (refine Or.inl ⟨by rfl, ?_⟩; (intro w hSw; obtain ⟨e0, g0⟩ := cells_of hSw; go_simp) <;> with_reducible rfl)); (try simp only [Act.put, List.setIfInBounds_toArray, List.set_cons_zero, List.set_cons_succ]))
                refine wpAnyH_ready (rs := [23]) (by kernel_rfl) (by simp) ?_
                refine (AllReadyH.cons (o := ?oop25_0) ?hop25_0 ?hsp25_0 AllReadyH.nil)
                case hop25_0 => (simp only [List.getElem?_toArray, List.getElem?_cons_succ, List.getElem?_cons_zero]; rfl)
                case hsp25_0 =>
                  intro K hK
                  go_simp
                  go_at_call 21
                  refine (cZ.out w10 hN10).mono ?_
                  rintro en w11 ⟨rfl, hu11⟩
                  have hN11 : Upd Non w8 w11 := hN10.trans hu11 fun _ _ h => h
                  have hY11 := hN11.heap hY8 fun h => h
                  have hX11 := hN11.heap hX8 fun h => h
                  clear hu11 cZ hN10 hY10 hX10
                  try go_wp2_with fail
                  refine hK.out _ _ (by exact hY11) (fun hHeld => ?_)
                  clear hK K
                  try simp only [Act.put, List.setIfInBounds_toArray, List.set_cons_zero, List.set_cons_succ]
                  (refine wpAnyH_take (i := 25) (oi := ?oi_p26) (v := ?v_p26) ?ho_p26 ?hs_p26 ?hf_p26 ?hr_p26 ?hQ_p26 ?hy_p26 ?hS_p26 ?rest_p26; (case hr_p26 => kernel_rfl); (case hf_p26 => kernel_rfl); (case hs_p26 => kernel_rfl); (case ho_p26 => (simp only [List.getElem?_toArray, List.getElem?_cons_succ, List.getElem?_cons_zero]; rfl)); (case hS_p26 => assumption); (case hQ_p26 => exact fun _ _ _ h => h); (case hy_p26 => (refine Or.inl ⟨by rfl, ?_⟩; (intro w hSw; obtain ⟨e0, g0⟩ := cells_of hSw; go_simp) <;> with_reducible rfl)); (try simp only [Act.put, List.setIfInBounds_toArray, List.set_cons_zero, List.set_cons_succ]))
                  (refine wpAnyH_take (i := 26) (oi := ?oi_p27) (v := ?v_p27) ?ho_p27 ?hs_p27 ?hf_p27 ?hr_p27 ?hQ_p27 ?hy_p27 ?hS_p27 ?rest_p27; (case hr_p27 => kernel_rfl); (case hf_p27 => kernel_rfl); (case hs_p27 => kernel_rfl); (case ho_p27 => (simp only [List.getElem?_toArray, List.getElem?_cons_succ, List.getElem?_cons_zero]; rfl)); (case hS_p27 => assumption); (case hQ_p27 => exact fun _ _ _ h => h); (case hy_p27 => (refine Or.inl ⟨by rfl, ?_⟩; (intro w hSw; obtain ⟨e0, g0⟩ := cells_of hSw; go_simp) <;> with_reducible rfl)); (try simp only [Act.put, List.setIfInBounds_toArray, List.set_cons_zero, List.set_cons_succ]))
                  refine wpAnyH_done (by kernel_rfl) ?_ _
                  clear hHeld hY8 hX8
                  go_wp2_with fail
                  refine wp_region_held_drew (S := fun w' => w'.heap[w6.heap.size]? = some (.cells #[.int .i64 m', .slice ka' kn' kc', .slice pa' pn' pc', .int .i64 f', .bool dd'] 48 (0, 0))) (by kernel_rfl) (by exact hY11) (fun hHeld => ?_)
                  (refine wpAnyH_take (i := 0) (oi := ?oi_p28) (v := ?v_p28) ?ho_p28 ?hs_p28 ?hf_p28 ?hr_p28 ?hQ_p28 ?hy_p28 ?hS_p28 ?rest_p28; (case hr_p28 => kernel_rfl); (case hf_p28 => kernel_rfl); (case hs_p28 => kernel_rfl); (case ho_p28 => (simp only [List.getElem?_toArray, List.getElem?_cons_succ, List.getElem?_cons_zero]; rfl)); (case hS_p28 => assumption); (case hQ_p28 => exact fun _ _ _ h => h); (case hy_p28 => (refine Or.inl ⟨by rfl, ?_⟩; (intro w hSw; obtain ⟨e0, g0⟩ := cells_of hSw; go_simp) <;> with_reducible rfl)); (try simp only [Act.put, List.setIfInBounds_toArray, List.set_cons_zero, List.set_cons_succ]))
                  (refine wpAnyH_take (i := 1) (oi := ?oi_p29) (v := ?v_p29) ?ho_p29 ?hs_p29 ?hf_p29 ?hr_p29 ?hQ_p29 ?hy_p29 ?hS_p29 ?rest_p29; (case hr_p29 => kernel_rfl); (case hf_p29 => kernel_rfl); (case hs_p29 => kernel_rfl); (case ho_p29 => (simp only [List.getElem?_toArray, List.getElem?_cons_succ, List.getElem?_cons_zero]; rfl)); (case hS_p29 => assumption); (case hQ_p29 => exact fun _ _ _ h => h); (case hy_p29 => (refine Or.inl ⟨by rfl, ?_⟩; (intro w hSw; obtain ⟨e0, g0⟩ := cells_of hSw; go_simp) <;> with_reducible rfl)); (try simp only [Act.put, List.setIfInBounds_toArray, List.set_cons_zero, List.set_cons_succ]))
                  (refine wpAnyH_take (i := 2) (oi := ?oi_p30) (v := ?v_p30) ?ho_p30 ?hs_p30 ?hf_p30 ?hr_p30 ?hQ_p30 ?hy_p30 ?hS_p30 ?rest_p30; (case hr_p30 => kernel_rfl); (case hf_p30 => kernel_rfl); (case hs_p30 => kernel_rfl); (case ho_p30 => (simp only [List.getElem?_toArray, List.getElem?_cons_succ, List.getElem?_cons_zero]; rfl)); (case hS_p30 => assumption); (case hQ_p30 => exact fun _ _ _ h => h); (case hy_p30 => (refine Or.inl ⟨by rfl, ?_⟩; (intro w hSw; obtain ⟨e0, g0⟩ := cells_of hSw; go_simp) <;> with_reducible rfl)); (try simp only [Act.put, List.setIfInBounds_toArray, List.set_cons_zero, List.set_cons_succ]))
                  refine wpAnyH_ready (rs := [3]) (by kernel_rfl) (by simp) ?_
                  refine (AllReadyH.cons (o := ?oop31_0) ?hop31_0 ?hsp31_0 AllReadyH.nil)
                  case hop31_0 => (simp only [List.getElem?_toArray, List.getElem?_cons_succ, List.getElem?_cons_zero]; rfl)
                  case hsp31_0 =>
                    intro K hK
                    refine step_store_blk rfl 48 _ _ rfl w2.heap.size #[.int .i64 m', .slice ka' kn' kc', .slice pa' pn' pc', .int .i64 f', .bool dd'] _ _ rfl rfl (show w11.drew.heap[w2.heap.size]? = _ from hX11) rfl hs5.out (by simp [Value.oneCell']) ?_
                    intro w12 hX12 hu12
                    have hY12 := hu12.heap (show w11.drew.heap[w6.heap.size]? = _ from hY11) (fun h => hXY h.symm)
                    try go_wp2_with fail
                    refine hK.out _ _ (by exact hY12) (fun hHeld => ?_)
                    clear hK K
                    try simp only [Act.put, List.setIfInBounds_toArray, List.set_cons_zero, List.set_cons_succ]
                    refine wpAnyH_done (by kernel_rfl) ?_ _
                    have hB12 := (((hB8.out.non hN11).non (Upd.drew Non w11)).upd hu12 (fun k hk => .inl hk)).sub (B' := fun k => k = w2.heap.size) (fun k hk => .inl hk)
                    clear hHeld hu12 hY12 hX11 hY11
                    go_wp2_with fail
                    go_roundw
                    case rel => exact ⟨k + 1, D', F', d', r', kv', pv', rfl, by go_num, by omega, hB12, hS6.out, by rw [show rc r' kv' pv' = #[.int .i64 m', .slice ka' kn' kc', .slice pa' pn' pc', .int .i64 f', .bool dd'] from Value.agg.inj hlit'.out]; exact hX12, hP8, hK8.out⟩
                    case measure => simp [intOf]; omega
      case hsr7_1 =>
        have hA5 : Upd Non wr (wr.drew.alloc (.cells #[.int .i64 0, .slice none 0 0, .slice none 0 0, .int .i64 0, .bool false] 48)) := (Upd.drew Non wr).then_alloc _
        have hX5 := hA5.heap hX fun h => h
        have y0 := hA5.cell x0 fun h => h
        have y1 := hA5.cell x1 fun h => h
        have y2 := hA5.cell x2 fun h => h
        have y3 := hA5.cell x3 fun h => h
        have hc5 := Lib.hid (cS.out _ hA5)
        have hY5 : Hid ((wr.drew.alloc (.cells #[.int .i64 0, .slice none 0 0, .slice none 0 0, .int .i64 0, .bool false] 48)).heap[wr.heap.size]? = _) := Lib.hid (heap_alloc_new wr.drew (.cells #[.int .i64 0, .slice none 0 0, .slice none 0 0, .int .i64 0, .bool false] 48))
        clear hA5 cS
        intro K hK
        go_simp
        try go_wp2_with fail
        refine hK.out _ _ (by exact ⟨hX5, y0, y1, y2, y3⟩) (fun hHeld => ?_)
        clear hK K
        try simp only [Act.put, List.setIfInBounds_toArray, List.set_cons_zero, List.set_cons_succ]
        clear hX x0 x1 x2 x3
        refine wpAnyH_ready (rs := [6]) (by kernel_rfl) (by simp) ?_
        refine (AllReadyH.cons (o := ?oor16_0) ?hor16_0 ?hsr16_0 AllReadyH.nil)
        case hor16_0 => (simp only [List.getElem?_toArray, List.getElem?_cons_succ, List.getElem?_cons_zero]; rfl)
        case hsr16_0 =>
          intro K hK
          go_simp
          go_at_call 20
          refine hc5.out.mono ?_
          rintro en w6 ⟨D', F', d', r', kv', pv', rfl, hB6, hS6, hP6, hK6, hu6⟩
          obtain ⟨m', ka', kn', kc', pa', pn', pc', f', dd', hlit', e1', e2'⟩ := rfv_lit2 hB6.rat
          rw [hlit']
          replace e1' := Lib.hid e1'
          replace e2' := Lib.hid e2'
          have hP8 : d'.P.length ≤ k + 1 := by omega
          have hK8 : d'.K.length = n := by omega
          clear hP6 hK6
          have hX6 := hu6.heap hX5 hXF.out
          have z0 := hu6.cell y0 hgF.out
          have z1 := hu6.cell y1 hgF.out
          have z2 := hu6.cell y2 hgF.out
          have z3 := hu6.cell y3 hgF.out
          have hY6 := hu6.heap hY5.out (fun h => by have := hFlt.out _ h; omega)
          have hz6 := hu6.size
          replace hB6 := Lib.hid hB6
          replace hS6 := Lib.hid hS6
          replace hlit' := Lib.hid hlit'
          replace hK8 := Lib.hid hK8
          try go_wp2_with fail
          refine hK.out _ _ (by exact ⟨hX6, z0, z1, z2, z3⟩) (fun hHeld => ?_)
          clear hK K hX5 y0 y1 y2 y3 hu6 hc5 hY5
          try simp only [Act.put, List.setIfInBounds_toArray, List.set_cons_zero, List.set_cons_succ]
          (refine wpAnyH_take (i := 7) (oi := ?oi_r17) (v := ?v_r17) ?ho_r17 ?hs_r17 ?hf_r17 ?hr_r17 ?hQ_r17 ?hy_r17 ?hS_r17 ?rest_r17; (case hr_r17 => kernel_rfl); (case hf_r17 => kernel_rfl); (case hs_r17 => kernel_rfl); (case ho_r17 => (simp only [List.getElem?_toArray, List.getElem?_cons_succ, List.getElem?_cons_zero]; rfl)); (case hS_r17 => assumption); (case hQ_r17 => exact fun _ _ _ h => h); (case hy_r17 => (refine Or.inl ⟨by rfl, ?_⟩; (intro w hSw; obtain ⟨s0, s1, s2, s3, s4⟩ := hSw; obtain ⟨e0, g0⟩ := cells_of s0; go_simp) <;> with_reducible rfl)); (try simp only [Act.put, List.setIfInBounds_toArray, List.set_cons_zero, List.set_cons_succ]))
          (refine wpAnyH_take (i := 8) (oi := ?oi_r18) (v := ?v_r18) ?ho_r18 ?hs_r18 ?hf_r18 ?hr_r18 ?hQ_r18 ?hy_r18 ?hS_r18 ?rest_r18; (case hr_r18 => kernel_rfl); (case hf_r18 => kernel_rfl); (case hs_r18 => kernel_rfl); (case ho_r18 => (simp only [List.getElem?_toArray, List.getElem?_cons_succ, List.getElem?_cons_zero]; rfl)); (case hS_r18 => assumption); (case hQ_r18 => exact fun _ _ _ h => h); (case hy_r18 => (refine Or.inl ⟨by rfl, ?_⟩; (intro w hSw; obtain ⟨s0, s1, s2, s3, s4⟩ := hSw; obtain ⟨e0, g0⟩ := cells_of s0; go_simp) <;> with_reducible rfl)); (try simp only [Act.put, List.setIfInBounds_toArray, List.set_cons_zero, List.set_cons_succ]))
          (refine wpAnyH_take (i := 9) (oi := ?oi_r19) (v := ?v_r19) ?ho_r19 ?hs_r19 ?hf_r19 ?hr_r19 ?hQ_r19 ?hy_r19 ?hS_r19 ?rest_r19; (case hr_r19 => kernel_rfl); (case hf_r19 => kernel_rfl); (case hs_r19 => kernel_rfl); (case ho_r19 => (simp only [List.getElem?_toArray, List.getElem?_cons_succ, List.getElem?_cons_zero]; rfl)); (case hS_r19 => assumption); (case hQ_r19 => exact fun _ _ _ h => h); (case hy_r19 => (refine Or.inl ⟨by rfl, ?_⟩; (intro w hSw; obtain ⟨s0, s1, s2, s3, s4⟩ := hSw; obtain ⟨e0, g0⟩ := cells_of s0; go_simp) <;> with_reducible rfl)); (try simp only [Act.put, List.setIfInBounds_toArray, List.set_cons_zero, List.set_cons_succ]))
          (refine wpAnyH_take (i := 10) (oi := ?oi_r20) (v := ?v_r20) ?ho_r20 ?hs_r20 ?hf_r20 ?hr_r20 ?hQ_r20 ?hy_r20 ?hS_r20 ?rest_r20; (case hr_r20 => kernel_rfl); (case hf_r20 => kernel_rfl); (case hs_r20 => kernel_rfl); (case ho_r20 => (simp only [List.getElem?_toArray, List.getElem?_cons_succ, List.getElem?_cons_zero]; rfl)); (case hS_r20 => assumption); (case hQ_r20 => exact fun _ _ _ h => h); (case hy_r20 => (refine Or.inl ⟨by rfl, ?_⟩; (intro w hSw; obtain ⟨s0, s1, s2, s3, s4⟩ := hSw; obtain ⟨e0, g0⟩ := cells_of s0; go_simp) <;> with_reducible rfl)); (try simp only [Act.put, List.setIfInBounds_toArray, List.set_cons_zero, List.set_cons_succ]))
          (refine wpAnyH_take (i := 12) (oi := ?oi_r21) (v := ?v_r21) ?ho_r21 ?hs_r21 ?hf_r21 ?hr_r21 ?hQ_r21 ?hy_r21 ?hS_r21 ?rest_r21; (case hr_r21 => kernel_rfl); (case hf_r21 => kernel_rfl); (case hs_r21 => kernel_rfl); (case ho_r21 => (simp only [List.getElem?_toArray, List.getElem?_cons_succ, List.getElem?_cons_zero]; rfl)); (case hS_r21 => assumption); (case hQ_r21 => exact fun _ _ _ h => h); (case hy_r21 => (refine Or.inl ⟨by rfl, ?_⟩; (intro w hSw; obtain ⟨s0, s1, s2, s3, s4⟩ := hSw; obtain ⟨e0, g0⟩ := cells_of s0; go_simp) <;> with_reducible rfl)); (try simp only [Act.put, List.setIfInBounds_toArray, List.set_cons_zero, List.set_cons_succ]))
          refine wpAnyH_ready (rs := [13]) (by kernel_rfl) (by simp) ?_
          refine (AllReadyH.cons (o := ?oor22_0) ?hor22_0 ?hsr22_0 AllReadyH.nil)
          case hor22_0 => (simp only [List.getElem?_toArray, List.getElem?_cons_succ, List.getElem?_cons_zero]; rfl)
          case hsr22_0 =>
            intro K hK
            refine step_store_blk rfl 48 _ _ rfl wr.heap.size #[.int .i64 m', .slice ka' kn' kc', .slice pa' pn' pc', .int .i64 f', .bool dd'] _ _ rfl rfl hY6 rfl hs5.out (by simp [Value.oneCell']) ?_
            intro w8 hY8 hu8
            have hX8 := hu8.heap hX6 (fun h => by have := hXlt.out; omega)
            have hgz := hgw.out
            have v0 := hu8.cell z0 (fun h => by dsimp only at h; omega)
            have v1 := hu8.cell z1 (fun h => by dsimp only at h; omega)
            have v2 := hu8.cell z2 (fun h => by dsimp only at h; omega)
            have v3 := hu8.cell z3 (fun h => by dsimp only at h; omega)
            try go_wp2_with fail
            refine hK.out _ _ (by exact ⟨hX8, v0, v1, v2, v3⟩) (fun hHeld => ?_)
            clear hK K hX6 z0 z1 z2 z3 hgz hY6
            try simp only [Act.put, List.setIfInBounds_toArray, List.set_cons_zero, List.set_cons_succ]
            (refine wpAnyH_take (i := 14) (oi := ?oi_r23) (v := ?v_r23) ?ho_r23 ?hs_r23 ?hf_r23 ?hr_r23 ?hQ_r23 ?hy_r23 ?hS_r23 ?rest_r23; (case hr_r23 => kernel_rfl); (case hf_r23 => kernel_rfl); (case hs_r23 => kernel_rfl); (case ho_r23 => (simp only [List.getElem?_toArray, List.getElem?_cons_succ, List.getElem?_cons_zero]; rfl)); (case hS_r23 => assumption); (case hQ_r23 => exact fun _ _ _ h => h); (case hy_r23 => (refine Or.inl ⟨by rfl, ?_⟩; (intro w hSw; obtain ⟨s0, s1, s2, s3, s4⟩ := hSw; obtain ⟨e0, g0⟩ := cells_of s0; go_simp) <;> with_reducible rfl)); (try simp only [Act.put, List.setIfInBounds_toArray, List.set_cons_zero, List.set_cons_succ]))
            refine wpAnyH_done (by kernel_rfl) ?_ _
            have hXY : w2.heap.size ≠ wr.heap.size := by have := hXlt.out; omega
            have hYin : wr.heap.size ≤ wr.heap.size ∧ wr.heap.size < (wr.drew.alloc (.cells #[.int .i64 0, .slice none 0 0, .slice none 0 0, .int .i64 0, .bool false] 48)).heap.size := ⟨Nat.le_refl _, by simp⟩
            have hB8 := (hB6.out.upd hu8 (fun k hk => by subst hk; exact .inr hYin)).sub (B' := fun k => k = w2.heap.size ∨ k = wr.heap.size) (fun k hk => hk.elim (fun h => .inl h) (fun h => by subst h; exact .inr hYin))
            clear hB6 hu8 v0 v1 v2 v3 hYin
            replace e1' := e1'.out
            replace e2' := e2'.out
            replace hS6 := hS6.out
            replace hlit' := hlit'.out
            replace hK8 := hK8.out
            have cP : Hid (∀ w', Upd Non w8 w' → Calls Try.prog 15 #[.pointer (some ⟨D', 0, none⟩)] w' (Ret (.int .i64 (pn' : Int)) w')) := Lib.hid (fun w' hu => by have := lPending (hB8.non hu).lv.at_; rw [hS6.p, ← e1'] at this; exact this)
            have cE : Hid (∀ w', Upd Non w8 w' → Calls Try.prog 16 #[.pointer (some ⟨D', 0, none⟩)] w' (Ret (.bool dd') w')) := Lib.hid (fun w' hu => by have := lDead (hB8.non hu).lv.at_; rw [hS6.dd, ← e2'] at this; exact this)
            have cZ : Hid (∀ w', Upd Non w8 w' → Calls Try.prog 21 #[.pointer (some ⟨D', 0, none⟩)] w' (Ret (.int .i64 (n : Int)) w')) := Lib.hid (fun w' hu => by have := lSize (hB8.non hu).lv.at_; rw [hK8] at this; exact this)
            replace hB8 := Lib.hid hB8
            replace hS6 := Lib.hid hS6
            replace hlit' := Lib.hid hlit'
            replace hK8 := Lib.hid hK8
            clear e1' e2' hHeld
            go_wp2_with fail
            refine wp_region_held_drew (S := fun w' => w'.heap[wr.heap.size]? = some (.cells #[.int .i64 m', .slice ka' kn' kc', .slice pa' pn' pc', .int .i64 f', .bool dd'] 48 (0, 0))) (by kernel_rfl) (by exact hY8) (fun hHeld => ?_)
            (refine wpAnyH_take (i := 0) (oi := ?oi_q1) (v := ?v_q1) ?ho_q1 ?hs_q1 ?hf_q1 ?hr_q1 ?hQ_q1 ?hy_q1 ?hS_q1 ?rest_q1; (case hr_q1 => kernel_rfl); (case hf_q1 => kernel_rfl); (case hs_q1 => kernel_rfl); (case ho_q1 => (simp only [List.getElem?_toArray, List.getElem?_cons_succ, List.getElem?_cons_zero]; rfl)); (case hS_q1 => assumption); (case hQ_q1 => exact fun _ _ _ h => h); (case hy_q1 => (refine Or.inl ⟨by rfl, ?_⟩; (intro w hSw; obtain ⟨e0, g0⟩ := cells_of hSw; go_simp) <;> with_reducible rfl)); (try simp only [Act.put, List.setIfInBounds_toArray, List.set_cons_zero, List.set_cons_succ]))
            (refine wpAnyH_take (i := 1) (oi := ?oi_q2) (v := ?v_q2) ?ho_q2 ?hs_q2 ?hf_q2 ?hr_q2 ?hQ_q2 ?hy_q2 ?hS_q2 ?rest_q2; (case hr_q2 => kernel_rfl); (case hf_q2 => kernel_rfl); (case hs_q2 => kernel_rfl); (case ho_q2 => (simp only [List.getElem?_toArray, List.getElem?_cons_succ, List.getElem?_cons_zero]; rfl)); (case hS_q2 => assumption); (case hQ_q2 => exact fun _ _ _ h => h); (case hy_q2 => (refine Or.inl ⟨by rfl, ?_⟩; (intro w hSw; obtain ⟨e0, g0⟩ := cells_of hSw; go_simp) <;> with_reducible rfl)); (try simp only [Act.put, List.setIfInBounds_toArray, List.set_cons_zero, List.set_cons_succ]))
            (refine wpAnyH_take (i := 2) (oi := ?oi_q3) (v := ?v_q3) ?ho_q3 ?hs_q3 ?hf_q3 ?hr_q3 ?hQ_q3 ?hy_q3 ?hS_q3 ?rest_q3; (case hr_q3 => kernel_rfl); (case hf_q3 => kernel_rfl); (case hs_q3 => kernel_rfl); (case ho_q3 => (simp only [List.getElem?_toArray, List.getElem?_cons_succ, List.getElem?_cons_zero]; rfl)); (case hS_q3 => assumption); (case hQ_q3 => exact fun _ _ _ h => h); (case hy_q3 => (refine Or.inl ⟨by rfl, ?_⟩; (intro w hSw; obtain ⟨e0, g0⟩ := cells_of hSw; go_simp) <;> with_reducible rfl)); (try simp only [Act.put, List.setIfInBounds_toArray, List.set_cons_zero, List.set_cons_succ]))
            (refine wpAnyH_take (i := 3) (oi := ?oi_q4) (v := ?v_q4) ?ho_q4 ?hs_q4 ?hf_q4 ?hr_q4 ?hQ_q4 ?hy_q4 ?hS_q4 ?rest_q4; (case hr_q4 => kernel_rfl); (case hf_q4 => kernel_rfl); (case hs_q4 => kernel_rfl); (case ho_q4 => (simp only [List.getElem?_toArray, List.getElem?_cons_succ, List.getElem?_cons_zero]; rfl)); (case hS_q4 => assumption); (case hQ_q4 => exact fun _ _ _ h => h); (case hy_q4 => (refine Or.inl ⟨by rfl, ?_⟩; (intro w hSw; obtain ⟨e0, g0⟩ := cells_of hSw; go_simp) <;> with_reducible rfl)); (try simp only [Act.put, List.setIfInBounds_toArray, List.set_cons_zero, List.set_cons_succ]))
            (refine wpAnyH_take (i := 4) (oi := ?oi_q5) (v := ?v_q5) ?ho_q5 ?hs_q5 ?hf_q5 ?hr_q5 ?hQ_q5 ?hy_q5 ?hS_q5 ?rest_q5; (case hr_q5 => kernel_rfl); (case hf_q5 => kernel_rfl); (case hs_q5 => kernel_rfl); (case ho_q5 => (simp only [List.getElem?_toArray, List.getElem?_cons_succ, List.getElem?_cons_zero]; rfl)); (case hS_q5 => assumption); (case hQ_q5 => exact fun _ _ _ h => h); (case hy_q5 => (refine Or.inl ⟨by rfl, ?_⟩; (intro w hSw; obtain ⟨e0, g0⟩ := cells_of hSw; go_simp) <;> with_reducible rfl)); (try simp only [Act.put, List.setIfInBounds_toArray, List.set_cons_zero, List.set_cons_succ]))
            (refine wpAnyH_take (i := 5) (oi := ?oi_q6) (v := ?v_q6) ?ho_q6 ?hs_q6 ?hf_q6 ?hr_q6 ?hQ_q6 ?hy_q6 ?hS_q6 ?rest_q6; (case hr_q6 => kernel_rfl); (case hf_q6 => kernel_rfl); (case hs_q6 => kernel_rfl); (case ho_q6 => (simp only [List.getElem?_toArray, List.getElem?_cons_succ, List.getElem?_cons_zero]; rfl)); (case hS_q6 => assumption); (case hQ_q6 => exact fun _ _ _ h => h); (case hy_q6 => (refine Or.inl ⟨by rfl, ?_⟩; (intro w hSw; obtain ⟨e0, g0⟩ := cells_of hSw; go_simp) <;> with_reducible rfl)); (try simp only [Act.put, List.setIfInBounds_toArray, List.set_cons_zero, List.set_cons_succ]))
            (refine wpAnyH_take (i := 6) (oi := ?oi_q7) (v := ?v_q7) ?ho_q7 ?hs_q7 ?hf_q7 ?hr_q7 ?hQ_q7 ?hy_q7 ?hS_q7 ?rest_q7; (case hr_q7 => kernel_rfl); (case hf_q7 => kernel_rfl); (case hs_q7 => kernel_rfl); (case ho_q7 => (simp only [List.getElem?_toArray, List.getElem?_cons_succ, List.getElem?_cons_zero]; rfl)); (case hS_q7 => assumption); (case hQ_q7 => exact fun _ _ _ h => h); (case hy_q7 => (refine Or.inl ⟨by rfl, ?_⟩; (intro w hSw; obtain ⟨e0, g0⟩ := cells_of hSw; go_simp) <;> with_reducible rfl)); (try simp only [Act.put, List.setIfInBounds_toArray, List.set_cons_zero, List.set_cons_succ]))
            (refine wpAnyH_take (i := 7) (oi := ?oi_q8) (v := ?v_q8) ?ho_q8 ?hs_q8 ?hf_q8 ?hr_q8 ?hQ_q8 ?hy_q8 ?hS_q8 ?rest_q8; (case hr_q8 => kernel_rfl); (case hf_q8 => kernel_rfl); (case hs_q8 => kernel_rfl); (case ho_q8 => (simp only [List.getElem?_toArray, List.getElem?_cons_succ, List.getElem?_cons_zero]; rfl)); (case hS_q8 => assumption); (case hQ_q8 => exact fun _ _ _ h => h); (case hy_q8 => (refine Or.inl ⟨by rfl, ?_⟩; (intro w hSw; obtain ⟨e0, g0⟩ := cells_of hSw; go_simp) <;> with_reducible rfl)); (try simp only [Act.put, List.setIfInBounds_toArray, List.set_cons_zero, List.set_cons_succ]))
            (refine wpAnyH_take (i := 9) (oi := ?oi_q9) (v := ?v_q9) ?ho_q9 ?hs_q9 ?hf_q9 ?hr_q9 ?hQ_q9 ?hy_q9 ?hS_q9 ?rest_q9; (case hr_q9 => kernel_rfl); (case hf_q9 => kernel_rfl); (case hs_q9 => kernel_rfl); (case ho_q9 => (simp only [List.getElem?_toArray, List.getElem?_cons_succ, List.getElem?_cons_zero]; rfl)); (case hS_q9 => assumption); (case hQ_q9 => exact fun _ _ _ h => h); (case hy_q9 => (refine Or.inl ⟨by rfl, ?_⟩; (intro w hSw; obtain ⟨e0, g0⟩ := cells_of hSw; go_simp) <;> with_reducible rfl)); (try simp only [Act.put, List.setIfInBounds_toArray, List.set_cons_zero, List.set_cons_succ]))
            (refine wpAnyH_take (i := 10) (oi := ?oi_q10) (v := ?v_q10) ?ho_q10 ?hs_q10 ?hf_q10 ?hr_q10 ?hQ_q10 ?hy_q10 ?hS_q10 ?rest_q10; (case hr_q10 => kernel_rfl); (case hf_q10 => kernel_rfl); (case hs_q10 => kernel_rfl); (case ho_q10 => (simp only [List.getElem?_toArray, List.getElem?_cons_succ, List.getElem?_cons_zero]; rfl)); (case hS_q10 => assumption); (case hQ_q10 => exact fun _ _ _ h => h); (case hy_q10 => (refine Or.inl ⟨by rfl, ?_⟩; (intro w hSw; obtain ⟨e0, g0⟩ := cells_of hSw; go_simp) <;> with_reducible rfl)); (try simp only [Act.put, List.setIfInBounds_toArray, List.set_cons_zero, List.set_cons_succ]))
            (refine wpAnyH_take (i := 11) (oi := ?oi_q11) (v := ?v_q11) ?ho_q11 ?hs_q11 ?hf_q11 ?hr_q11 ?hQ_q11 ?hy_q11 ?hS_q11 ?rest_q11; (case hr_q11 => kernel_rfl); (case hf_q11 => kernel_rfl); (case hs_q11 => kernel_rfl); (case ho_q11 => (simp only [List.getElem?_toArray, List.getElem?_cons_succ, List.getElem?_cons_zero]; rfl)); (case hS_q11 => assumption); (case hQ_q11 => exact fun _ _ _ h => h); (case hy_q11 => (refine Or.inl ⟨by rfl, ?_⟩; (intro w hSw; obtain ⟨e0, g0⟩ := cells_of hSw; go_simp) <;> with_reducible rfl)); (try simp only [Act.put, List.setIfInBounds_toArray, List.set_cons_zero, List.set_cons_succ]))
            refine wpAnyH_ready (rs := [8]) (by kernel_rfl) (by simp) ?_
            refine (AllReadyH.cons (o := ?ooq12_0) ?hoq12_0 ?hsq12_0 AllReadyH.nil)
            case hoq12_0 => (simp only [List.getElem?_toArray, List.getElem?_cons_succ, List.getElem?_cons_zero]; rfl)
            case hsq12_0 =>
              intro K hK
              go_simp
              go_at_call 15
              refine (cP.out w8.drew (Upd.drew Non w8)).mono ?_
              rintro en w9 ⟨rfl, hu9⟩
              have hN9 : Upd Non w8 w9 := (Upd.drew Non w8).trans hu9 fun _ _ h => h
              have hY9 := hN9.heap hY8 fun h => h
              have hX9 := hN9.heap hX8 fun h => h
              clear hu9 cP
              try go_wp2_with fail
              refine hK.out _ _ (by exact hY9) (fun hHeld => ?_)
              clear hK K
              try simp only [Act.put, List.setIfInBounds_toArray, List.set_cons_zero, List.set_cons_succ]
              (refine wpAnyH_take (i := 12) (oi := ?oi_q13) (v := ?v_q13) ?ho_q13 ?hs_q13 ?hf_q13 ?hr_q13 ?hQ_q13 ?hy_q13 ?hS_q13 ?rest_q13; (case hr_q13 => kernel_rfl); (case hf_q13 => kernel_rfl); (case hs_q13 => kernel_rfl); (case ho_q13 => (simp only [List.getElem?_toArray, List.getElem?_cons_succ, List.getElem?_cons_zero]; rfl)); (case hS_q13 => assumption); (case hQ_q13 => exact fun _ _ _ h => h); (case hy_q13 => (refine Or.inl ⟨by rfl, ?_⟩; (intro w hSw; obtain ⟨e0, g0⟩ := cells_of hSw; go_simp) <;> with_reducible rfl)); (try simp only [Act.put, List.setIfInBounds_toArray, List.set_cons_zero, List.set_cons_succ]))
              (refine wpAnyH_take (i := 13) (oi := ?oi_q14) (v := ?v_q14) ?ho_q14 ?hs_q14 ?hf_q14 ?hr_q14 ?hQ_q14 ?hy_q14 ?hS_q14 ?rest_q14; (case hr_q14 => kernel_rfl); (case hf_q14 => kernel_rfl); (case hs_q14 => kernel_rfl); (case ho_q14 => (simp only [List.getElem?_toArray, List.getElem?_cons_succ, List.getElem?_cons_zero]; rfl)); (case hS_q14 => assumption); (case hQ_q14 => exact fun _ _ _ h => h); (case hy_q14 => (refine Or.inl ⟨by rfl, ?_⟩; (intro w hSw; obtain ⟨e0, g0⟩ := cells_of hSw; go_simp) <;> with_reducible rfl)); (try simp only [Act.put, List.setIfInBounds_toArray, List.set_cons_zero, List.set_cons_succ]))
              (refine wpAnyH_take (i := 14) (oi := ?oi_q15) (v := ?v_q15) ?ho_q15 ?hs_q15 ?hf_q15 ?hr_q15 ?hQ_q15 ?hy_q15 ?hS_q15 ?rest_q15; (case hr_q15 => kernel_rfl); (case hf_q15 => kernel_rfl); (case hs_q15 => kernel_rfl); (case ho_q15 => (simp only [List.getElem?_toArray, List.getElem?_cons_succ, List.getElem?_cons_zero]; rfl)); (case hS_q15 => assumption); (case hQ_q15 => exact fun _ _ _ h => h); (case hy_q15 => (refine Or.inl ⟨by rfl, ?_⟩; (intro w hSw; obtain ⟨e0, g0⟩ := cells_of hSw; go_simp) <;> with_reducible rfl)); (try simp only [Act.put, List.setIfInBounds_toArray, List.set_cons_zero, List.set_cons_succ]))
              (refine wpAnyH_take (i := 15) (oi := ?oi_q16) (v := ?v_q16) ?ho_q16 ?hs_q16 ?hf_q16 ?hr_q16 ?hQ_q16 ?hy_q16 ?hS_q16 ?rest_q16; (case hr_q16 => kernel_rfl); (case hf_q16 => kernel_rfl); (case hs_q16 => kernel_rfl); (case ho_q16 => (simp only [List.getElem?_toArray, List.getElem?_cons_succ, List.getElem?_cons_zero]; rfl)); (case hS_q16 => assumption); (case hQ_q16 => exact fun _ _ _ h => h); (case hy_q16 => (refine Or.inl ⟨by rfl, ?_⟩; (intro w hSw; obtain ⟨e0, g0⟩ := cells_of hSw; go_simp) <;> with_reducible rfl)); (try simp only [Act.put, List.setIfInBounds_toArray, List.set_cons_zero, List.set_cons_succ]))
              (refine wpAnyH_take (i := 17) (oi := ?oi_q17) (v := ?v_q17) ?ho_q17 ?hs_q17 ?hf_q17 ?hr_q17 ?hQ_q17 ?hy_q17 ?hS_q17 ?rest_q17; (case hr_q17 => kernel_rfl); (case hf_q17 => kernel_rfl); (case hs_q17 => kernel_rfl); (case ho_q17 => (simp only [List.getElem?_toArray, List.getElem?_cons_succ, List.getElem?_cons_zero]; rfl)); (case hS_q17 => assumption); (case hQ_q17 => exact fun _ _ _ h => h); (case hy_q17 => (refine Or.inl ⟨by rfl, ?_⟩; (intro w hSw; obtain ⟨e0, g0⟩ := cells_of hSw; go_simp) <;> with_reducible rfl)); (try simp only [Act.put, List.setIfInBounds_toArray, List.set_cons_zero, List.set_cons_succ]))
              (refine wpAnyH_take (i := 18) (oi := ?oi_q18) (v := ?v_q18) ?ho_q18 ?hs_q18 ?hf_q18 ?hr_q18 ?hQ_q18 ?hy_q18 ?hS_q18 ?rest_q18; (case hr_q18 => kernel_rfl); (case hf_q18 => kernel_rfl); (case hs_q18 => kernel_rfl); (case ho_q18 => (simp only [List.getElem?_toArray, List.getElem?_cons_succ, List.getElem?_cons_zero]; rfl)); (case hS_q18 => assumption); (case hQ_q18 => exact fun _ _ _ h => h); (case hy_q18 => (refine Or.inl ⟨by rfl, ?_⟩; (intro w hSw; obtain ⟨e0, g0⟩ := cells_of hSw; go_simp) <;> with_reducible rfl)); (try simp only [Act.put, List.setIfInBounds_toArray, List.set_cons_zero, List.set_cons_succ]))
              refine wpAnyH_ready (rs := [16]) (by kernel_rfl) (by simp) ?_
              refine (AllReadyH.cons (o := ?ooq19_0) ?hoq19_0 ?hsq19_0 AllReadyH.nil)
              case hoq19_0 => (simp only [List.getElem?_toArray, List.getElem?_cons_succ, List.getElem?_cons_zero]; rfl)
              case hsq19_0 =>
                intro K hK
                go_simp
                go_at_call 16
                refine (cE.out w9 hN9).mono ?_
                rintro en w10 ⟨rfl, hu10⟩
                have hN10 : Upd Non w8 w10 := hN9.trans hu10 fun _ _ h => h
                have hY10 := hN10.heap hY8 fun h => h
                have hX10 := hN10.heap hX8 fun h => h
                clear hu10 cE hN9 hY9 hX9
                try go_wp2_with fail
                refine hK.out _ _ (by exact hY10) (fun hHeld => ?_)
                clear hK K
                try simp only [Act.put, List.setIfInBounds_toArray, List.set_cons_zero, List.set_cons_succ]
                (refine wpAnyH_take (i := 19) (oi := ?oi_q20) (v := ?v_q20) ?ho_q20 ?hs_q20 ?hf_q20 ?hr_q20 ?hQ_q20 ?hy_q20 ?hS_q20 ?rest_q20; (case hr_q20 => kernel_rfl); (case hf_q20 => kernel_rfl); (case hs_q20 => kernel_rfl); (case ho_q20 => (simp only [List.getElem?_toArray, List.getElem?_cons_succ, List.getElem?_cons_zero]; rfl)); (case hS_q20 => assumption); (case hQ_q20 => exact fun _ _ _ h => h); (case hy_q20 => (refine Or.inl ⟨by rfl, ?_⟩; (intro w hSw; obtain ⟨e0, g0⟩ := cells_of hSw; go_simp) <;> with_reducible rfl)); (try simp only [Act.put, List.setIfInBounds_toArray, List.set_cons_zero, List.set_cons_succ]))
                (refine wpAnyH_take (i := 20) (oi := ?oi_q21) (v := ?v_q21) ?ho_q21 ?hs_q21 ?hf_q21 ?hr_q21 ?hQ_q21 ?hy_q21 ?hS_q21 ?rest_q21; (case hr_q21 => kernel_rfl); (case hf_q21 => kernel_rfl); (case hs_q21 => kernel_rfl); (case ho_q21 => (simp only [List.getElem?_toArray, List.getElem?_cons_succ, List.getElem?_cons_zero]; rfl)); (case hS_q21 => assumption); (case hQ_q21 => exact fun _ _ _ h => h); (case hy_q21 => (refine Or.inl ⟨by rfl, ?_⟩; (intro w hSw; obtain ⟨e0, g0⟩ := cells_of hSw; go_simp) <;> with_reducible rfl)); (try simp only [Act.put, List.setIfInBounds_toArray, List.set_cons_zero, List.set_cons_succ]))
                (refine wpAnyH_take (i := 21) (oi := ?oi_q22) (v := ?v_q22) ?ho_q22 ?hs_q22 ?hf_q22 ?hr_q22 ?hQ_q22 ?hy_q22 ?hS_q22 ?rest_q22; (case hr_q22 => kernel_rfl); (case hf_q22 => kernel_rfl); (case hs_q22 => kernel_rfl); (case ho_q22 => (simp only [List.getElem?_toArray, List.getElem?_cons_succ, List.getElem?_cons_zero]; rfl)); (case hS_q22 => assumption); (case hQ_q22 => exact fun _ _ _ h => h); (case hy_q22 => (refine Or.inl ⟨by rfl, ?_⟩; (intro w hSw; obtain ⟨e0, g0⟩ := cells_of hSw; go_simp) <;> with_reducible rfl)); (try simp only [Act.put, List.setIfInBounds_toArray, List.set_cons_zero, List.set_cons_succ]))
                (refine wpAnyH_take (i := 22) (oi := ?oi_q23) (v := ?v_q23) ?ho_q23 ?hs_q23 ?hf_q23 ?hr_q23 ?hQ_q23 ?hy_q23 ?hS_q23 ?rest_q23; (case hr_q23 => kernel_rfl); (case hf_q23 => kernel_rfl); (case hs_q23 => kernel_rfl); (case ho_q23 => (simp only [List.getElem?_toArray, List.getElem?_cons_succ, List.getElem?_cons_zero]; rfl)); (case hS_q23 => assumption); (case hQ_q23 => exact fun _ _ _ h => h); (case hy_q23 => (refine Or.inl ⟨by rfl, ?_⟩; (intro w hSw; obtain ⟨e0, g0⟩ := cells_of hSw; go_simp) <;> with_reducible rfl)); (try simp only [Act.put, List.setIfInBounds_toArray, List.set_cons_zero, List.set_cons_succ]))
                (refine wpAnyH_take (i := 24) (oi := ?oi_q24) (v := ?v_q24) ?ho_q24 ?hs_q24 ?hf_q24 ?hr_q24 ?hQ_q24 ?hy_q24 ?hS_q24 ?rest_q24; (case hr_q24 => kernel_rfl); (case hf_q24 => kernel_rfl); (case hs_q24 => kernel_rfl); (case ho_q24 => (simp only [List.getElem?_toArray, List.getElem?_cons_succ, List.getElem?_cons_zero]; rfl)); (case hS_q24 => assumption); (case hQ_q24 => exact fun _ _ _ h => h); (case hy_q24 => (refine Or.inl ⟨by rfl, ?_⟩; (intro w hSw; obtain ⟨e0, g0⟩ := cells_of hSw; go_simp) <;> with_reducible rfl)); (try simp only [Act.put, List.setIfInBounds_toArray, List.set_cons_zero, List.set_cons_succ]))
                refine wpAnyH_ready (rs := [23]) (by kernel_rfl) (by simp) ?_
                refine (AllReadyH.cons (o := ?ooq25_0) ?hoq25_0 ?hsq25_0 AllReadyH.nil)
                case hoq25_0 => (simp only [List.getElem?_toArray, List.getElem?_cons_succ, List.getElem?_cons_zero]; rfl)
                case hsq25_0 =>
                  intro K hK
                  go_simp
                  go_at_call 21
                  refine (cZ.out w10 hN10).mono ?_
                  rintro en w11 ⟨rfl, hu11⟩
                  have hN11 : Upd Non w8 w11 := hN10.trans hu11 fun _ _ h => h
                  have hY11 := hN11.heap hY8 fun h => h
                  have hX11 := hN11.heap hX8 fun h => h
                  clear hu11 cZ hN10 hY10 hX10
                  try go_wp2_with fail
                  refine hK.out _ _ (by exact hY11) (fun hHeld => ?_)
                  clear hK K
                  try simp only [Act.put, List.setIfInBounds_toArray, List.set_cons_zero, List.set_cons_succ]
                  (refine wpAnyH_take (i := 25) (oi := ?oi_q26) (v := ?v_q26) ?ho_q26 ?hs_q26 ?hf_q26 ?hr_q26 ?hQ_q26 ?hy_q26 ?hS_q26 ?rest_q26; (case hr_q26 => kernel_rfl); (case hf_q26 => kernel_rfl); (case hs_q26 => kernel_rfl); (case ho_q26 => (simp only [List.getElem?_toArray, List.getElem?_cons_succ, List.getElem?_cons_zero]; rfl)); (case hS_q26 => assumption); (case hQ_q26 => exact fun _ _ _ h => h); (case hy_q26 => (refine Or.inl ⟨by rfl, ?_⟩; (intro w hSw; obtain ⟨e0, g0⟩ := cells_of hSw; go_simp) <;> with_reducible rfl)); (try simp only [Act.put, List.setIfInBounds_toArray, List.set_cons_zero, List.set_cons_succ]))
                  (refine wpAnyH_take (i := 26) (oi := ?oi_q27) (v := ?v_q27) ?ho_q27 ?hs_q27 ?hf_q27 ?hr_q27 ?hQ_q27 ?hy_q27 ?hS_q27 ?rest_q27; (case hr_q27 => kernel_rfl); (case hf_q27 => kernel_rfl); (case hs_q27 => kernel_rfl); (case ho_q27 => (simp only [List.getElem?_toArray, List.getElem?_cons_succ, List.getElem?_cons_zero]; rfl)); (case hS_q27 => assumption); (case hQ_q27 => exact fun _ _ _ h => h); (case hy_q27 => (refine Or.inl ⟨by rfl, ?_⟩; (intro w hSw; obtain ⟨e0, g0⟩ := cells_of hSw; go_simp) <;> with_reducible rfl)); (try simp only [Act.put, List.setIfInBounds_toArray, List.set_cons_zero, List.set_cons_succ]))
                  refine wpAnyH_done (by kernel_rfl) ?_ _
                  clear hHeld hY8 hX8
                  go_wp2_with fail
                  refine wp_region_held_drew (S := fun w' => w'.heap[wr.heap.size]? = some (.cells #[.int .i64 m', .slice ka' kn' kc', .slice pa' pn' pc', .int .i64 f', .bool dd'] 48 (0, 0))) (by kernel_rfl) (by exact hY11) (fun hHeld => ?_)
                  (refine wpAnyH_take (i := 0) (oi := ?oi_q28) (v := ?v_q28) ?ho_q28 ?hs_q28 ?hf_q28 ?hr_q28 ?hQ_q28 ?hy_q28 ?hS_q28 ?rest_q28; (case hr_q28 => kernel_rfl); (case hf_q28 => kernel_rfl); (case hs_q28 => kernel_rfl); (case ho_q28 => (simp only [List.getElem?_toArray, List.getElem?_cons_succ, List.getElem?_cons_zero]; rfl)); (case hS_q28 => assumption); (case hQ_q28 => exact fun _ _ _ h => h); (case hy_q28 => (refine Or.inl ⟨by rfl, ?_⟩; (intro w hSw; obtain ⟨e0, g0⟩ := cells_of hSw; go_simp) <;> with_reducible rfl)); (try simp only [Act.put, List.setIfInBounds_toArray, List.set_cons_zero, List.set_cons_succ]))
                  (refine wpAnyH_take (i := 1) (oi := ?oi_q29) (v := ?v_q29) ?ho_q29 ?hs_q29 ?hf_q29 ?hr_q29 ?hQ_q29 ?hy_q29 ?hS_q29 ?rest_q29; (case hr_q29 => kernel_rfl); (case hf_q29 => kernel_rfl); (case hs_q29 => kernel_rfl); (case ho_q29 => (simp only [List.getElem?_toArray, List.getElem?_cons_succ, List.getElem?_cons_zero]; rfl)); (case hS_q29 => assumption); (case hQ_q29 => exact fun _ _ _ h => h); (case hy_q29 => (refine Or.inl ⟨by rfl, ?_⟩; (intro w hSw; obtain ⟨e0, g0⟩ := cells_of hSw; go_simp) <;> with_reducible rfl)); (try simp only [Act.put, List.setIfInBounds_toArray, List.set_cons_zero, List.set_cons_succ]))
                  (refine wpAnyH_take (i := 2) (oi := ?oi_q30) (v := ?v_q30) ?ho_q30 ?hs_q30 ?hf_q30 ?hr_q30 ?hQ_q30 ?hy_q30 ?hS_q30 ?rest_q30; (case hr_q30 => kernel_rfl); (case hf_q30 => kernel_rfl); (case hs_q30 => kernel_rfl); (case ho_q30 => (simp only [List.getElem?_toArray, List.getElem?_cons_succ, List.getElem?_cons_zero]; rfl)); (case hS_q30 => assumption); (case hQ_q30 => exact fun _ _ _ h => h); (case hy_q30 => (refine Or.inl ⟨by rfl, ?_⟩; (intro w hSw; obtain ⟨e0, g0⟩ := cells_of hSw; go_simp) <;> with_reducible rfl)); (try simp only [Act.put, List.setIfInBounds_toArray, List.set_cons_zero, List.set_cons_succ]))
                  refine wpAnyH_ready (rs := [3]) (by kernel_rfl) (by simp) ?_
                  refine (AllReadyH.cons (o := ?ooq31_0) ?hoq31_0 ?hsq31_0 AllReadyH.nil)
                  case hoq31_0 => (simp only [List.getElem?_toArray, List.getElem?_cons_succ, List.getElem?_cons_zero]; rfl)
                  case hsq31_0 =>
                    intro K hK
                    refine step_store_blk rfl 48 _ _ rfl w2.heap.size #[.int .i64 m', .slice ka' kn' kc', .slice pa' pn' pc', .int .i64 f', .bool dd'] _ _ rfl rfl (show w11.drew.heap[w2.heap.size]? = _ from hX11) rfl hs5.out (by simp [Value.oneCell']) ?_
                    intro w12 hX12 hu12
                    have hY12 := hu12.heap (show w11.drew.heap[wr.heap.size]? = _ from hY11) (fun h => hXY h.symm)
                    try go_wp2_with fail
                    refine hK.out _ _ (by exact hY12) (fun hHeld => ?_)
                    clear hK K
                    try simp only [Act.put, List.setIfInBounds_toArray, List.set_cons_zero, List.set_cons_succ]
                    refine wpAnyH_done (by kernel_rfl) ?_ _
                    have hB12 := (((hB8.out.non hN11).non (Upd.drew Non w11)).upd hu12 (fun k hk => .inl hk)).sub (B' := fun k => k = w2.heap.size) (fun k hk => .inl hk)
                    clear hHeld hu12 hY12 hX11 hY11
                    go_wp2_with fail
                    go_roundw
                    case rel => exact ⟨k + 1, D', F', d', r', kv', pv', rfl, by go_num, by omega, hB12, hS6.out, by rw [show rc r' kv' pv' = #[.int .i64 m', .slice ka' kn' kc', .slice pa' pn' pc', .int .i64 f', .bool dd'] from Value.agg.inj hlit'.out]; exact hX12, hP8, hK8.out⟩
                    case measure => simp [intOf]; omega
    · obtain rfl : L = k := by omega
      have hRd : Hid (∀ w', Upd Non wr w' → Calls Try.prog 14 #[.pointer (some ⟨D, 0, none⟩), .int .i64 i] w' (fun en w9 => ∃ v, en = .returned (.tuple #[v, .int .i64 (d.within i)]) ∧ Bytes w9 v (d.reads i) ∧ Upd Non w' w9)) := Lib.hid (fun w' hu => (lReadAll (hB.non hu).lv.at_ (by omega) i).mono fun en w9 ⟨v, he, hA, hu, hn⟩ => ⟨v, he, hA, hu⟩)
      have hRf : Hid (∀ w', Upd Non wr w' → Calls Try.prog 22 #[.agg #[.int .i64 m, .slice ka kn kc, .slice pa pn pc, .int .i64 f, .bool dd], .int .i64 i] w' (Ret (.tuple #[.string ⟨(d.reads i).toArray⟩, .int .i64 (d.within i)]) w')) := Lib.hid (fun w' hu => by
        have e1 : r.P.length = d.P.length := by rw [hS.p]
        have e2 : r.K.length = d.K.length := by rw [hS.k, List.length_map]
        have := refRead r kv pv w' (hB.rat.non hu) hS.l (by omega) (by rw [e2, hK]; have := hn16.out; omega) i
        rw [← hS.reads, ← hS.within, hlit] at this
        exact this)
      obtain ⟨t, ht⟩ : ∃ t, d.reads i = t := ⟨_, rfl⟩
      obtain ⟨e, he⟩ : ∃ e, d.within i = e := ⟨_, rfl⟩
      simp only [ht, he] at hRd hRf
      have hU := Lib.hid hB.lv.upd
      clear ht he hB hS hlit hrc hP hK hin
      go_wp2_with fail
      refine (hRd.out wr (Upd.refl _ _)).mono ?_
      rintro en w6 ⟨v6, rfl, hv6, hu6⟩
      have hX6 := hu6.heap hX fun h => h
      replace hu6 := Lib.hid hu6
      clear hRd hX
      obtain ⟨c0, f0⟩ := cells_of hX6
      simp only []
      go_wp2_with fail
      refine (hRf.out w6 hu6.out).mono ?_
      rintro en w7 ⟨rfl, hu7⟩
      have hstr := run_str (P := Try.prog) _ 30 9 5 Try.underlying30 Try.underlying5 Try.underlying9 _ _ (hv6.non hu7)
      have hU7 := Lib.hid (hU.out.trans (hu6.out.trans hu7 fun _ _ h => h) fun _ _ h => h)
      clear hu7 hv6 hX6 c0 f0 hu6 hRf hU
      simp only []
      go_wp2_with fail
      refine (lives04 _).mono ?_
      rintro en w8 ⟨rfl, hu8⟩
      simp only []
      go_wp2_with fail
      go_ret
      exact ⟨rfl, hU7.out.trans hu8 fun _ _ h => h⟩
end Go.Proofs.Ytgkiglodhhlnmaa
