/- ring.Append: a record that has room. (Its last drawn region is printed by gen/mkapp06.py.) -/
import Derived.Test.YtmnoldikimcafaaMRgF
namespace Go.Proofs.Ytmnoldikimcafaa
open Go.RowKit Go.Amb Go.Shelf
set_option linter.unusedVariables false
set_option linter.unusedSimpArgs false
set_option maxRecDepth 100000
theorem has_full {w : World} {size n c : Nat} {a : Option Addr} {xs : List Value} (h : Has w size (.slice a n c) n xs) : Has w size (.slice a n n) n xs := by
  obtain ⟨h1, a', c', e, h2, h3, h4⟩ := h
  injection e with e1 e2 e3
  subst e1 e3
  exact ⟨h1, a, n, rfl, Nat.le_refl _, Nat.le_trans h2 h3, h4⟩
section
variable {w : World} {R D : Nat} {F G : Nat → Prop} {d : Dk} {r : Rn}
set_option maxHeartbeats 4000000 in
theorem lAppendOk (hR : RingAt w R D G r) (hD : DiskAt w D F d) (hA : ∀ k, F k → ¬ G k) (hn : d.P.length + 200 ≤ 1000000) (hdd : d.dd = false) (hf : d.f = -1) (hfc : r.fr + r.cn ≤ d.K.length) (hLl : r.L.length + 1 ≤ 100000) (s : List UInt8) (hcut : cutOk r.ep r.nx s) (hroom : ¬ (r.cn : Int) - (r.nx - r.st) < pieceN s) :
    Calls Try.prog 9 #[.pointer (some ⟨R, 0, none⟩), .string ⟨s.toArray⟩] w (RgTo w R D F G (appD d r (cutS r.ep r.nx s)) (appR r s) (.int .i64 0)) := by
  have hO := Lib.hid (fun w' (hu : Upd Non w w') => lOpened (hR.non hu))
  have hRm := Lib.hid (fun w' (hu : Upd Non w w') => lRoom (hR.non hu))
  have hC := Lib.hid (fun w => lCut s r.ep r.nx w)
  obtain ⟨va, vc, x0, x1, x2, x3, x4, x5, x6⟩ := hR.cell
  have hRh := Lib.hid hR
  have hDh := Lib.hid hD
  have ok := hR.ok
  have hAh := Lib.hid hA
  clear hA
  have hN152 : pieceN s ≤ 152 := by have := hcut.1; unfold pieceN; omega
  have hN0 := pieceN_pos s
  have hXl := cutS_length r.ep r.nx s
  have hXget : Hid (∀ i, i < pieceN s → (cutS r.ep r.nx s)[i]? = some (slotI r.ep r.nx s i) ∧ rightS (slotI r.ep r.nx s i) = true ∧ (slotI r.ep r.nx s i).q = r.nx + i) := Lib.hid (fun i hi => ⟨cutS_get _ _ _ _ hi, slotI_right hcut hi, rfl⟩)
  have hC' : Hid (∀ w, Calls Try.prog 26 #[.string ⟨s.toArray⟩, .int .i64 r.ep, .int .i64 r.nx] w (fun en w' => ∃ v, en = .returned (.tuple #[v, .int .i64 0]) ∧ w'.ownsRow w.heap.size 56 5 v (pieceN s) (sc (cutS r.ep r.nx s)) ∧ Upd Non w w')) := Lib.hid fun w => (hC.out w).mono fun en w' h => by
    rcases h with ⟨-, v, h1, h2, h3⟩ | ⟨h, -⟩
    · refine ⟨v, h1, ?_, h3⟩
      unfold OwnS at h2
      rw [hXl] at h2; exact h2
    · exact absurd hcut h
  replace hC := hC'
  clear hC'
  obtain ⟨PR, hPR⟩ : ∃ PR, RgTo w R D F G (appD d r (cutS r.ep r.nx s)) (appR r s) (.int .i64 0) = PR := ⟨_, rfl⟩
  have hok' : Hid ((appR r s).Ok) := by
    obtain ⟨a1, a2, a3, a4, a5, a6, a7, a8, a9⟩ := ok
    have h3 := hcut.2.2.2
    exact ⟨a1, a2, a3, a4, by show r.st ≤ r.nx + pieceN s; omega, by show r.nx + pieceN s ≤ _; omega, a7, a8, by show (r.L ++ [_]).length ≤ _; simp; omega⟩
  replace hPR := Lib.hid hPR
  rw [hPR.out]
  obtain ⟨fr, cn, st, nx, ep, L⟩ := r
  simp only at *
  obtain ⟨a1, a2, a3, a4, a5, a6, a7, a8, a9⟩ := ok
  have hnx0 : 0 ≤ nx := Int.le_trans a4 a5
  simp only at a1 a2 a3
  generalize slotI ep nx s = XI at *
  generalize cutS ep nx s = X at *
  generalize hNe : pieceN s = N at hN152 hN0 hXl hXget hroom hC
  replace hNe := Lib.hid hNe
  clear hR hD hcut a4 a5 a7 a8 a9
  go_enter Try.func9, Try.ntmps9
  go_wp2_with fail
  refine (hO.out _ (Upd.refl _ _)).mono ?_
  rintro en w1 ⟨rfl, hu1⟩
  have y0 := hu1.cell x0 fun h => h
  have y4 := hu1.cell x4 fun h => h
  have y5 := hu1.cell x5 fun h => h
  clear hO
  go_wp2_with fail
  refine wp_region_held_drew (S := (fun w' => w'.cell? ⟨R, 4, none⟩ = some (.int .i64 nx) ∧ w'.cell? ⟨R, 5, none⟩ = some (.int .i64 ep))) (by kernel_rfl) (by (try dsimp only); first | exact ⟨u4, u5⟩ | exact ⟨(Upd.drew Non w1).cell y4 fun h => h, (Upd.drew Non w1).cell y5 fun h => h⟩) (fun hHeld => ?_)
  (refine wpAnyH_take (i := 0) (oi := ?oi_1_0) (v := ?v_1_0) ?ho_1_0 ?hs_1_0 ?hf_1_0 ?hr_1_0 ?hQ_1_0 ?hy_1_0 ?hS_1_0 ?rest_1_0; (case hr_1_0 => kernel_rfl); (case hf_1_0 => kernel_rfl); (case hs_1_0 => kernel_rfl); (case ho_1_0 => (simp only [List.getElem?_toArray, List.getElem?_cons_succ, List.getElem?_cons_zero]; rfl)); (case hS_1_0 => assumption); (case hQ_1_0 => exact fun _ _ _ h => h); (case hy_1_0 => (refine Or.inl ⟨by rfl, ?_⟩; (intro w hSw; (try dsimp only at hSw); go_simp) <;> with_reducible rfl)); (try simp only [Act.put, List.setIfInBounds_toArray, List.set_cons_zero, List.set_cons_succ]))
  (refine wpAnyH_take (i := 1) (oi := ?oi_1_1) (v := ?v_1_1) ?ho_1_1 ?hs_1_1 ?hf_1_1 ?hr_1_1 ?hQ_1_1 ?hy_1_1 ?hS_1_1 ?rest_1_1; (case hr_1_1 => kernel_rfl); (case hf_1_1 => kernel_rfl); (case hs_1_1 => kernel_rfl); (case ho_1_1 => (simp only [List.getElem?_toArray, List.getElem?_cons_succ, List.getElem?_cons_zero]; rfl)); (case hS_1_1 => assumption); (case hQ_1_1 => exact fun _ _ _ h => h); (case hy_1_1 => (refine Or.inl ⟨by rfl, ?_⟩; (intro w hSw; (try dsimp only at hSw); go_simp) <;> with_reducible rfl)); (try simp only [Act.put, List.setIfInBounds_toArray, List.set_cons_zero, List.set_cons_succ]))
  (refine wpAnyH_take (i := 2) (oi := ?oi_1_2) (v := ?v_1_2) ?ho_1_2 ?hs_1_2 ?hf_1_2 ?hr_1_2 ?hQ_1_2 ?hy_1_2 ?hS_1_2 ?rest_1_2; (case hr_1_2 => kernel_rfl); (case hf_1_2 => kernel_rfl); (case hs_1_2 => kernel_rfl); (case ho_1_2 => (simp only [List.getElem?_toArray, List.getElem?_cons_succ, List.getElem?_cons_zero]; rfl)); (case hS_1_2 => assumption); (case hQ_1_2 => exact fun _ _ _ h => h); (case hy_1_2 => (refine Or.inl ⟨by rfl, ?_⟩; (intro w hSw; (try dsimp only at hSw); go_simp) <;> with_reducible rfl)); (try simp only [Act.put, List.setIfInBounds_toArray, List.set_cons_zero, List.set_cons_succ]))
  (refine wpAnyH_take (i := 3) (oi := ?oi_1_3) (v := ?v_1_3) ?ho_1_3 ?hs_1_3 ?hf_1_3 ?hr_1_3 ?hQ_1_3 ?hy_1_3 ?hS_1_3 ?rest_1_3; (case hr_1_3 => kernel_rfl); (case hf_1_3 => kernel_rfl); (case hs_1_3 => kernel_rfl); (case ho_1_3 => (simp only [List.getElem?_toArray, List.getElem?_cons_succ, List.getElem?_cons_zero]; rfl)); (case hS_1_3 => assumption); (case hQ_1_3 => exact fun _ _ _ h => h); (case hy_1_3 => (refine Or.inl ⟨by rfl, ?_⟩; (intro w hSw; (try dsimp only at hSw); go_simp) <;> with_reducible rfl)); (try simp only [Act.put, List.setIfInBounds_toArray, List.set_cons_zero, List.set_cons_succ]))
  (refine wpAnyH_take (i := 4) (oi := ?oi_1_4) (v := ?v_1_4) ?ho_1_4 ?hs_1_4 ?hf_1_4 ?hr_1_4 ?hQ_1_4 ?hy_1_4 ?hS_1_4 ?rest_1_4; (case hr_1_4 => kernel_rfl); (case hf_1_4 => kernel_rfl); (case hs_1_4 => kernel_rfl); (case ho_1_4 => (simp only [List.getElem?_toArray, List.getElem?_cons_succ, List.getElem?_cons_zero]; rfl)); (case hS_1_4 => assumption); (case hQ_1_4 => exact fun _ _ _ h => h); (case hy_1_4 => (refine Or.inl ⟨by rfl, ?_⟩; (intro w hSw; (try dsimp only at hSw); go_simp) <;> with_reducible rfl)); (try simp only [Act.put, List.setIfInBounds_toArray, List.set_cons_zero, List.set_cons_succ]))
  (refine wpAnyH_take (i := 5) (oi := ?oi_1_5) (v := ?v_1_5) ?ho_1_5 ?hs_1_5 ?hf_1_5 ?hr_1_5 ?hQ_1_5 ?hy_1_5 ?hS_1_5 ?rest_1_5; (case hr_1_5 => kernel_rfl); (case hf_1_5 => kernel_rfl); (case hs_1_5 => kernel_rfl); (case ho_1_5 => (simp only [List.getElem?_toArray, List.getElem?_cons_succ, List.getElem?_cons_zero]; rfl)); (case hS_1_5 => assumption); (case hQ_1_5 => exact fun _ _ _ h => h); (case hy_1_5 => (refine Or.inl ⟨by rfl, ?_⟩; (intro w hSw; (try dsimp only at hSw); go_simp) <;> with_reducible rfl)); (try simp only [Act.put, List.setIfInBounds_toArray, List.set_cons_zero, List.set_cons_succ]))
  (refine wpAnyH_take (i := 6) (oi := ?oi_1_6) (v := ?v_1_6) ?ho_1_6 ?hs_1_6 ?hf_1_6 ?hr_1_6 ?hQ_1_6 ?hy_1_6 ?hS_1_6 ?rest_1_6; (case hr_1_6 => kernel_rfl); (case hf_1_6 => kernel_rfl); (case hs_1_6 => kernel_rfl); (case ho_1_6 => (simp only [List.getElem?_toArray, List.getElem?_cons_succ, List.getElem?_cons_zero]; rfl)); (case hS_1_6 => assumption); (case hQ_1_6 => exact fun _ _ _ h => h); (case hy_1_6 => (refine Or.inl ⟨by rfl, ?_⟩; (intro w hSw; (try dsimp only at hSw); go_simp) <;> with_reducible rfl)); (try simp only [Act.put, List.setIfInBounds_toArray, List.set_cons_zero, List.set_cons_succ]))
  (refine wpAnyH_take (i := 7) (oi := ?oi_1_7) (v := ?v_1_7) ?ho_1_7 ?hs_1_7 ?hf_1_7 ?hr_1_7 ?hQ_1_7 ?hy_1_7 ?hS_1_7 ?rest_1_7; (case hr_1_7 => kernel_rfl); (case hf_1_7 => kernel_rfl); (case hs_1_7 => kernel_rfl); (case ho_1_7 => (simp only [List.getElem?_toArray, List.getElem?_cons_succ, List.getElem?_cons_zero]; rfl)); (case hS_1_7 => assumption); (case hQ_1_7 => exact fun _ _ _ h => h); (case hy_1_7 => (refine Or.inl ⟨by rfl, ?_⟩; (intro w hSw; (try dsimp only at hSw); go_simp) <;> with_reducible rfl)); (try simp only [Act.put, List.setIfInBounds_toArray, List.set_cons_zero, List.set_cons_succ]))
  (refine wpAnyH_take (i := 8) (oi := ?oi_1_8) (v := ?v_1_8) ?ho_1_8 ?hs_1_8 ?hf_1_8 ?hr_1_8 ?hQ_1_8 ?hy_1_8 ?hS_1_8 ?rest_1_8; (case hr_1_8 => kernel_rfl); (case hf_1_8 => kernel_rfl); (case hs_1_8 => kernel_rfl); (case ho_1_8 => (simp only [List.getElem?_toArray, List.getElem?_cons_succ, List.getElem?_cons_zero]; rfl)); (case hS_1_8 => assumption); (case hQ_1_8 => exact fun _ _ _ h => h); (case hy_1_8 => (refine Or.inl ⟨by rfl, ?_⟩; (intro w hSw; (try dsimp only at hSw); go_simp) <;> with_reducible rfl)); (try simp only [Act.put, List.setIfInBounds_toArray, List.set_cons_zero, List.set_cons_succ]))
  (refine wpAnyH_ready (rs := [9]) (by kernel_rfl) (by simp) ?_; refine AllReadyH.cons (o := ?oo_1_9) ?hoo_1_9 ?hst_1_9 AllReadyH.nil; (case hoo_1_9 => (simp only [List.getElem?_toArray, List.getElem?_cons_succ, List.getElem?_cons_zero]; rfl)); intro K hK; go_simp; ((refine (hC.out _).mono ?_; rintro en w2 ⟨vs, rfl, hX2, hu2⟩; have hU2 := (hu1.trans (Upd.drew Non w1) fun _ _ h => h).trans hu2 fun _ _ h => h; have u4 := hU2.cell x4 fun h => h; have u5 := hU2.cell x5 fun h => h; have hu1z := hu1.size; obtain ⟨g, sc', rfl, hg1, hg2, hg3⟩ := own_rowform hX2 hN0)); (try go_wp2_with fail); refine hK.out _ _ (by (try dsimp only); first | exact ⟨u4, u5⟩ | exact ⟨(Upd.drew Non w1).cell y4 fun h => h, (Upd.drew Non w1).cell y5 fun h => h⟩) (fun hHeld => ?_); clear hK K; (try simp only [Act.put, List.setIfInBounds_toArray, List.set_cons_zero, List.set_cons_succ]))
  (refine wpAnyH_take (i := 10) (oi := ?oi_1_10) (v := ?v_1_10) ?ho_1_10 ?hs_1_10 ?hf_1_10 ?hr_1_10 ?hQ_1_10 ?hy_1_10 ?hS_1_10 ?rest_1_10; (case hr_1_10 => kernel_rfl); (case hf_1_10 => kernel_rfl); (case hs_1_10 => kernel_rfl); (case ho_1_10 => (simp only [List.getElem?_toArray, List.getElem?_cons_succ, List.getElem?_cons_zero]; rfl)); (case hS_1_10 => assumption); (case hQ_1_10 => exact fun _ _ _ h => h); (case hy_1_10 => (refine Or.inl ⟨by rfl, ?_⟩; (intro w hSw; (try dsimp only at hSw); go_simp) <;> with_reducible rfl)); (try simp only [Act.put, List.setIfInBounds_toArray, List.set_cons_zero, List.set_cons_succ]))
  (refine wpAnyH_take (i := 11) (oi := ?oi_1_11) (v := ?v_1_11) ?ho_1_11 ?hs_1_11 ?hf_1_11 ?hr_1_11 ?hQ_1_11 ?hy_1_11 ?hS_1_11 ?rest_1_11; (case hr_1_11 => kernel_rfl); (case hf_1_11 => kernel_rfl); (case hs_1_11 => kernel_rfl); (case ho_1_11 => (simp only [List.getElem?_toArray, List.getElem?_cons_succ, List.getElem?_cons_zero]; rfl)); (case hS_1_11 => assumption); (case hQ_1_11 => exact fun _ _ _ h => h); (case hy_1_11 => (refine Or.inl ⟨by rfl, ?_⟩; (intro w hSw; (try dsimp only at hSw); go_simp) <;> with_reducible rfl)); (try simp only [Act.put, List.setIfInBounds_toArray, List.set_cons_zero, List.set_cons_succ]))
  (refine wpAnyH_take (i := 12) (oi := ?oi_1_12) (v := ?v_1_12) ?ho_1_12 ?hs_1_12 ?hf_1_12 ?hr_1_12 ?hQ_1_12 ?hy_1_12 ?hS_1_12 ?rest_1_12; (case hr_1_12 => kernel_rfl); (case hf_1_12 => kernel_rfl); (case hs_1_12 => kernel_rfl); (case ho_1_12 => (simp only [List.getElem?_toArray, List.getElem?_cons_succ, List.getElem?_cons_zero]; rfl)); (case hS_1_12 => assumption); (case hQ_1_12 => exact fun _ _ _ h => h); (case hy_1_12 => (refine Or.inl ⟨by rfl, ?_⟩; (intro w hSw; (try dsimp only at hSw); go_simp) <;> with_reducible rfl)); (try simp only [Act.put, List.setIfInBounds_toArray, List.set_cons_zero, List.set_cons_succ]))
  (refine wpAnyH_take (i := 13) (oi := ?oi_1_13) (v := ?v_1_13) ?ho_1_13 ?hs_1_13 ?hf_1_13 ?hr_1_13 ?hQ_1_13 ?hy_1_13 ?hS_1_13 ?rest_1_13; (case hr_1_13 => kernel_rfl); (case hf_1_13 => kernel_rfl); (case hs_1_13 => kernel_rfl); (case ho_1_13 => (simp only [List.getElem?_toArray, List.getElem?_cons_succ, List.getElem?_cons_zero]; rfl)); (case hS_1_13 => assumption); (case hQ_1_13 => exact fun _ _ _ h => h); (case hy_1_13 => (refine Or.inl ⟨by rfl, ?_⟩; (intro w hSw; (try dsimp only at hSw); go_simp) <;> with_reducible rfl)); (try simp only [Act.put, List.setIfInBounds_toArray, List.set_cons_zero, List.set_cons_succ]))
  (refine wpAnyH_take (i := 14) (oi := ?oi_1_14) (v := ?v_1_14) ?ho_1_14 ?hs_1_14 ?hf_1_14 ?hr_1_14 ?hQ_1_14 ?hy_1_14 ?hS_1_14 ?rest_1_14; (case hr_1_14 => kernel_rfl); (case hf_1_14 => kernel_rfl); (case hs_1_14 => kernel_rfl); (case ho_1_14 => (simp only [List.getElem?_toArray, List.getElem?_cons_succ, List.getElem?_cons_zero]; rfl)); (case hS_1_14 => assumption); (case hQ_1_14 => exact fun _ _ _ h => h); (case hy_1_14 => (refine Or.inl ⟨by rfl, ?_⟩; (intro w hSw; (try dsimp only at hSw); go_simp) <;> with_reducible rfl)); (try simp only [Act.put, List.setIfInBounds_toArray, List.set_cons_zero, List.set_cons_succ]))
  refine wpAnyH_done (by kernel_rfl) ?_ _
  all_goals
    have hR3 := Lib.hid (hRm.out _ hU2)
    go_wp2_with fail
    refine hR3.out.mono ?_
    rintro en w3 ⟨rfl, hu3⟩
    have hU3 := hU2.trans hu3 fun _ _ h => h
    clear hR3 hRm hC
    have hFlt : ∀ k, F k → k < w.heap.size := hDh.out.lt
    have hgw : w.heap.size ≤ g := by have : w1.drew.heap.size = w1.heap.size := rfl; omega
    have hXcell : Hid (∀ wr, Upd F w3 wr → ∀ i, i < N → wr.cell? ⟨g, i * 5, none⟩ = some (.int .i64 (XI i).e) ∧ wr.cell? ⟨g, i * 5 + 1, none⟩ = some (.int .i64 (XI i).q) ∧ wr.cell? ⟨g, i * 5 + 2, none⟩ = some (.bool (XI i).f) ∧ wr.cell? ⟨g, i * 5 + 3, none⟩ = some (.bool (XI i).l) ∧ wr.cell? ⟨g, i * 5 + 4, none⟩ = some (.string ⟨(XI i).d.toArray⟩)) := Lib.hid (fun wr hu i hi => by
      obtain ⟨h1, -⟩ := hXget.out i hi
      have hil : i < X.length := by omega
      have hXi : X[i] = XI i := by rw [List.getElem?_eq_getElem hil] at h1; exact Option.some.inj h1
      obtain ⟨q0, q1, q2, q3, q4⟩ := sc_get X i hil
      rw [hXi] at q0 q1 q2 q3 q4
      have k : ∀ (j : Nat) v, (sc X)[j]? = some v → wr.cell? ⟨g, j, none⟩ = some v := fun j v h => by
        have h2 := hX2.cells (g := g) rfl j v h
        rw [Addr.add_lit, Nat.zero_add] at h2
        exact hu.cell (hu3.cell h2 fun h => h) (fun hF => by have := hFlt _ hF; simp only at this; omega)
      exact ⟨k _ _ q0, k _ _ q1, k _ _ q2, k _ _ q3, k _ _ q4⟩)
    have hPl : Hid (∀ w', RingAt w' R D G ⟨fr, cn, st, nx, ep, L⟩ → ∀ q, 0 ≤ q → Calls Try.prog 29 #[.pointer (some ⟨R, 0, none⟩), .int .i64 q] w' (Ret (.int .i64 (Rn.place ⟨fr, cn, st, nx, ep, L⟩ q)) w')) :=
      Lib.hid (fun w' h q hq => (lPlace h q hq).mono fun en w'' ⟨h1, n, h2⟩ => ⟨h1, by rw [h2]; exact (Upd.refl Non w').then_drewN n⟩)
    have hPin : Hid (∀ q, 0 ≤ q → 0 ≤ Rn.place ⟨fr, cn, st, nx, ep, L⟩ q ∧ Rn.place ⟨fr, cn, st, nx, ep, L⟩ q < (fr : Int) + cn) := Lib.hid (fun q hq => by
      have := place_in (r := ⟨fr, cn, st, nx, ep, L⟩) (by show 0 < cn; omega) hq
      exact ⟨this.1, this.2.1⟩)
    have hR3w := hRh.out.non hU3
    have hD3w := hDh.out.non hU3
    have hap : Hid (∀ (i : Nat) x, X[i]? = some x → appD d ⟨fr, cn, st, nx, ep, L⟩ (X.take (i + 1)) = { appD d ⟨fr, cn, st, nx, ep, L⟩ (X.take i) with P := (appD d ⟨fr, cn, st, nx, ep, L⟩ (X.take i)).P ++ [(slotB x, (Rn.place ⟨fr, cn, st, nx, ep, L⟩ x.q).toNat)] }) := Lib.hid (fun i x hx => by
      rw [List.take_add_one, hx, Option.toList_some, appD_snoc])
    have hdl : Hid (∀ (i : Nat), (appD d ⟨fr, cn, st, nx, ep, L⟩ (X.take i)).P.length ≤ 1000000) := Lib.hid (fun i => by
      unfold appD wrP; simp only [List.length_append, List.length_map, List.length_take]; omega)
    replace hR3w := Lib.hid hR3w
    replace hD3w := Lib.hid hD3w
    clear hX2 hu3 hu1 hu2 hHeld u4 u5 y0 y4 y5 hgw
    have hroom' : ((cn : Int) - (nx - st) < (N : Int)) = False := eq_false (by omega)
    clear hroom
    go_wp2_with fail
    go_loopw [40] (fun iv wr => ∃ (i : Nat) (F' : Nat → Prop), iv = .int .i64 (i : Int) ∧ i ≤ N ∧ DiskAt wr D F' (appD d ⟨fr, cn, st, nx, ep, L⟩ (X.take i)) ∧ Kp w3 F wr F') (fun iv _ => N - (intOf iv).toNat)
    case atStart => exact ⟨0, F, rfl, Nat.zero_le _, by rw [List.take_zero]; unfold appD wrP; simpa using hD3w.out, Kp.non (Upd.refl _ _)⟩
    case round =>
      obtain ⟨i, F', rfl, hi, hDi, hk⟩ := hrel
      have hRw := hR3w.out.upd hk.upd (fun k hk' hF => hAh.out k hF hk')
      by_cases hin : i < N
      · have hinI : (i : Int) < (N : Int) := by omega
        have hi0 : (0 : Int) ≤ (i : Int) := by omega
        obtain ⟨hx1, hxr, hxq⟩ := hXget.out i hin
        obtain ⟨c0, c1, c2, c3, c4⟩ := hXcell.out wr hk.upd i hin
        have hapi := hap.out i _ hx1
        generalize XI i = xi at *
        obtain ⟨xe, xq, xf, xl, xd⟩ := xi
        simp only at hxq c0 c1 c2 c3 c4
        subst hxq
        have hB : Hid (∀ w, Calls Try.prog 27 #[.agg #[.int .i64 xe, .int .i64 (nx + (i : Int)), .bool xf, .bool xl, .string ⟨xd.toArray⟩]] w (fun en w' => ∃ v, en = .returned (.tuple #[v, .int .i64 0]) ∧ Go.Amb.Own w' (w.heap.size + 1) 5 v (slotB ⟨xe, nx + (i : Int), xf, xl, xd⟩) ∧ Upd Non w w')) := Lib.hid (fun w => (lBytes ⟨xe, nx + (i : Int), xf, xl, xd⟩ w).mono fun en w' h => by
          rcases h with ⟨-, v, h1, h2, h3⟩ | ⟨h, -⟩
          · exact ⟨v, h1, h2, h3⟩
          · rw [hxr] at h; cases h)
        have hlen := slotB_len hxr
        have hpin := hPin.out (nx + (i : Int)) (by omega)
        have hwo := write_ok (d := appD d ⟨fr, cn, st, nx, ep, L⟩ (X.take i)) hdd hf hpin.1 (by show _ < ((d.K.length : Nat) : Int); omega) hlen
        rw [← hapi] at hwo
        have hdli := hdl.out i
        generalize appD d ⟨fr, cn, st, nx, ep, L⟩ (X.take i) = di at *
        generalize hdj : appD d ⟨fr, cn, st, nx, ep, L⟩ (X.take (i + 1)) = dj at *
        replace hdj := Lib.hid hdj
        have hWr : Hid (∀ w' v, DiskAt w' D F' di → Bytes w' v (slotB ⟨xe, nx + (i : Int), xf, xl, xd⟩) → (∀ k, At v k → ¬ F' k) → Calls Try.prog 28 #[.pointer (some ⟨D, 0, none⟩), .int .i64 (Rn.place ⟨fr, cn, st, nx, ep, L⟩ (nx + (i : Int))), v] w' (fun en w'' => en = .returned (.int .i64 0) ∧ ∃ F'', DiskAt w'' D F'' dj ∧ Upd F' w' w'' ∧ ∀ k, F'' k → F' k ∨ w'.heap.size ≤ k)) := Lib.hid (fun w' v h1 h2 h3 => (lWrite h1 hdli _ _ v h2 h3).mono fun en w'' h => by
          obtain ⟨h4, F'', h5, h6, h7⟩ := h
          rw [hwo] at h4 h5
          exact ⟨h4, F'', h5, h6, h7⟩)
        have hpl := Lib.hid (fun w' h => hPl.out w' h (nx + (i : Int)) (by omega))
        have hw1 : IntKind.i64.wrap (nx + (i : Int)) = nx + (i : Int) := IntWalk.i64_in _ ⟨by omega, by omega⟩
        clear hwo hpin hlen hdli hapi hxr hx1
        have hux := Upd.alloc Non wr (.cells #[.int .i64 xe, .int .i64 (nx + (i : Int)), .bool xf, .bool xl, .string ⟨xd.toArray⟩] 56)
        have hxx := heap_alloc_new wr (.cells #[.int .i64 xe, .int .i64 (nx + (i : Int)), .bool xf, .bool xl, .string ⟨xd.toArray⟩] 56)
        generalize Rn.place ⟨fr, cn, st, nx, ep, L⟩ (nx + (i : Int)) = pl at *
        go_wp2_with fail
        refine (hB.out _).mono ?_
        rintro en w5 ⟨v9, rfl, ho9, hu5⟩
        have hU5 := hux.trans hu5 fun _ _ h => h
        have hxx5 := hu5.heap hxx fun h => h
        have hR5 := Lib.hid (hRw.non hU5)
        have hD5 := Lib.hid (hDi.non hU5)
        have b1 : w5.cell? ⟨wr.heap.size, 1, none⟩ = some (.int .i64 (nx + (i : Int))) := (cells_of hxx5).1 1
        have b0 : w5.cell? ⟨R, 0, none⟩ = some (.pointer (some ⟨D, 0, none⟩)) := by obtain ⟨_, _, h, -⟩ := hR5.out.cell; exact h
        have hFi := hDi.lt
        have hv9 : ∀ k, At v9 k → ¬ F' k := fun k hk hF => by have h1 := own_ge ho9 hk; have h2 := hFi k hF; simp at h1; omega
        have hnbF : ¬ F' wr.heap.size := fun hF => by have := hFi _ hF; omega
        have hRF : ¬ F' R := fun hF => by
          rcases hk.own _ hF with h | h
          · exact hAh.out _ h hRh.out.gR
          · have h1 := hRh.out.lt _ hRh.out.gR
            have h2 := hU3.size
            omega
        have hk5 := hk.trans (Kp.non (F := F') hU5)
        replace ho9 := Lib.hid ho9.bytes
        clear hxx5 hu5 hxx hux hB c0 c1 c2 c3 c4 hRw hDi hFi
        go_wp2_with fail
        refine wp_region_held_drew (S := (fun w' => w'.cell? ⟨R, 0, none⟩ = some (.pointer (some ⟨D, 0, none⟩)) ∧ w'.cell? ⟨wr.heap.size, 1, none⟩ = some (.int .i64 (nx + (i : Int))))) (by kernel_rfl) (by (try dsimp only); first | exact ⟨p0, p1⟩ | exact ⟨q0, q1⟩ | exact ⟨(Upd.drew Non w5).cell b0 fun h => h, (Upd.drew Non w5).cell b1 fun h => h⟩) (fun hHeld => ?_)
        (refine wpAnyH_take (i := 0) (oi := ?oi_2_0) (v := ?v_2_0) ?ho_2_0 ?hs_2_0 ?hf_2_0 ?hr_2_0 ?hQ_2_0 ?hy_2_0 ?hS_2_0 ?rest_2_0; (case hr_2_0 => kernel_rfl); (case hf_2_0 => kernel_rfl); (case hs_2_0 => kernel_rfl); (case ho_2_0 => (simp only [List.getElem?_toArray, List.getElem?_cons_succ, List.getElem?_cons_zero]; rfl)); (case hS_2_0 => assumption); (case hQ_2_0 => exact fun _ _ _ h => h); (case hy_2_0 => (refine Or.inl ⟨by rfl, ?_⟩; (intro w hSw; (try dsimp only at hSw); go_simp) <;> with_reducible rfl)); (try simp only [Act.put, List.setIfInBounds_toArray, List.set_cons_zero, List.set_cons_succ]))
        (refine wpAnyH_take (i := 1) (oi := ?oi_2_1) (v := ?v_2_1) ?ho_2_1 ?hs_2_1 ?hf_2_1 ?hr_2_1 ?hQ_2_1 ?hy_2_1 ?hS_2_1 ?rest_2_1; (case hr_2_1 => kernel_rfl); (case hf_2_1 => kernel_rfl); (case hs_2_1 => kernel_rfl); (case ho_2_1 => (simp only [List.getElem?_toArray, List.getElem?_cons_succ, List.getElem?_cons_zero]; rfl)); (case hS_2_1 => assumption); (case hQ_2_1 => exact fun _ _ _ h => h); (case hy_2_1 => (refine Or.inl ⟨by rfl, ?_⟩; (intro w hSw; (try dsimp only at hSw); go_simp) <;> with_reducible rfl)); (try simp only [Act.put, List.setIfInBounds_toArray, List.set_cons_zero, List.set_cons_succ]))
        (refine wpAnyH_take (i := 2) (oi := ?oi_2_2) (v := ?v_2_2) ?ho_2_2 ?hs_2_2 ?hf_2_2 ?hr_2_2 ?hQ_2_2 ?hy_2_2 ?hS_2_2 ?rest_2_2; (case hr_2_2 => kernel_rfl); (case hf_2_2 => kernel_rfl); (case hs_2_2 => kernel_rfl); (case ho_2_2 => (simp only [List.getElem?_toArray, List.getElem?_cons_succ, List.getElem?_cons_zero]; rfl)); (case hS_2_2 => assumption); (case hQ_2_2 => exact fun _ _ _ h => h); (case hy_2_2 => (refine Or.inl ⟨by rfl, ?_⟩; (intro w hSw; (try dsimp only at hSw); go_simp) <;> with_reducible rfl)); (try simp only [Act.put, List.setIfInBounds_toArray, List.set_cons_zero, List.set_cons_succ]))
        (refine wpAnyH_take (i := 3) (oi := ?oi_2_3) (v := ?v_2_3) ?ho_2_3 ?hs_2_3 ?hf_2_3 ?hr_2_3 ?hQ_2_3 ?hy_2_3 ?hS_2_3 ?rest_2_3; (case hr_2_3 => kernel_rfl); (case hf_2_3 => kernel_rfl); (case hs_2_3 => kernel_rfl); (case ho_2_3 => (simp only [List.getElem?_toArray, List.getElem?_cons_succ, List.getElem?_cons_zero]; rfl)); (case hS_2_3 => assumption); (case hQ_2_3 => exact fun _ _ _ h => h); (case hy_2_3 => (refine Or.inl ⟨by rfl, ?_⟩; (intro w hSw; (try dsimp only at hSw); go_simp) <;> with_reducible rfl)); (try simp only [Act.put, List.setIfInBounds_toArray, List.set_cons_zero, List.set_cons_succ]))
        (refine wpAnyH_take (i := 4) (oi := ?oi_2_4) (v := ?v_2_4) ?ho_2_4 ?hs_2_4 ?hf_2_4 ?hr_2_4 ?hQ_2_4 ?hy_2_4 ?hS_2_4 ?rest_2_4; (case hr_2_4 => kernel_rfl); (case hf_2_4 => kernel_rfl); (case hs_2_4 => kernel_rfl); (case ho_2_4 => (simp only [List.getElem?_toArray, List.getElem?_cons_succ, List.getElem?_cons_zero]; rfl)); (case hS_2_4 => assumption); (case hQ_2_4 => exact fun _ _ _ h => h); (case hy_2_4 => (refine Or.inl ⟨by rfl, ?_⟩; (intro w hSw; (try dsimp only at hSw); go_simp) <;> with_reducible rfl)); (try simp only [Act.put, List.setIfInBounds_toArray, List.set_cons_zero, List.set_cons_succ]))
        (refine wpAnyH_take (i := 5) (oi := ?oi_2_5) (v := ?v_2_5) ?ho_2_5 ?hs_2_5 ?hf_2_5 ?hr_2_5 ?hQ_2_5 ?hy_2_5 ?hS_2_5 ?rest_2_5; (case hr_2_5 => kernel_rfl); (case hf_2_5 => kernel_rfl); (case hs_2_5 => kernel_rfl); (case ho_2_5 => (simp only [List.getElem?_toArray, List.getElem?_cons_succ, List.getElem?_cons_zero]; rfl)); (case hS_2_5 => assumption); (case hQ_2_5 => exact fun _ _ _ h => h); (case hy_2_5 => (refine Or.inl ⟨by rfl, ?_⟩; (intro w hSw; (try dsimp only at hSw); go_simp) <;> with_reducible rfl)); (try simp only [Act.put, List.setIfInBounds_toArray, List.set_cons_zero, List.set_cons_succ]))
        (refine wpAnyH_take (i := 6) (oi := ?oi_2_6) (v := ?v_2_6) ?ho_2_6 ?hs_2_6 ?hf_2_6 ?hr_2_6 ?hQ_2_6 ?hy_2_6 ?hS_2_6 ?rest_2_6; (case hr_2_6 => kernel_rfl); (case hf_2_6 => kernel_rfl); (case hs_2_6 => kernel_rfl); (case ho_2_6 => (simp only [List.getElem?_toArray, List.getElem?_cons_succ, List.getElem?_cons_zero]; rfl)); (case hS_2_6 => assumption); (case hQ_2_6 => exact fun _ _ _ h => h); (case hy_2_6 => (refine Or.inl ⟨by rfl, ?_⟩; (intro w hSw; (try dsimp only at hSw); go_simp) <;> with_reducible rfl)); (try simp only [Act.put, List.setIfInBounds_toArray, List.set_cons_zero, List.set_cons_succ]))
        (refine wpAnyH_take (i := 8) (oi := ?oi_2_8) (v := ?v_2_8) ?ho_2_8 ?hs_2_8 ?hf_2_8 ?hr_2_8 ?hQ_2_8 ?hy_2_8 ?hS_2_8 ?rest_2_8; (case hr_2_8 => kernel_rfl); (case hf_2_8 => kernel_rfl); (case hs_2_8 => kernel_rfl); (case ho_2_8 => (simp only [List.getElem?_toArray, List.getElem?_cons_succ, List.getElem?_cons_zero]; rfl)); (case hS_2_8 => assumption); (case hQ_2_8 => exact fun _ _ _ h => h); (case hy_2_8 => (refine Or.inl ⟨by rfl, ?_⟩; (intro w hSw; (try dsimp only at hSw); go_simp) <;> with_reducible rfl)); (try simp only [Act.put, List.setIfInBounds_toArray, List.set_cons_zero, List.set_cons_succ]))
        (refine wpAnyH_ready (rs := [7]) (by kernel_rfl) (by simp) ?_; refine AllReadyH.cons (o := ?oo_2_7) ?hoo_2_7 ?hst_2_7 AllReadyH.nil; (case hoo_2_7 => (simp only [List.getElem?_toArray, List.getElem?_cons_succ, List.getElem?_cons_zero]; rfl)); intro K hK; go_simp; (first | (go_at_call 29; refine (hpl.out _ (hR5.out.non (Upd.drew Non w5))).mono ?_; rintro en w6 ⟨rfl, hu6⟩; have hU6 := (Upd.drew Non w5).trans hu6 fun _ _ h => h; have q0 := hU6.cell b0 fun h => h; have q1 := hU6.cell b1 fun h => h) | (go_at_call 28; refine (hWr.out _ v9 (hD5.out.non hU6) (ho9.out.upd hU6 fun _ _ h => h) hv9).mono ?_; rintro en w7 ⟨rfl, F7, hD7, hu7, hF7⟩; have p0 := hu7.cell q0 hRF; have p1 := hu7.cell q1 hnbF)); (try go_wp2_with fail); refine hK.out _ _ (by (try dsimp only); first | exact ⟨p0, p1⟩ | exact ⟨q0, q1⟩ | exact ⟨(Upd.drew Non w5).cell b0 fun h => h, (Upd.drew Non w5).cell b1 fun h => h⟩) (fun hHeld => ?_); clear hK K; (try simp only [Act.put, List.setIfInBounds_toArray, List.set_cons_zero, List.set_cons_succ]))
        (refine wpAnyH_ready (rs := [9]) (by kernel_rfl) (by simp) ?_; refine AllReadyH.cons (o := ?oo_2_9) ?hoo_2_9 ?hst_2_9 AllReadyH.nil; (case hoo_2_9 => (simp only [List.getElem?_toArray, List.getElem?_cons_succ, List.getElem?_cons_zero]; rfl)); intro K hK; go_simp; (first | (go_at_call 29; refine (hpl.out _ (hR5.out.non (Upd.drew Non w5))).mono ?_; rintro en w6 ⟨rfl, hu6⟩; have hU6 := (Upd.drew Non w5).trans hu6 fun _ _ h => h; have q0 := hU6.cell b0 fun h => h; have q1 := hU6.cell b1 fun h => h) | (go_at_call 28; refine (hWr.out _ v9 (hD5.out.non hU6) (ho9.out.upd hU6 fun _ _ h => h) hv9).mono ?_; rintro en w7 ⟨rfl, F7, hD7, hu7, hF7⟩; have p0 := hu7.cell q0 hRF; have p1 := hu7.cell q1 hnbF)); (try go_wp2_with fail); refine hK.out _ _ (by (try dsimp only); first | exact ⟨p0, p1⟩ | exact ⟨q0, q1⟩ | exact ⟨(Upd.drew Non w5).cell b0 fun h => h, (Upd.drew Non w5).cell b1 fun h => h⟩) (fun hHeld => ?_); clear hK K; (try simp only [Act.put, List.setIfInBounds_toArray, List.set_cons_zero, List.set_cons_succ]))
        (refine wpAnyH_take (i := 10) (oi := ?oi_2_10) (v := ?v_2_10) ?ho_2_10 ?hs_2_10 ?hf_2_10 ?hr_2_10 ?hQ_2_10 ?hy_2_10 ?hS_2_10 ?rest_2_10; (case hr_2_10 => kernel_rfl); (case hf_2_10 => kernel_rfl); (case hs_2_10 => kernel_rfl); (case ho_2_10 => (simp only [List.getElem?_toArray, List.getElem?_cons_succ, List.getElem?_cons_zero]; rfl)); (case hS_2_10 => assumption); (case hQ_2_10 => exact fun _ _ _ h => h); (case hy_2_10 => (refine Or.inl ⟨by rfl, ?_⟩; (intro w hSw; (try dsimp only at hSw); go_simp) <;> with_reducible rfl)); (try simp only [Act.put, List.setIfInBounds_toArray, List.set_cons_zero, List.set_cons_succ]))
        refine wpAnyH_done (by kernel_rfl) ?_ _
        have hk7 := (hk5.trans (Kp.non (F := F') hU6)).trans ⟨hu7, hF7⟩
        clear hHeld hu7 hF7 hu6 hU6 hk5 p0 p1 q0 q1
        go_wp2_with fail
        go_roundw
        case rel => exact ⟨i + 1, F7, by go_num, by omega, by rw [hdj.out]; exact hD7, hk7⟩
        case measure => simp [intOf]; omega
      · obtain rfl : i = N := by omega
        have hinI : ¬ (i : Int) < (i : Int) := by omega
        rw [show X.take i = X from List.take_of_length_le (by omega)] at hDi
        have hRF : ¬ F' R := fun hF => by
          rcases hk.own _ hF with h | h
          · exact hAh.out _ h hRh.out.gR
          · have h1 := hRh.out.lt _ hRh.out.gR
            have h2 := hU3.size
            omega
        obtain ⟨vb, vd, z0, z1, z2, z3, z4, z5, z6⟩ := hRw.cell
        obtain ⟨vr, hrX, hrL, hrn, hrG⟩ := hRw.ex
        have hw2 : IntKind.i64.wrap (nx + (i : Int)) = nx + (i : Int) := IntWalk.i64_in _ ⟨by omega, by omega⟩
        clear hXcell hPl hPin hap hdl hXget
        replace hrX := Lib.hid hrX
        replace hrL := Lib.hid hrL
        simp only at z0 z1 z2 z3 z4 z5 z6
        generalize hLn : L.length = ln at *
        go_wp2_with fail
        have hu8 : Upd Non wr ((wr.alloc (.cells #[.int .i64 nx, .int .i64 (nx + (i : Int)), .string ⟨s.toArray⟩] 65)).drew) := (Upd.alloc Non wr _).then_drew
        have hx8 : ((wr.alloc (.cells #[.int .i64 nx, .int .i64 (nx + (i : Int)), .string ⟨s.toArray⟩] 65)).drew).heap[wr.heap.size]? = some (.cells #[.int .i64 nx, .int .i64 (nx + (i : Int)), .string ⟨s.toArray⟩] 65 (0, 0)) := heap_alloc_new wr _
        refine wp_region_held_drew (S := (fun w' => w'.cell? ⟨R, 4, none⟩ = some (.int .i64 nx))) (by kernel_rfl) (by (try dsimp only); first | exact hu8.cell z4 (fun h => h) | exact (Upd.drew Non wr).cell z4 fun h => h | exact ((Upd.drew Non wr).then_alloc (.cells #[.int .i64 0, .int .i64 0, .string ⟨#[]⟩] 65)).cell z4 fun h => h) (fun hHeld => ?_)
        (refine wpAnyH_take (i := 0) (oi := ?oi_3_0) (v := ?v_3_0) ?ho_3_0 ?hs_3_0 ?hf_3_0 ?hr_3_0 ?hQ_3_0 ?hy_3_0 ?hS_3_0 ?rest_3_0; (case hr_3_0 => kernel_rfl); (case hf_3_0 => kernel_rfl); (case hs_3_0 => kernel_rfl); (case ho_3_0 => (simp only [List.getElem?_toArray, List.getElem?_cons_succ, List.getElem?_cons_zero]; rfl)); (case hS_3_0 => assumption); (case hQ_3_0 => exact fun _ _ _ h => h); (case hy_3_0 => (refine Or.inl ⟨by rfl, ?_⟩; (intro w hSw; (try dsimp only at hSw); go_simp) <;> with_reducible rfl)); (try simp only [Act.put, List.setIfInBounds_toArray, List.set_cons_zero, List.set_cons_succ]))
        (refine wpAnyH_take (i := 1) (oi := ?oi_3_1) (v := ?v_3_1) ?ho_3_1 ?hs_3_1 ?hf_3_1 ?hr_3_1 ?hQ_3_1 ?hy_3_1 ?hS_3_1 ?rest_3_1; (case hr_3_1 => kernel_rfl); (case hf_3_1 => kernel_rfl); (case hs_3_1 => kernel_rfl); (case ho_3_1 => (simp only [List.getElem?_toArray, List.getElem?_cons_succ, List.getElem?_cons_zero]; rfl)); (case hS_3_1 => assumption); (case hQ_3_1 => exact fun _ _ _ h => h); (case hy_3_1 => (refine Or.inl ⟨by rfl, ?_⟩; (intro w hSw; (try dsimp only at hSw); go_simp) <;> with_reducible rfl)); (try simp only [Act.put, List.setIfInBounds_toArray, List.set_cons_zero, List.set_cons_succ]))
        (refine wpAnyH_take (i := 2) (oi := ?oi_3_2) (v := ?v_3_2) ?ho_3_2 ?hs_3_2 ?hf_3_2 ?hr_3_2 ?hQ_3_2 ?hy_3_2 ?hS_3_2 ?rest_3_2; (case hr_3_2 => kernel_rfl); (case hf_3_2 => kernel_rfl); (case hs_3_2 => kernel_rfl); (case ho_3_2 => (simp only [List.getElem?_toArray, List.getElem?_cons_succ, List.getElem?_cons_zero]; rfl)); (case hS_3_2 => assumption); (case hQ_3_2 => exact fun _ _ _ h => h); (case hy_3_2 => (refine Or.inl ⟨by rfl, ?_⟩; (intro w hSw; (try dsimp only at hSw); go_simp) <;> with_reducible rfl)); (try simp only [Act.put, List.setIfInBounds_toArray, List.set_cons_zero, List.set_cons_succ]))
        (refine wpAnyH_take (i := 3) (oi := ?oi_3_3) (v := ?v_3_3) ?ho_3_3 ?hs_3_3 ?hf_3_3 ?hr_3_3 ?hQ_3_3 ?hy_3_3 ?hS_3_3 ?rest_3_3; (case hr_3_3 => kernel_rfl); (case hf_3_3 => kernel_rfl); (case hs_3_3 => kernel_rfl); (case ho_3_3 => (simp only [List.getElem?_toArray, List.getElem?_cons_succ, List.getElem?_cons_zero]; rfl)); (case hS_3_3 => assumption); (case hQ_3_3 => exact fun _ _ _ h => h); (case hy_3_3 => (refine Or.inl ⟨by rfl, ?_⟩; (intro w hSw; (try dsimp only at hSw); go_simp) <;> with_reducible rfl)); (try simp only [Act.put, List.setIfInBounds_toArray, List.set_cons_zero, List.set_cons_succ]))
        (refine wpAnyH_take (i := 4) (oi := ?oi_3_4) (v := ?v_3_4) ?ho_3_4 ?hs_3_4 ?hf_3_4 ?hr_3_4 ?hQ_3_4 ?hy_3_4 ?hS_3_4 ?rest_3_4; (case hr_3_4 => kernel_rfl); (case hf_3_4 => kernel_rfl); (case hs_3_4 => kernel_rfl); (case ho_3_4 => (simp only [List.getElem?_toArray, List.getElem?_cons_succ, List.getElem?_cons_zero]; rfl)); (case hS_3_4 => assumption); (case hQ_3_4 => exact fun _ _ _ h => h); (case hy_3_4 => (refine Or.inl ⟨by rfl, ?_⟩; (intro w hSw; (try dsimp only at hSw); go_simp) <;> with_reducible rfl)); (try simp only [Act.put, List.setIfInBounds_toArray, List.set_cons_zero, List.set_cons_succ]))
        (refine wpAnyH_take (i := 5) (oi := ?oi_3_5) (v := ?v_3_5) ?ho_3_5 ?hs_3_5 ?hf_3_5 ?hr_3_5 ?hQ_3_5 ?hy_3_5 ?hS_3_5 ?rest_3_5; (case hr_3_5 => kernel_rfl); (case hf_3_5 => kernel_rfl); (case hs_3_5 => kernel_rfl); (case ho_3_5 => (simp only [List.getElem?_toArray, List.getElem?_cons_succ, List.getElem?_cons_zero]; rfl)); (case hS_3_5 => assumption); (case hQ_3_5 => exact fun _ _ _ h => h); (case hy_3_5 => (refine Or.inl ⟨by rfl, ?_⟩; (intro w hSw; (try dsimp only at hSw); go_simp) <;> with_reducible rfl)); (try simp only [Act.put, List.setIfInBounds_toArray, List.set_cons_zero, List.set_cons_succ]))
        (refine wpAnyH_take (i := 6) (oi := ?oi_3_6) (v := ?v_3_6) ?ho_3_6 ?hs_3_6 ?hf_3_6 ?hr_3_6 ?hQ_3_6 ?hy_3_6 ?hS_3_6 ?rest_3_6; (case hr_3_6 => kernel_rfl); (case hf_3_6 => kernel_rfl); (case hs_3_6 => kernel_rfl); (case ho_3_6 => (simp only [List.getElem?_toArray, List.getElem?_cons_succ, List.getElem?_cons_zero]; rfl)); (case hS_3_6 => assumption); (case hQ_3_6 => exact fun _ _ _ h => h); (case hy_3_6 => (refine Or.inl ⟨by rfl, ?_⟩; (intro w hSw; (try dsimp only at hSw); go_simp) <;> with_reducible rfl)); (try simp only [Act.put, List.setIfInBounds_toArray, List.set_cons_zero, List.set_cons_succ]))
        (refine wpAnyH_take (i := 7) (oi := ?oi_3_7) (v := ?v_3_7) ?ho_3_7 ?hs_3_7 ?hf_3_7 ?hr_3_7 ?hQ_3_7 ?hy_3_7 ?hS_3_7 ?rest_3_7; (case hr_3_7 => kernel_rfl); (case hf_3_7 => kernel_rfl); (case hs_3_7 => kernel_rfl); (case ho_3_7 => (simp only [List.getElem?_toArray, List.getElem?_cons_succ, List.getElem?_cons_zero]; rfl)); (case hS_3_7 => assumption); (case hQ_3_7 => exact fun _ _ _ h => h); (case hy_3_7 => (refine Or.inl ⟨by rfl, ?_⟩; (intro w hSw; (try dsimp only at hSw); go_simp) <;> with_reducible rfl)); (try simp only [Act.put, List.setIfInBounds_toArray, List.set_cons_zero, List.set_cons_succ]))
        (refine wpAnyH_take (i := 8) (oi := ?oi_3_8) (v := ?v_3_8) ?ho_3_8 ?hs_3_8 ?hf_3_8 ?hr_3_8 ?hQ_3_8 ?hy_3_8 ?hS_3_8 ?rest_3_8; (case hr_3_8 => kernel_rfl); (case hf_3_8 => kernel_rfl); (case hs_3_8 => kernel_rfl); (case ho_3_8 => (simp only [List.getElem?_toArray, List.getElem?_cons_succ, List.getElem?_cons_zero]; rfl)); (case hS_3_8 => assumption); (case hQ_3_8 => exact fun _ _ _ h => h); (case hy_3_8 => (refine Or.inl ⟨by rfl, ?_⟩; (intro w hSw; (try dsimp only at hSw); go_simp) <;> with_reducible rfl)); (try simp only [Act.put, List.setIfInBounds_toArray, List.set_cons_zero, List.set_cons_succ]))
        (refine wpAnyH_take (i := 9) (oi := ?oi_3_9) (v := ?v_3_9) ?ho_3_9 ?hs_3_9 ?hf_3_9 ?hr_3_9 ?hQ_3_9 ?hy_3_9 ?hS_3_9 ?rest_3_9; (case hr_3_9 => kernel_rfl); (case hf_3_9 => kernel_rfl); (case hs_3_9 => kernel_rfl); (case ho_3_9 => (simp only [List.getElem?_toArray, List.getElem?_cons_succ, List.getElem?_cons_zero]; rfl)); (case hS_3_9 => assumption); (case hQ_3_9 => exact fun _ _ _ h => h); (case hy_3_9 => (refine Or.inl ⟨by rfl, ?_⟩; (intro w hSw; (try dsimp only at hSw); go_simp) <;> with_reducible rfl)); (try simp only [Act.put, List.setIfInBounds_toArray, List.set_cons_zero, List.set_cons_succ]))
        (refine wpAnyH_take (i := 10) (oi := ?oi_3_10) (v := ?v_3_10) ?ho_3_10 ?hs_3_10 ?hf_3_10 ?hr_3_10 ?hQ_3_10 ?hy_3_10 ?hS_3_10 ?rest_3_10; (case hr_3_10 => kernel_rfl); (case hf_3_10 => kernel_rfl); (case hs_3_10 => kernel_rfl); (case ho_3_10 => (simp only [List.getElem?_toArray, List.getElem?_cons_succ, List.getElem?_cons_zero]; rfl)); (case hS_3_10 => assumption); (case hQ_3_10 => exact fun _ _ _ h => h); (case hy_3_10 => (refine Or.inl ⟨by rfl, ?_⟩; (intro w hSw; (try dsimp only at hSw); go_simp) <;> with_reducible rfl)); (try simp only [Act.put, List.setIfInBounds_toArray, List.set_cons_zero, List.set_cons_succ]))
        (refine wpAnyH_take (i := 11) (oi := ?oi_3_11) (v := ?v_3_11) ?ho_3_11 ?hs_3_11 ?hf_3_11 ?hr_3_11 ?hQ_3_11 ?hy_3_11 ?hS_3_11 ?rest_3_11; (case hr_3_11 => kernel_rfl); (case hf_3_11 => kernel_rfl); (case hs_3_11 => kernel_rfl); (case ho_3_11 => (simp only [List.getElem?_toArray, List.getElem?_cons_succ, List.getElem?_cons_zero]; rfl)); (case hS_3_11 => assumption); (case hQ_3_11 => exact fun _ _ _ h => h); (case hy_3_11 => (refine Or.inl ⟨by rfl, ?_⟩; (intro w hSw; (try dsimp only at hSw); go_simp) <;> with_reducible rfl)); (try simp only [Act.put, List.setIfInBounds_toArray, List.set_cons_zero, List.set_cons_succ]))
        (refine wpAnyH_take (i := 12) (oi := ?oi_3_12) (v := ?v_3_12) ?ho_3_12 ?hs_3_12 ?hf_3_12 ?hr_3_12 ?hQ_3_12 ?hy_3_12 ?hS_3_12 ?rest_3_12; (case hr_3_12 => kernel_rfl); (case hf_3_12 => kernel_rfl); (case hs_3_12 => kernel_rfl); (case ho_3_12 => (simp only [List.getElem?_toArray, List.getElem?_cons_succ, List.getElem?_cons_zero]; rfl)); (case hS_3_12 => assumption); (case hQ_3_12 => exact fun _ _ _ h => h); (case hy_3_12 => (refine Or.inl ⟨by rfl, ?_⟩; (intro w hSw; (try dsimp only at hSw); go_simp) <;> with_reducible rfl)); (try simp only [Act.put, List.setIfInBounds_toArray, List.set_cons_zero, List.set_cons_succ]))
        (refine wpAnyH_ready (rs := [13]) (by kernel_rfl) (by simp) ?_; refine AllReadyH.cons (o := ?oo_3_13) ?hoo_3_13 ?hst_3_13 AllReadyH.nil; (case hoo_3_13 => (simp only [List.getElem?_toArray, List.getElem?_cons_succ, List.getElem?_cons_zero]; rfl)); intro K hK; go_simp; (skip); (try go_wp2_with fail); refine hK.out _ _ (by (try dsimp only); first | exact hu8.cell z4 (fun h => h) | exact (Upd.drew Non wr).cell z4 fun h => h | exact ((Upd.drew Non wr).then_alloc (.cells #[.int .i64 0, .int .i64 0, .string ⟨#[]⟩] 65)).cell z4 fun h => h) (fun hHeld => ?_); clear hK K; (try simp only [Act.put, List.setIfInBounds_toArray, List.set_cons_zero, List.set_cons_succ]))
        (refine wpAnyH_ready (rs := [14]) (by kernel_rfl) (by simp) ?_; refine AllReadyH.cons (o := ?oo_3_14) ?hoo_3_14 ?hst_3_14 AllReadyH.nil; (case hoo_3_14 => (simp only [List.getElem?_toArray, List.getElem?_cons_succ, List.getElem?_cons_zero]; rfl)); intro K hK; go_simp; (skip); (try go_wp2_with fail); refine hK.out _ _ (by (try dsimp only); first | exact hu8.cell z4 (fun h => h) | exact (Upd.drew Non wr).cell z4 fun h => h | exact ((Upd.drew Non wr).then_alloc (.cells #[.int .i64 0, .int .i64 0, .string ⟨#[]⟩] 65)).cell z4 fun h => h) (fun hHeld => ?_); clear hK K; (try simp only [Act.put, List.setIfInBounds_toArray, List.set_cons_zero, List.set_cons_succ]))
        refine wpAnyH_done (by kernel_rfl) ?_ _
        generalize (wr.alloc (.cells #[.int .i64 nx, .int .i64 (nx + (i : Int)), .string ⟨s.toArray⟩] 65)).drew = w8 at *
        obtain rfl : vr = .slice vb ln vd := by
          have h := (cells_of hrX.out).1 6
          rw [z6] at h
          exact (Option.some.inj h).symm
        have hr8 := hu8.heap hrX.out fun h => h
        have hl8 := hu8.owns hrL.out fun _ _ h => h
        have hf8 := has_full (has_of_owns hl8)
        obtain ⟨nr, hnr⟩ : ∃ nr, wr.heap.size = nr := ⟨_, rfl⟩
        rw [hnr] at hx8 ⊢
        have hnrl := heap_lt hx8
        have hRl := heap_lt hr8
        have hRnr : R < nr := by rw [← hnr]; exact heap_lt hrX.out
        obtain ⟨m', mz⟩ := cells_of hr8
        obtain ⟨n', nz⟩ := cells_of hx8
        have m4 : w8.cell? ⟨R, 4, none⟩ = some (.int .i64 nx) := m' 4
        have m6 : w8.cell? ⟨R, 6, none⟩ = some (.slice vb ln vd) := m' 6
        have n0 : w8.cell? ⟨nr, 0, none⟩ = some (.int .i64 nx) := n' 0
        have n1 : w8.cell? ⟨nr, 1, none⟩ = some (.int .i64 (nx + (i : Int))) := n' 1
        have n2 : w8.cell? ⟨nr, 2, none⟩ = some (.string ⟨s.toArray⟩) := n' 2
        have hcap : ln ≤ vd := by obtain ⟨_, a, c, e, h, -⟩ := has_of_owns hl8; injection e with e1 e2 e3; omega
        have hcapI : (ln : Int) ≤ (vd : Int) := by omega
        have hcm : vd ≤ maxLen := by obtain ⟨_, a, c, e, h, h2, -⟩ := has_of_owns hl8; injection e with e1 e2 e3; omega
        clear z0 z1 z2 z3 z4 z5 z6 m' n' hHeld
        have hinf := Lib.hid (@info_rec)
        go_wp2_with fail
        refine wp_region_held_drew (S := (fun w' => w'.cell? ⟨nr, 0, none⟩ = some (.int .i64 nx) ∧ w'.cell? ⟨nr, 1, none⟩ = some (.int .i64 (nx + (i : Int))) ∧ w'.cell? ⟨nr, 2, none⟩ = some (.string ⟨s.toArray⟩))) (by kernel_rfl) (by exact ⟨(Upd.drew Non w8).cell n0 fun h => h, (Upd.drew Non w8).cell n1 fun h => h, (Upd.drew Non w8).cell n2 fun h => h⟩) (fun hHeld => ?_)
        (refine wpAnyH_take (i := 0) (oi := ?oi_a1) (v := ?v_a1) ?ho_a1 ?hs_a1 ?hf_a1 ?hr_a1 ?hQ_a1 ?hy_a1 ?hS_a1 ?rest_a1; (case hr_a1 => kernel_rfl); (case hf_a1 => kernel_rfl); (case hs_a1 => kernel_rfl); (case ho_a1 => (simp only [List.getElem?_toArray, List.getElem?_cons_succ, List.getElem?_cons_zero]; rfl)); (case hS_a1 => assumption); (case hQ_a1 => exact fun _ _ _ h => h); (case hy_a1 => (refine Or.inl ⟨by rfl, ?_⟩; (intro w hSw; (try dsimp only at hSw); go_simp) <;> with_reducible rfl)); (try simp only [Act.put, List.setIfInBounds_toArray, List.set_cons_zero, List.set_cons_succ]))
        (refine wpAnyH_take (i := 1) (oi := ?oi_a2) (v := ?v_a2) ?ho_a2 ?hs_a2 ?hf_a2 ?hr_a2 ?hQ_a2 ?hy_a2 ?hS_a2 ?rest_a2; (case hr_a2 => kernel_rfl); (case hf_a2 => kernel_rfl); (case hs_a2 => kernel_rfl); (case ho_a2 => (simp only [List.getElem?_toArray, List.getElem?_cons_succ, List.getElem?_cons_zero]; rfl)); (case hS_a2 => assumption); (case hQ_a2 => exact fun _ _ _ h => h); (case hy_a2 => (refine Or.inl ⟨by rfl, ?_⟩; (intro w hSw; (try dsimp only at hSw); go_simp) <;> with_reducible rfl)); (try simp only [Act.put, List.setIfInBounds_toArray, List.set_cons_zero, List.set_cons_succ]))
        (refine wpAnyH_take (i := 2) (oi := ?oi_a3) (v := ?v_a3) ?ho_a3 ?hs_a3 ?hf_a3 ?hr_a3 ?hQ_a3 ?hy_a3 ?hS_a3 ?rest_a3; (case hr_a3 => kernel_rfl); (case hf_a3 => kernel_rfl); (case hs_a3 => kernel_rfl); (case ho_a3 => (simp only [List.getElem?_toArray, List.getElem?_cons_succ, List.getElem?_cons_zero]; rfl)); (case hS_a3 => assumption); (case hQ_a3 => exact fun _ _ _ h => h); (case hy_a3 => (refine Or.inl ⟨by rfl, ?_⟩; (intro w hSw; (try dsimp only at hSw); go_simp) <;> with_reducible rfl)); (try simp only [Act.put, List.setIfInBounds_toArray, List.set_cons_zero, List.set_cons_succ]))
        (refine wpAnyH_take (i := 3) (oi := ?oi_a4) (v := ?v_a4) ?ho_a4 ?hs_a4 ?hf_a4 ?hr_a4 ?hQ_a4 ?hy_a4 ?hS_a4 ?rest_a4; (case hr_a4 => kernel_rfl); (case hf_a4 => kernel_rfl); (case hs_a4 => kernel_rfl); (case ho_a4 => (simp only [List.getElem?_toArray, List.getElem?_cons_succ, List.getElem?_cons_zero]; rfl)); (case hS_a4 => assumption); (case hQ_a4 => exact fun _ _ _ h => h); (case hy_a4 => (refine Or.inl ⟨by rfl, ?_⟩; (intro w hSw; (try dsimp only at hSw); go_simp) <;> with_reducible rfl)); (try simp only [Act.put, List.setIfInBounds_toArray, List.set_cons_zero, List.set_cons_succ]))
        (refine wpAnyH_take (i := 5) (oi := ?oi_a5) (v := ?v_a5) ?ho_a5 ?hs_a5 ?hf_a5 ?hr_a5 ?hQ_a5 ?hy_a5 ?hS_a5 ?rest_a5; (case hr_a5 => kernel_rfl); (case hf_a5 => kernel_rfl); (case hs_a5 => kernel_rfl); (case ho_a5 => (simp only [List.getElem?_toArray, List.getElem?_cons_succ, List.getElem?_cons_zero]; rfl)); (case hS_a5 => assumption); (case hQ_a5 => exact fun _ _ _ h => h); (case hy_a5 => (refine Or.inl ⟨by rfl, ?_⟩; (intro w hSw; (try dsimp only at hSw); go_simp) <;> with_reducible rfl)); (try simp only [Act.put, List.setIfInBounds_toArray, List.set_cons_zero, List.set_cons_succ]))
        (refine wpAnyH_take (i := 6) (oi := ?oi_a6) (v := ?v_a6) ?ho_a6 ?hs_a6 ?hf_a6 ?hr_a6 ?hQ_a6 ?hy_a6 ?hS_a6 ?rest_a6; (case hr_a6 => kernel_rfl); (case hf_a6 => kernel_rfl); (case hs_a6 => kernel_rfl); (case ho_a6 => (simp only [List.getElem?_toArray, List.getElem?_cons_succ, List.getElem?_cons_zero]; rfl)); (case hS_a6 => assumption); (case hQ_a6 => exact fun _ _ _ h => h); (case hy_a6 => (refine Or.inl ⟨by rfl, ?_⟩; (intro w hSw; (try dsimp only at hSw); go_simp) <;> with_reducible rfl)); (try simp only [Act.put, List.setIfInBounds_toArray, List.set_cons_zero, List.set_cons_succ]))
        (refine wpAnyH_take (i := 8) (oi := ?oi_a7) (v := ?v_a7) ?ho_a7 ?hs_a7 ?hf_a7 ?hr_a7 ?hQ_a7 ?hy_a7 ?hS_a7 ?rest_a7; (case hr_a7 => kernel_rfl); (case hf_a7 => kernel_rfl); (case hs_a7 => kernel_rfl); (case ho_a7 => (simp only [List.getElem?_toArray, List.getElem?_cons_succ, List.getElem?_cons_zero]; rfl)); (case hS_a7 => assumption); (case hQ_a7 => exact fun _ _ _ h => h); (case hy_a7 => (refine Or.inl ⟨by rfl, ?_⟩; (intro w hSw; obtain ⟨n0, n1, n2⟩ := hSw; go_simp) <;> with_reducible rfl)); (try simp only [Act.put, List.setIfInBounds_toArray, List.set_cons_zero, List.set_cons_succ]))
        refine wpAnyH_ready (rs := [4, 9]) (by kernel_rfl) (by simp) ?_
        refine (AllReadyH.cons (o := ?ooa8_0) ?hoa8_0 ?hsa8_0 (AllReadyH.cons (o := ?ooa8_1) ?hoa8_1 ?hsa8_1 AllReadyH.nil))
        case hoa8_0 => (simp only [List.getElem?_toArray, List.getElem?_cons_succ, List.getElem?_cons_zero]; rfl)
        case hoa8_1 => (simp only [List.getElem?_toArray, List.getElem?_cons_succ, List.getElem?_cons_zero]; rfl)
        case hsa8_0 =>
          intro K hK
          have m6d := (Upd.drew Non w8).cell m6 fun h => h
          go_simp
          refine hK.out _ _ (by exact ⟨(Upd.drew Non w8).cell n0 fun h => h, (Upd.drew Non w8).cell n1 fun h => h, (Upd.drew Non w8).cell n2 fun h => h⟩) (fun hHeld => ?_)
          clear hK K
          try simp only [Act.put, List.setIfInBounds_toArray, List.set_cons_zero, List.set_cons_succ]
          (refine wpAnyH_take (i := 7) (oi := ?oi_a9) (v := ?v_a9) ?ho_a9 ?hs_a9 ?hf_a9 ?hr_a9 ?hQ_a9 ?hy_a9 ?hS_a9 ?rest_a9; (case hr_a9 => kernel_rfl); (case hf_a9 => kernel_rfl); (case hs_a9 => kernel_rfl); (case ho_a9 => (simp only [List.getElem?_toArray, List.getElem?_cons_succ, List.getElem?_cons_zero]; rfl)); (case hS_a9 => assumption); (case hQ_a9 => exact fun _ _ _ h => h); (case hy_a9 => (refine Or.inl ⟨by rfl, ?_⟩; (intro w hSw; (try dsimp only at hSw); go_simp) <;> with_reducible rfl)); (try simp only [Act.put, List.setIfInBounds_toArray, List.set_cons_zero, List.set_cons_succ]))
          refine wpAnyH_ready (rs := [9]) (by kernel_rfl) (by simp) ?_
          refine (AllReadyH.cons (o := ?ooa10_0) ?hoa10_0 ?hsa10_0 AllReadyH.nil)
          case hoa10_0 => (simp only [List.getElem?_toArray, List.getElem?_cons_succ, List.getElem?_cons_zero]; rfl)
          case hsa10_0 =>
            intro K hK
            go_simp
            have hu9a := (Upd.drew Non w8).then_alloc (.cells #[.int .i64 nx, .int .i64 (nx + (i : Int)), .string ⟨s.toArray⟩] 65)
            refine hK.out _ _ (by exact ⟨hu9a.cell n0 fun h => h, hu9a.cell n1 fun h => h, hu9a.cell n2 fun h => h⟩) (fun hHeld => ?_)
            clear hK K
            try simp only [Act.put, List.setIfInBounds_toArray, List.set_cons_zero, List.set_cons_succ]
            refine wpAnyH_ready (rs := [10]) (by kernel_rfl) (by simp) ?_
            refine (AllReadyH.cons (o := ?ooa11_0) ?hoa11_0 ?hsa11_0 AllReadyH.nil)
            case hoa11_0 => (simp only [List.getElem?_toArray, List.getElem?_cons_succ, List.getElem?_cons_zero]; rfl)
            case hsa11_0 =>
              intro K hK
              refine step_full1 rfl _ _ 35 rfl 65 (.agg #[.int .i64 0, .int .i64 0, .string ⟨#[]⟩]) 3 32 Try.underlying35 hinf.out rfl vb ln (jc L) rfl (hf8.upd (Upd.drew Non w8) fun _ _ h => h) [.int .i64 nx, .int .i64 (nx + (i : Int)), .string ⟨s.toArray⟩] w8.heap.size rfl rfl rfl (by intro u hu; simp at hu; rcases hu with rfl | rfl | rfl <;> rfl) (by unfold maxLen; omega) (by omega) ?_
              intro v9 w9 ho9 hu9 hv9
              have hU9 := (Upd.drew Non w8).trans hu9 fun _ _ h => h
              refine hK.out _ _ (by exact ⟨hU9.cell n0 fun h => h, hU9.cell n1 fun h => h, hU9.cell n2 fun h => h⟩) (fun hHeld => ?_)
              clear hK K
              try simp only [Act.put, List.setIfInBounds_toArray, List.set_cons_zero, List.set_cons_succ]
              have m6 := hU9.cell m6 fun h => h
              have m4 := hU9.cell m4 fun h => h
              have m6z := (cells_of (hU9.heap hr8 fun h => h)).2 6
              obtain ⟨_, a9, c9, rfl, -⟩ := has_of_owns ho9
              (refine wpAnyH_take (i := 11) (oi := ?oi_a12) (v := ?v_a12) ?ho_a12 ?hs_a12 ?hf_a12 ?hr_a12 ?hQ_a12 ?hy_a12 ?hS_a12 ?rest_a12; (case hr_a12 => kernel_rfl); (case hf_a12 => kernel_rfl); (case hs_a12 => kernel_rfl); (case ho_a12 => (simp only [List.getElem?_toArray, List.getElem?_cons_succ, List.getElem?_cons_zero]; rfl)); (case hS_a12 => assumption); (case hQ_a12 => exact fun _ _ _ h => h); (case hy_a12 => (refine Or.inl ⟨by rfl, ?_⟩; (intro w hSw; (try dsimp only at hSw); go_simp) <;> with_reducible rfl)); (try simp only [Act.put, List.setIfInBounds_toArray, List.set_cons_zero, List.set_cons_succ]))
              (refine wpAnyH_take (i := 12) (oi := ?oi_a13) (v := ?v_a13) ?ho_a13 ?hs_a13 ?hf_a13 ?hr_a13 ?hQ_a13 ?hy_a13 ?hS_a13 ?rest_a13; (case hr_a13 => kernel_rfl); (case hf_a13 => kernel_rfl); (case hs_a13 => kernel_rfl); (case ho_a13 => (simp only [List.getElem?_toArray, List.getElem?_cons_succ, List.getElem?_cons_zero]; rfl)); (case hS_a13 => assumption); (case hQ_a13 => exact fun _ _ _ h => h); (case hy_a13 => (refine Or.inl ⟨by rfl, ?_⟩; (intro w hSw; (try dsimp only at hSw); go_simp) <;> with_reducible rfl)); (try simp only [Act.put, List.setIfInBounds_toArray, List.set_cons_zero, List.set_cons_succ]))
              refine wpAnyH_ready (rs := [13]) (by kernel_rfl) (by simp) ?_
              refine (AllReadyH.cons (o := ?ooa14_0) ?hoa14_0 ?hsa14_0 AllReadyH.nil)
              case hoa14_0 => (simp only [List.getElem?_toArray, List.getElem?_cons_succ, List.getElem?_cons_zero]; rfl)
              case hsa14_0 =>
                intro K hK
                go_simp
                have hu10 := Upd.setCell (S := fun k => k = R) w9 (a := ⟨R, 6, none⟩) rfl (.slice a9 (ln + 1) c9)
                refine hK.out _ _ (by exact ⟨hu10.cell (hU9.cell n0 fun h => h) (Nat.ne_of_gt hRnr), hu10.cell (hU9.cell n1 fun h => h) (Nat.ne_of_gt hRnr), hu10.cell (hU9.cell n2 fun h => h) (Nat.ne_of_gt hRnr)⟩) (fun hHeld => ?_)
                clear hK K
                try simp only [Act.put, List.setIfInBounds_toArray, List.set_cons_zero, List.set_cons_succ]
                refine wpAnyH_done (by kernel_rfl) ?_ _
                have q1 := hu10.cell (hU9.cell n1 fun h => h) (Nat.ne_of_gt hRnr)
                have hrA := set_blk (j := 6) (hU9.heap hr8 fun h => h) (.slice a9 (ln + 1) c9)
                simp only [List.setIfInBounds_toArray, List.set_cons_zero, List.set_cons_succ] at hrA
                have mA4 := (cells_of hrA).1 4
                have zA4 := (cells_of hrA).2 4
                have hrB := set_blk (j := 4) hrA (.int .i64 (nx + (i : Int)))
                simp only [List.setIfInBounds_toArray, List.set_cons_zero, List.set_cons_succ] at hrB
                have huB := hu10.trans (Upd.setCell (S := fun k => k = R) _ (a := ⟨R, 4, none⟩) rfl (.int .i64 (nx + (i : Int)))) fun _ _ h => h
                have hwB : PR (.returned (.int .i64 0)) ((w9.setCell ⟨R, 6, none⟩ (.slice a9 (ln + 1) c9)).setCell ⟨R, 4, none⟩ (.int .i64 (nx + (i : Int)))) := by
                  rw [← hPR.out]
                  have e : appR ⟨fr, cn, st, nx, ep, L⟩ s = ⟨fr, cn, st, nx + (i : Int), ep, L ++ [⟨nx, nx + (i : Int), s⟩]⟩ := by unfold appR; rw [hNe.out]
                  have hok2 := hok'.out
                  rw [e] at hok2 ⊢
                  have hzz : nr < w8.drew.heap.size := hnrl
                  have hu89 := hu8.trans hU9 fun _ _ h => h
                  have hFn := hDi.lt
                  refine ⟨rfl, F', fun k => k = R ∨ At (.slice a9 (ln + 1) c9) k, (hDi.non hu89).upd huB (fun k hk e => hRF (e ▸ hk)), ⟨hok2, _, hrB, ?_, ?_, fun k => Iff.rfl⟩, ?_, ?_, ?_⟩
                  · have h9 := huB.owns ho9 fun k hk e => by have := own_ge ho9 hk; omega
                    have hl : (L ++ [(⟨nx, nx + (i : Int), s⟩ : R3)]).length = ln + 1 := by rw [List.length_append, hLn]; rfl
                    show World.ownsRow _ 0 _ 3 _ (L ++ [(⟨nx, nx + (i : Int), s⟩ : R3)]).length _
                    rw [hl, jc_append]
                    exact owns_mono h9 fun _ _ => Nat.zero_le _
                  · intro h; have := own_ge ho9 h; omega
                  · rintro k hk (rfl | h)
                    · exact hRF hk
                    · have h1 := own_ge ho9 h; have h2 := hFn k hk; omega
                  · exact (((hU3.non : Upd (fun k => F k ∨ G k) w w3).trans hk.upd fun _ _ h => .inl h).trans hu89 fun _ _ h => h.elim).trans huB fun j hj e => .inr (by rw [e]; exact hRh.out.gR)
                  · rintro k (hk' | rfl | h)
                    · rcases hk.own k hk' with h | h
                      · exact .inl (.inl h)
                      · have := hU3.size; exact .inr (by omega)
                    · exact .inl (.inr hRh.out.gR)
                    · have h1 := own_ge ho9 h; have h2 := hU3.size; have h3 := hk.upd.size; exact .inr (by omega)
                clear hrA hrB huB hu10 hHeld
                go_wp2_with fail
                exact hwB
        case hsa8_1 =>
          intro K hK
          go_simp
          have hu9a := (Upd.drew Non w8).then_alloc (.cells #[.int .i64 nx, .int .i64 (nx + (i : Int)), .string ⟨s.toArray⟩] 65)
          refine hK.out _ _ (by exact ⟨hu9a.cell n0 fun h => h, hu9a.cell n1 fun h => h, hu9a.cell n2 fun h => h⟩) (fun hHeld => ?_)
          clear hK K
          try simp only [Act.put, List.setIfInBounds_toArray, List.set_cons_zero, List.set_cons_succ]
          refine wpAnyH_ready (rs := [4]) (by kernel_rfl) (by simp) ?_
          refine (AllReadyH.cons (o := ?ooa15_0) ?hoa15_0 ?hsa15_0 AllReadyH.nil)
          case hoa15_0 => (simp only [List.getElem?_toArray, List.getElem?_cons_succ, List.getElem?_cons_zero]; rfl)
          case hsa15_0 =>
            intro K hK
            have m6d := hu9a.cell m6 fun h => h
            go_simp
            refine hK.out _ _ (by exact ⟨hu9a.cell n0 fun h => h, hu9a.cell n1 fun h => h, hu9a.cell n2 fun h => h⟩) (fun hHeld => ?_)
            clear hK K
            try simp only [Act.put, List.setIfInBounds_toArray, List.set_cons_zero, List.set_cons_succ]
            (refine wpAnyH_take (i := 7) (oi := ?oi_a16) (v := ?v_a16) ?ho_a16 ?hs_a16 ?hf_a16 ?hr_a16 ?hQ_a16 ?hy_a16 ?hS_a16 ?rest_a16; (case hr_a16 => kernel_rfl); (case hf_a16 => kernel_rfl); (case hs_a16 => kernel_rfl); (case ho_a16 => (simp only [List.getElem?_toArray, List.getElem?_cons_succ, List.getElem?_cons_zero]; rfl)); (case hS_a16 => assumption); (case hQ_a16 => exact fun _ _ _ h => h); (case hy_a16 => (refine Or.inl ⟨by rfl, ?_⟩; (intro w hSw; (try dsimp only at hSw); go_simp) <;> with_reducible rfl)); (try simp only [Act.put, List.setIfInBounds_toArray, List.set_cons_zero, List.set_cons_succ]))
            refine wpAnyH_ready (rs := [10]) (by kernel_rfl) (by simp) ?_
            refine (AllReadyH.cons (o := ?ooa17_0) ?hoa17_0 ?hsa17_0 AllReadyH.nil)
            case hoa17_0 => (simp only [List.getElem?_toArray, List.getElem?_cons_succ, List.getElem?_cons_zero]; rfl)
            case hsa17_0 =>
              intro K hK
              refine step_full1 rfl _ _ 35 rfl 65 (.agg #[.int .i64 0, .int .i64 0, .string ⟨#[]⟩]) 3 32 Try.underlying35 hinf.out rfl vb ln (jc L) rfl (hf8.upd (Upd.drew Non w8) fun _ _ h => h) [.int .i64 nx, .int .i64 (nx + (i : Int)), .string ⟨s.toArray⟩] w8.heap.size rfl rfl rfl (by intro u hu; simp at hu; rcases hu with rfl | rfl | rfl <;> rfl) (by unfold maxLen; omega) (by omega) ?_
              intro v9 w9 ho9 hu9 hv9
              have hU9 := (Upd.drew Non w8).trans hu9 fun _ _ h => h
              refine hK.out _ _ (by exact ⟨hU9.cell n0 fun h => h, hU9.cell n1 fun h => h, hU9.cell n2 fun h => h⟩) (fun hHeld => ?_)
              clear hK K
              try simp only [Act.put, List.setIfInBounds_toArray, List.set_cons_zero, List.set_cons_succ]
              have m6 := hU9.cell m6 fun h => h
              have m4 := hU9.cell m4 fun h => h
              have m6z := (cells_of (hU9.heap hr8 fun h => h)).2 6
              obtain ⟨_, a9, c9, rfl, -⟩ := has_of_owns ho9
              (refine wpAnyH_take (i := 11) (oi := ?oi_a18) (v := ?v_a18) ?ho_a18 ?hs_a18 ?hf_a18 ?hr_a18 ?hQ_a18 ?hy_a18 ?hS_a18 ?rest_a18; (case hr_a18 => kernel_rfl); (case hf_a18 => kernel_rfl); (case hs_a18 => kernel_rfl); (case ho_a18 => (simp only [List.getElem?_toArray, List.getElem?_cons_succ, List.getElem?_cons_zero]; rfl)); (case hS_a18 => assumption); (case hQ_a18 => exact fun _ _ _ h => h); (case hy_a18 => (refine Or.inl ⟨by rfl, ?_⟩; (intro w hSw; (try dsimp only at hSw); go_simp) <;> with_reducible rfl)); (try simp only [Act.put, List.setIfInBounds_toArray, List.set_cons_zero, List.set_cons_succ]))
              (refine wpAnyH_take (i := 12) (oi := ?oi_a19) (v := ?v_a19) ?ho_a19 ?hs_a19 ?hf_a19 ?hr_a19 ?hQ_a19 ?hy_a19 ?hS_a19 ?rest_a19; (case hr_a19 => kernel_rfl); (case hf_a19 => kernel_rfl); (case hs_a19 => kernel_rfl); (case ho_a19 => (simp only [List.getElem?_toArray, List.getElem?_cons_succ, List.getElem?_cons_zero]; rfl)); (case hS_a19 => assumption); (case hQ_a19 => exact fun _ _ _ h => h); (case hy_a19 => (refine Or.inl ⟨by rfl, ?_⟩; (intro w hSw; (try dsimp only at hSw); go_simp) <;> with_reducible rfl)); (try simp only [Act.put, List.setIfInBounds_toArray, List.set_cons_zero, List.set_cons_succ]))
              refine wpAnyH_ready (rs := [13]) (by kernel_rfl) (by simp) ?_
              refine (AllReadyH.cons (o := ?ooa20_0) ?hoa20_0 ?hsa20_0 AllReadyH.nil)
              case hoa20_0 => (simp only [List.getElem?_toArray, List.getElem?_cons_succ, List.getElem?_cons_zero]; rfl)
              case hsa20_0 =>
                intro K hK
                go_simp
                have hu10 := Upd.setCell (S := fun k => k = R) w9 (a := ⟨R, 6, none⟩) rfl (.slice a9 (ln + 1) c9)
                refine hK.out _ _ (by exact ⟨hu10.cell (hU9.cell n0 fun h => h) (Nat.ne_of_gt hRnr), hu10.cell (hU9.cell n1 fun h => h) (Nat.ne_of_gt hRnr), hu10.cell (hU9.cell n2 fun h => h) (Nat.ne_of_gt hRnr)⟩) (fun hHeld => ?_)
                clear hK K
                try simp only [Act.put, List.setIfInBounds_toArray, List.set_cons_zero, List.set_cons_succ]
                refine wpAnyH_done (by kernel_rfl) ?_ _
                have q1 := hu10.cell (hU9.cell n1 fun h => h) (Nat.ne_of_gt hRnr)
                have hrA := set_blk (j := 6) (hU9.heap hr8 fun h => h) (.slice a9 (ln + 1) c9)
                simp only [List.setIfInBounds_toArray, List.set_cons_zero, List.set_cons_succ] at hrA
                have mA4 := (cells_of hrA).1 4
                have zA4 := (cells_of hrA).2 4
                have hrB := set_blk (j := 4) hrA (.int .i64 (nx + (i : Int)))
                simp only [List.setIfInBounds_toArray, List.set_cons_zero, List.set_cons_succ] at hrB
                have huB := hu10.trans (Upd.setCell (S := fun k => k = R) _ (a := ⟨R, 4, none⟩) rfl (.int .i64 (nx + (i : Int)))) fun _ _ h => h
                have hwB : PR (.returned (.int .i64 0)) ((w9.setCell ⟨R, 6, none⟩ (.slice a9 (ln + 1) c9)).setCell ⟨R, 4, none⟩ (.int .i64 (nx + (i : Int)))) := by
                  rw [← hPR.out]
                  have e : appR ⟨fr, cn, st, nx, ep, L⟩ s = ⟨fr, cn, st, nx + (i : Int), ep, L ++ [⟨nx, nx + (i : Int), s⟩]⟩ := by unfold appR; rw [hNe.out]
                  have hok2 := hok'.out
                  rw [e] at hok2 ⊢
                  have hzz : nr < w8.drew.heap.size := hnrl
                  have hu89 := hu8.trans hU9 fun _ _ h => h
                  have hFn := hDi.lt
                  refine ⟨rfl, F', fun k => k = R ∨ At (.slice a9 (ln + 1) c9) k, (hDi.non hu89).upd huB (fun k hk e => hRF (e ▸ hk)), ⟨hok2, _, hrB, ?_, ?_, fun k => Iff.rfl⟩, ?_, ?_, ?_⟩
                  · have h9 := huB.owns ho9 fun k hk e => by have := own_ge ho9 hk; omega
                    have hl : (L ++ [(⟨nx, nx + (i : Int), s⟩ : R3)]).length = ln + 1 := by rw [List.length_append, hLn]; rfl
                    show World.ownsRow _ 0 _ 3 _ (L ++ [(⟨nx, nx + (i : Int), s⟩ : R3)]).length _
                    rw [hl, jc_append]
                    exact owns_mono h9 fun _ _ => Nat.zero_le _
                  · intro h; have := own_ge ho9 h; omega
                  · rintro k hk (rfl | h)
                    · exact hRF hk
                    · have h1 := own_ge ho9 h; have h2 := hFn k hk; omega
                  · exact (((hU3.non : Upd (fun k => F k ∨ G k) w w3).trans hk.upd fun _ _ h => .inl h).trans hu89 fun _ _ h => h.elim).trans huB fun j hj e => .inr (by rw [e]; exact hRh.out.gR)
                  · rintro k (hk' | rfl | h)
                    · rcases hk.own k hk' with h | h
                      · exact .inl (.inl h)
                      · have := hU3.size; exact .inr (by omega)
                    · exact .inl (.inr hRh.out.gR)
                    · have h1 := own_ge ho9 h; have h2 := hU3.size; have h3 := hk.upd.size; exact .inr (by omega)
                clear hrA hrB huB hu10 hHeld
                go_wp2_with fail
                exact hwB
end
end Go.Proofs.Ytmnoldikimcafaa
