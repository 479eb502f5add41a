/- Disk.Copy. -/
import Derived.Test.YtmnoldikimcafaaMBlM
import Derived.Test.YtmnoldikimcafaaMLib
import Derived.Lib.SliceRun
namespace Go.Proofs.Ytmnoldikimcafaa
open Go.RowKit Go.Amb Go.Shelf
set_option linter.unusedVariables false
set_option linter.unusedSimpArgs false
set_option maxRecDepth 100000
theorem info_sector3 : (Try.prog.info? 74).map (fun i => (i.zero, i.size, i.bytes)) = some (some (.agg (Array.replicate 128 (.int .u8 0))), 128, 128) := info_sector
theorem lCloneS (v : Value) (n : Nat) (xs : List Value) (w : World) (h : Has w 128 v n xs) (h1 : ∀ u ∈ xs, u.oneCell' = true) (hn : 1 ≤ n) (hm : n ≤ 1000000) :
    Calls Try.prog 38 #[v] w (fun en w' => ∃ v', en = .returned v' ∧ w'.ownsRow w.heap.size 74 128 v' n xs ∧ Upd Non w w' ∧ ∀ k, At v' k → w.heap.size ≤ k) := by
  obtain ⟨hl, a, c, rfl, hc1, hc2, h3⟩ := id h
  obtain ⟨g, off, rfl, -⟩ := h3.resolve_left (by omega)
  replace h := Lib.hid h
  replace h1 := Lib.hid h1
  have hsl : ∀ (w : World) a n c, (binOp .eql 45 (.slice a n c) (.slice none 0 0)).run Try.prog w = .ok (.bool a.isNone) w := fun w a n c => Lib.run_eql_slice_nil w _ 74 a n c 0 0 Try.underlying45
  clear h3
  go_enter Try.func38, Try.ntmps38
  go_wp2_with (at_builtin; go_must (refine wpList_app rfl _ _ 45 45 rfl w.heap.size 74 _ 128 128 Try.underlying45 info_sector3 (by simp [Value.cells]) _ 0 [] rfl (World.ownsRow_lit (size := 128) w #[] 0 (Nat.le_refl _) (Nat.zero_le _) rfl) _ n xs rfl (Src.ofHas Try.underlying45 (h.out.upd (Upd.alloc Non w _) fun _ _ h => h) h1.out) (by unfold maxLen; omega) (by omega) (by simp) ?_))
  intro v1 w1 ho1 hu1 hf1
  have hN : Upd Non w w1 := (Upd.alloc Non w _).trans hu1 fun j hj h => by simp [At, Value.ownBlock] at h; omega
  have hv : ∀ k, At v1 k → w.heap.size ≤ k := fun k hk => own_ge ho1 hk
  replace ho1 := Lib.hid ho1
  clear hu1 hf1
  go_wp2_with fail
  go_ret
  exact ⟨_, rfl, ho1.out, hN, hv⟩
theorem lCloneW (v : Value) (n : Nat) (xs : List Value) (w : World) (h0 : w.ownsRow 0 77 129 v n xs) (h1 : ∀ u ∈ xs, u.oneCell' = true) (hm : n ≤ 1000000) :
    Calls Try.prog 39 #[v] w (fun en w' => ∃ v', en = .returned v' ∧ w'.ownsRow w.heap.size 77 129 v' n xs ∧ Upd Non w w' ∧ ∀ k, At v' k → w.heap.size ≤ k) := by
  have h := has_of_owns h0
  have hsl : ∀ (w : World) a n c, (binOp .eql 46 (.slice a n c) (.slice none 0 0)).run Try.prog w = .ok (.bool a.isNone) w := fun w a n c => Lib.run_eql_slice_nil w _ 77 a n c 0 0 Try.underlying46
  rcases h0.2 with ⟨rfl, rfl⟩ | ⟨g, cap, cur, rfl, -⟩
  · have hx : xs = [] := List.eq_nil_of_length_eq_zero (by have := h0.1; omega)
    subst hx
    clear h h0
    go_enter Try.func39, Try.ntmps39
    go_wp2_with fail
    go_ret
    exact ⟨_, rfl, World.ownsRow_nil _ _ _ _, Upd.refl _ _, fun k hk => by simp [At, Value.ownBlock] at hk⟩
  · replace h := Lib.hid h
    replace h1 := Lib.hid h1
    clear h0
    go_enter Try.func39, Try.ntmps39
    go_wp2_with (at_builtin; go_must (refine wpList_app rfl _ _ 46 46 rfl w.heap.size 77 _ 129 136 Try.underlying46 info_write3 (by simp [Value.cells]) _ 0 [] rfl (World.ownsRow_lit (size := 129) w #[] 0 (Nat.le_refl _) (Nat.zero_le _) rfl) _ n xs rfl (Src.ofHas Try.underlying46 (h.out.upd (Upd.alloc Non w _) fun _ _ h => h) h1.out) (by unfold maxLen; omega) (by omega) (by simp) ?_))
    intro v1 w1 ho1 hu1 hf1
    have hN : Upd Non w w1 := (Upd.alloc Non w _).trans hu1 fun j hj h => by simp [At, Value.ownBlock] at h; omega
    have hv : ∀ k, At v1 k → w.heap.size ≤ k := fun k hk => own_ge ho1 hk
    replace ho1 := Lib.hid ho1
    clear hu1 hf1
    go_wp2_with fail
    go_ret
    exact ⟨_, rfl, ho1.out, hN, hv⟩
theorem rows_one {K : List (List UInt8)} : ∀ u ∈ (K.map bc).flatten, u.oneCell' = true := by
  intro u hu
  obtain ⟨r, hr, hu⟩ := List.mem_flatten.1 hu
  obtain ⟨s, hs, rfl⟩ := List.mem_map.1 hr
  exact bc_one s u hu
theorem writes_one {P : List (List UInt8 × Nat)} : ∀ u ∈ (P.map pc).flatten, u.oneCell' = true := by
  intro u hu
  obtain ⟨r, hr, hu⟩ := List.mem_flatten.1 hu
  obtain ⟨s, hs, rfl⟩ := List.mem_map.1 hr
  exact pc_one s u hu
set_option maxHeartbeats 4000000 in
theorem lCopy {w : World} {D : Nat} {F : Nat → Prop} {d : Dk} (h : DiskAt w D F d) (hn : d.P.length ≤ 1000000) : Calls Try.prog 19 #[.pointer (some ⟨D, 0, none⟩)] w (fun en w' => ∃ D' F', en = .returned (.pointer (some ⟨D', 0, none⟩)) ∧ DiskAt w' D' F' d ∧ Upd Non w w' ∧ ∀ k, F' k → w.heap.size ≤ k) := by
  have cM := lMade h
  obtain ⟨g, ck, pv, hX, hK, hP, e1, e2, e3, hF⟩ := h.ex
  have hok := Lib.hid h.ok
  have cS := Lib.hid (fun w' (hu : Upd Non w w') => lCloneS _ _ _ w' ((has_of_owns hK).non hu) rows_one h.ok.n1 (by have := h.ok.n2; omega))
  have cP := Lib.hid (fun w' (hu : Upd Non w w') => lCloneW _ _ _ w' (hu.owns hP fun _ _ h => h) writes_one hn)
  obtain ⟨_, pa, pcp, rfl, -⟩ := has_of_owns hP
  obtain ⟨K, PP, f, dd⟩ := d
  simp only at *
  obtain ⟨m, hm⟩ : ∃ m, K.length = m := ⟨_, rfl⟩
  obtain ⟨n, hnn⟩ : ∃ n, PP.length = n := ⟨_, rfl⟩
  rw [hm] at hX cS
  rw [hnn] at hX cP hn
  obtain ⟨kx, hkx⟩ : ∃ kx, (K.map bc).flatten = kx := ⟨_, rfl⟩
  obtain ⟨px, hpx⟩ : ∃ px, (PP.map pc).flatten = px := ⟨_, rfl⟩
  rw [hkx] at cS
  rw [hpx] at cP
  have hc := (cells_of hX).1
  have x0w : w.cell? ⟨D, 0, none⟩ = some (.slice (some ⟨g, 0, none⟩) m ck) := hc 0
  have x1w : w.cell? ⟨D, 1, none⟩ = some (.slice pa n pcp) := hc 1
  have x2w : w.cell? ⟨D, 2, none⟩ = some (.int .i64 f) := hc 2
  have x3w : w.cell? ⟨D, 3, none⟩ = some (.bool dd) := hc 3
  replace hkx := Lib.hid hkx
  replace hpx := Lib.hid hpx
  replace hm := Lib.hid hm
  replace hnn := Lib.hid hnn
  clear hc hX hK hP hF h e2 e3
  go_enter Try.func19, Try.ntmps19
  go_wp2_with fail
  refine cM.mono ?_
  rintro en w1 ⟨rfl, hU1⟩
  have x0 := hU1.cell x0w fun h => h
  have x1 := hU1.cell x1w fun h => h
  have x2 := hU1.cell x2w fun h => h
  have x3 := hU1.cell x3w fun h => h
  clear x0w x1w x2w x3w cM
  simp only []
  go_wp2_with fail
  have x0' := x0
  refine wp_region_held_drew (S := fun w' => w'.cell? ⟨D, 0, none⟩ = some (.slice (some ⟨g, 0, none⟩) m ck) ∧ w'.cell? ⟨D, 1, none⟩ = some (.slice pa n pcp) ∧ w'.cell? ⟨D, 2, none⟩ = some (.int .i64 f) ∧ w'.cell? ⟨D, 3, none⟩ = some (.bool dd)) (by kernel_rfl) (by exact ⟨(Upd.drew Non w1).cell x0 (fun h => h), (Upd.drew Non w1).cell x1 (fun h => h), (Upd.drew Non w1).cell x2 (fun h => h), (Upd.drew Non w1).cell x3 (fun h => h)⟩) (fun hHeld => ?_)
  (refine wpAnyH_take (i := 0) (oi := ?oi_c1) (v := ?v_c1) ?ho_c1 ?hs_c1 ?hf_c1 ?hr_c1 ?hQ_c1 ?hy_c1 ?hS_c1 ?rest_c1; (case hr_c1 => kernel_rfl); (case hf_c1 => kernel_rfl); (case hs_c1 => kernel_rfl); (case ho_c1 => (simp only [List.getElem?_toArray, List.getElem?_cons_succ, List.getElem?_cons_zero]; rfl)); (case hS_c1 => assumption); (case hQ_c1 => exact fun _ _ _ h => h); (case hy_c1 => (refine Or.inl ⟨by rfl, ?_⟩; (intro w hSw; obtain ⟨s0, s1, s2, s3⟩ := hSw; go_simp) <;> with_reducible rfl)); (try simp only [Act.put, List.setIfInBounds_toArray, List.set_cons_zero, List.set_cons_succ]))
  (refine wpAnyH_take (i := 1) (oi := ?oi_c2) (v := ?v_c2) ?ho_c2 ?hs_c2 ?hf_c2 ?hr_c2 ?hQ_c2 ?hy_c2 ?hS_c2 ?rest_c2; (case hr_c2 => kernel_rfl); (case hf_c2 => kernel_rfl); (case hs_c2 => kernel_rfl); (case ho_c2 => (simp only [List.getElem?_toArray, List.getElem?_cons_succ, List.getElem?_cons_zero]; rfl)); (case hS_c2 => assumption); (case hQ_c2 => exact fun _ _ _ h => h); (case hy_c2 => (refine Or.inl ⟨by rfl, ?_⟩; (intro w hSw; obtain ⟨s0, s1, s2, s3⟩ := hSw; go_simp) <;> with_reducible rfl)); (try simp only [Act.put, List.setIfInBounds_toArray, List.set_cons_zero, List.set_cons_succ]))
  (refine wpAnyH_take (i := 2) (oi := ?oi_c3) (v := ?v_c3) ?ho_c3 ?hs_c3 ?hf_c3 ?hr_c3 ?hQ_c3 ?hy_c3 ?hS_c3 ?rest_c3; (case hr_c3 => kernel_rfl); (case hf_c3 => kernel_rfl); (case hs_c3 => kernel_rfl); (case ho_c3 => (simp only [List.getElem?_toArray, List.getElem?_cons_succ, List.getElem?_cons_zero]; rfl)); (case hS_c3 => assumption); (case hQ_c3 => exact fun _ _ _ h => h); (case hy_c3 => (refine Or.inl ⟨by rfl, ?_⟩; (intro w hSw; obtain ⟨s0, s1, s2, s3⟩ := hSw; go_simp) <;> with_reducible rfl)); (try simp only [Act.put, List.setIfInBounds_toArray, List.set_cons_zero, List.set_cons_succ]))
  (refine wpAnyH_take (i := 3) (oi := ?oi_c4) (v := ?v_c4) ?ho_c4 ?hs_c4 ?hf_c4 ?hr_c4 ?hQ_c4 ?hy_c4 ?hS_c4 ?rest_c4; (case hr_c4 => kernel_rfl); (case hf_c4 => kernel_rfl); (case hs_c4 => kernel_rfl); (case ho_c4 => (simp only [List.getElem?_toArray, List.getElem?_cons_succ, List.getElem?_cons_zero]; rfl)); (case hS_c4 => assumption); (case hQ_c4 => exact fun _ _ _ h => h); (case hy_c4 => (refine Or.inl ⟨by rfl, ?_⟩; (intro w hSw; obtain ⟨s0, s1, s2, s3⟩ := hSw; go_simp) <;> with_reducible rfl)); (try simp only [Act.put, List.setIfInBounds_toArray, List.set_cons_zero, List.set_cons_succ]))
  (refine wpAnyH_take (i := 5) (oi := ?oi_c5) (v := ?v_c5) ?ho_c5 ?hs_c5 ?hf_c5 ?hr_c5 ?hQ_c5 ?hy_c5 ?hS_c5 ?rest_c5; (case hr_c5 => kernel_rfl); (case hf_c5 => kernel_rfl); (case hs_c5 => kernel_rfl); (case ho_c5 => (simp only [List.getElem?_toArray, List.getElem?_cons_succ, List.getElem?_cons_zero]; rfl)); (case hS_c5 => assumption); (case hQ_c5 => exact fun _ _ _ h => h); (case hy_c5 => (refine Or.inl ⟨by rfl, ?_⟩; (intro w hSw; obtain ⟨s0, s1, s2, s3⟩ := hSw; go_simp) <;> with_reducible rfl)); (try simp only [Act.put, List.setIfInBounds_toArray, List.set_cons_zero, List.set_cons_succ]))
  (refine wpAnyH_take (i := 6) (oi := ?oi_c6) (v := ?v_c6) ?ho_c6 ?hs_c6 ?hf_c6 ?hr_c6 ?hQ_c6 ?hy_c6 ?hS_c6 ?rest_c6; (case hr_c6 => kernel_rfl); (case hf_c6 => kernel_rfl); (case hs_c6 => kernel_rfl); (case ho_c6 => (simp only [List.getElem?_toArray, List.getElem?_cons_succ, List.getElem?_cons_zero]; rfl)); (case hS_c6 => assumption); (case hQ_c6 => exact fun _ _ _ h => h); (case hy_c6 => (refine Or.inl ⟨by rfl, ?_⟩; (intro w hSw; obtain ⟨s0, s1, s2, s3⟩ := hSw; go_simp) <;> with_reducible rfl)); (try simp only [Act.put, List.setIfInBounds_toArray, List.set_cons_zero, List.set_cons_succ]))
  (refine wpAnyH_take (i := 7) (oi := ?oi_c7) (v := ?v_c7) ?ho_c7 ?hs_c7 ?hf_c7 ?hr_c7 ?hQ_c7 ?hy_c7 ?hS_c7 ?rest_c7; (case hr_c7 => kernel_rfl); (case hf_c7 => kernel_rfl); (case hs_c7 => kernel_rfl); (case ho_c7 => (simp only [List.getElem?_toArray, List.getElem?_cons_succ, List.getElem?_cons_zero]; rfl)); (case hS_c7 => assumption); (case hQ_c7 => exact fun _ _ _ h => h); (case hy_c7 => (refine Or.inl ⟨by rfl, ?_⟩; (intro w hSw; obtain ⟨s0, s1, s2, s3⟩ := hSw; go_simp) <;> with_reducible rfl)); (try simp only [Act.put, List.setIfInBounds_toArray, List.set_cons_zero, List.set_cons_succ]))
  (refine wpAnyH_take (i := 8) (oi := ?oi_c8) (v := ?v_c8) ?ho_c8 ?hs_c8 ?hf_c8 ?hr_c8 ?hQ_c8 ?hy_c8 ?hS_c8 ?rest_c8; (case hr_c8 => kernel_rfl); (case hf_c8 => kernel_rfl); (case hs_c8 => kernel_rfl); (case ho_c8 => (simp only [List.getElem?_toArray, List.getElem?_cons_succ, List.getElem?_cons_zero]; rfl)); (case hS_c8 => assumption); (case hQ_c8 => exact fun _ _ _ h => h); (case hy_c8 => (refine Or.inl ⟨by rfl, ?_⟩; (intro w hSw; obtain ⟨s0, s1, s2, s3⟩ := hSw; go_simp) <;> with_reducible rfl)); (try simp only [Act.put, List.setIfInBounds_toArray, List.set_cons_zero, List.set_cons_succ]))
  (refine wpAnyH_take (i := 10) (oi := ?oi_c9) (v := ?v_c9) ?ho_c9 ?hs_c9 ?hf_c9 ?hr_c9 ?hQ_c9 ?hy_c9 ?hS_c9 ?rest_c9; (case hr_c9 => kernel_rfl); (case hf_c9 => kernel_rfl); (case hs_c9 => kernel_rfl); (case ho_c9 => (simp only [List.getElem?_toArray, List.getElem?_cons_succ, List.getElem?_cons_zero]; rfl)); (case hS_c9 => assumption); (case hQ_c9 => exact fun _ _ _ h => h); (case hy_c9 => (refine Or.inl ⟨by rfl, ?_⟩; (intro w hSw; obtain ⟨s0, s1, s2, s3⟩ := hSw; go_simp) <;> with_reducible rfl)); (try simp only [Act.put, List.setIfInBounds_toArray, List.set_cons_zero, List.set_cons_succ]))
  (refine wpAnyH_take (i := 11) (oi := ?oi_c10) (v := ?v_c10) ?ho_c10 ?hs_c10 ?hf_c10 ?hr_c10 ?hQ_c10 ?hy_c10 ?hS_c10 ?rest_c10; (case hr_c10 => kernel_rfl); (case hf_c10 => kernel_rfl); (case hs_c10 => kernel_rfl); (case ho_c10 => (simp only [List.getElem?_toArray, List.getElem?_cons_succ, List.getElem?_cons_zero]; rfl)); (case hS_c10 => assumption); (case hQ_c10 => exact fun _ _ _ h => h); (case hy_c10 => (refine Or.inl ⟨by rfl, ?_⟩; (intro w hSw; obtain ⟨s0, s1, s2, s3⟩ := hSw; go_simp) <;> with_reducible rfl)); (try simp only [Act.put, List.setIfInBounds_toArray, List.set_cons_zero, List.set_cons_succ]))
  (refine wpAnyH_take (i := 12) (oi := ?oi_c11) (v := ?v_c11) ?ho_c11 ?hs_c11 ?hf_c11 ?hr_c11 ?hQ_c11 ?hy_c11 ?hS_c11 ?rest_c11; (case hr_c11 => kernel_rfl); (case hf_c11 => kernel_rfl); (case hs_c11 => kernel_rfl); (case ho_c11 => (simp only [List.getElem?_toArray, List.getElem?_cons_succ, List.getElem?_cons_zero]; rfl)); (case hS_c11 => assumption); (case hQ_c11 => exact fun _ _ _ h => h); (case hy_c11 => (refine Or.inl ⟨by rfl, ?_⟩; (intro w hSw; obtain ⟨s0, s1, s2, s3⟩ := hSw; go_simp) <;> with_reducible rfl)); (try simp only [Act.put, List.setIfInBounds_toArray, List.set_cons_zero, List.set_cons_succ]))
  (refine wpAnyH_take (i := 13) (oi := ?oi_c12) (v := ?v_c12) ?ho_c12 ?hs_c12 ?hf_c12 ?hr_c12 ?hQ_c12 ?hy_c12 ?hS_c12 ?rest_c12; (case hr_c12 => kernel_rfl); (case hf_c12 => kernel_rfl); (case hs_c12 => kernel_rfl); (case ho_c12 => (simp only [List.getElem?_toArray, List.getElem?_cons_succ, List.getElem?_cons_zero]; rfl)); (case hS_c12 => assumption); (case hQ_c12 => exact fun _ _ _ h => h); (case hy_c12 => (refine Or.inl ⟨by rfl, ?_⟩; (intro w hSw; obtain ⟨s0, s1, s2, s3⟩ := hSw; go_simp) <;> with_reducible rfl)); (try simp only [Act.put, List.setIfInBounds_toArray, List.set_cons_zero, List.set_cons_succ]))
  (refine wpAnyH_take (i := 14) (oi := ?oi_c13) (v := ?v_c13) ?ho_c13 ?hs_c13 ?hf_c13 ?hr_c13 ?hQ_c13 ?hy_c13 ?hS_c13 ?rest_c13; (case hr_c13 => kernel_rfl); (case hf_c13 => kernel_rfl); (case hs_c13 => kernel_rfl); (case ho_c13 => (simp only [List.getElem?_toArray, List.getElem?_cons_succ, List.getElem?_cons_zero]; rfl)); (case hS_c13 => assumption); (case hQ_c13 => exact fun _ _ _ h => h); (case hy_c13 => (refine Or.inl ⟨by rfl, ?_⟩; (intro w hSw; obtain ⟨s0, s1, s2, s3⟩ := hSw; go_simp) <;> with_reducible rfl)); (try simp only [Act.put, List.setIfInBounds_toArray, List.set_cons_zero, List.set_cons_succ]))
  (refine wpAnyH_take (i := 15) (oi := ?oi_c14) (v := ?v_c14) ?ho_c14 ?hs_c14 ?hf_c14 ?hr_c14 ?hQ_c14 ?hy_c14 ?hS_c14 ?rest_c14; (case hr_c14 => kernel_rfl); (case hf_c14 => kernel_rfl); (case hs_c14 => kernel_rfl); (case ho_c14 => (simp only [List.getElem?_toArray, List.getElem?_cons_succ, List.getElem?_cons_zero]; rfl)); (case hS_c14 => assumption); (case hQ_c14 => exact fun _ _ _ h => h); (case hy_c14 => (refine Or.inl ⟨by rfl, ?_⟩; (intro w hSw; obtain ⟨s0, s1, s2, s3⟩ := hSw; go_simp) <;> with_reducible rfl)); (try simp only [Act.put, List.setIfInBounds_toArray, List.set_cons_zero, List.set_cons_succ]))
  (refine wpAnyH_take (i := 16) (oi := ?oi_c15) (v := ?v_c15) ?ho_c15 ?hs_c15 ?hf_c15 ?hr_c15 ?hQ_c15 ?hy_c15 ?hS_c15 ?rest_c15; (case hr_c15 => kernel_rfl); (case hf_c15 => kernel_rfl); (case hs_c15 => kernel_rfl); (case ho_c15 => (simp only [List.getElem?_toArray, List.getElem?_cons_succ, List.getElem?_cons_zero]; rfl)); (case hS_c15 => assumption); (case hQ_c15 => exact fun _ _ _ h => h); (case hy_c15 => (refine Or.inl ⟨by rfl, ?_⟩; (intro w hSw; obtain ⟨s0, s1, s2, s3⟩ := hSw; go_simp) <;> with_reducible rfl)); (try simp only [Act.put, List.setIfInBounds_toArray, List.set_cons_zero, List.set_cons_succ]))
  (refine wpAnyH_take (i := 17) (oi := ?oi_c16) (v := ?v_c16) ?ho_c16 ?hs_c16 ?hf_c16 ?hr_c16 ?hQ_c16 ?hy_c16 ?hS_c16 ?rest_c16; (case hr_c16 => kernel_rfl); (case hf_c16 => kernel_rfl); (case hs_c16 => kernel_rfl); (case ho_c16 => (simp only [List.getElem?_toArray, List.getElem?_cons_succ, List.getElem?_cons_zero]; rfl)); (case hS_c16 => assumption); (case hQ_c16 => exact fun _ _ _ h => h); (case hy_c16 => (refine Or.inl ⟨by rfl, ?_⟩; (intro w hSw; obtain ⟨s0, s1, s2, s3⟩ := hSw; go_simp) <;> with_reducible rfl)); (try simp only [Act.put, List.setIfInBounds_toArray, List.set_cons_zero, List.set_cons_succ]))
  refine wpAnyH_ready (rs := [4]) (by kernel_rfl) (by simp) ?_
  refine (AllReadyH.cons (o := ?ooc17_0) ?hoc17_0 ?hsc17_0 AllReadyH.nil)
  case hoc17_0 => (simp only [List.getElem?_toArray, List.getElem?_cons_succ, List.getElem?_cons_zero]; rfl)
  case hsc17_0 =>
    intro K hK
    go_simp
    go_at_call 38
    refine (cS.out _ (hU1.then_drew)).mono ?_
    rintro en w2 ⟨v2, rfl, ho2, hu2, hv2⟩
    obtain ⟨_, a2, c2, rfl, -⟩ := has_of_owns ho2
    try go_wp2_with fail
    have hN2 : Upd Non w1 w2 := (Upd.drew Non w1).trans hu2 fun _ _ h => h
    refine hK.out _ _ (by exact ⟨(hN2).cell x0 (fun h => h), (hN2).cell x1 (fun h => h), (hN2).cell x2 (fun h => h), (hN2).cell x3 (fun h => h)⟩) (fun hHeld => ?_)
    clear hK K
    try simp only [Act.put, List.setIfInBounds_toArray, List.set_cons_zero, List.set_cons_succ]
    refine wpAnyH_ready (rs := [9]) (by kernel_rfl) (by simp) ?_
    refine (AllReadyH.cons (o := ?ooc18_0) ?hoc18_0 ?hsc18_0 AllReadyH.nil)
    case hoc18_0 => (simp only [List.getElem?_toArray, List.getElem?_cons_succ, List.getElem?_cons_zero]; rfl)
    case hsc18_0 =>
      intro K hK
      go_simp
      go_at_call 39
      refine (cP.out _ (hU1.trans hN2 fun _ _ h => h)).mono ?_
      rintro en w3 ⟨v3, rfl, ho3, hu3, hv3⟩
      obtain ⟨_, a3, c3, rfl, -⟩ := has_of_owns ho3
      try go_wp2_with fail
      have hN3 : Upd Non w1 w3 := hN2.trans hu3 fun _ _ h => h
      refine hK.out _ _ (by exact ⟨(hN3).cell x0 (fun h => h), (hN3).cell x1 (fun h => h), (hN3).cell x2 (fun h => h), (hN3).cell x3 (fun h => h)⟩) (fun hHeld => ?_)
      clear hK K
      try simp only [Act.put, List.setIfInBounds_toArray, List.set_cons_zero, List.set_cons_succ]
      refine wpAnyH_ready (rs := [18]) (by kernel_rfl) (by simp) ?_
      refine (AllReadyH.cons (o := ?ooc19_0) ?hoc19_0 ?hsc19_0 AllReadyH.nil)
      case hoc19_0 => (simp only [List.getElem?_toArray, List.getElem?_cons_succ, List.getElem?_cons_zero]; rfl)
      case hsc19_0 =>
        intro K hK
        go_simp
        try go_wp2_with fail
        refine hK.out _ _ (by exact ⟨(hN3).cell x0 (fun h => h), (hN3).cell x1 (fun h => h), (hN3).cell x2 (fun h => h), (hN3).cell x3 (fun h => h)⟩) (fun hHeld => ?_)
        clear hK K
        try simp only [Act.put, List.setIfInBounds_toArray, List.set_cons_zero, List.set_cons_succ]
        refine wpAnyH_ready (rs := [19]) (by kernel_rfl) (by simp) ?_
        refine (AllReadyH.cons (o := ?ooc20_0) ?hoc20_0 ?hsc20_0 AllReadyH.nil)
        case hoc20_0 => (simp only [List.getElem?_toArray, List.getElem?_cons_succ, List.getElem?_cons_zero]; rfl)
        case hsc20_0 =>
          intro K hK
          go_simp
          try go_wp2_with fail
          refine hK.out _ _ (by exact ⟨(hN3.then_alloc _).cell x0 (fun h => h), (hN3.then_alloc _).cell x1 (fun h => h), (hN3.then_alloc _).cell x2 (fun h => h), (hN3.then_alloc _).cell x3 (fun h => h)⟩) (fun hHeld => ?_)
          clear hK K
          try simp only [Act.put, List.setIfInBounds_toArray, List.set_cons_zero, List.set_cons_succ]
          refine wpAnyH_ready (rs := [20]) (by kernel_rfl) (by simp) ?_
          refine (AllReadyH.cons (o := ?ooc21_0) ?hoc21_0 ?hsc21_0 AllReadyH.nil)
          case hoc21_0 => (simp only [List.getElem?_toArray, List.getElem?_cons_succ, List.getElem?_cons_zero]; rfl)
          case hsc21_0 =>
            intro K hK
            go_simp
            try go_wp2_with fail
            refine hK.out _ _ (by exact ⟨(hN3.then_alloc _).cell x0 (fun h => h), (hN3.then_alloc _).cell x1 (fun h => h), (hN3.then_alloc _).cell x2 (fun h => h), (hN3.then_alloc _).cell x3 (fun h => h)⟩) (fun hHeld => ?_)
            clear hK K
            try simp only [Act.put, List.setIfInBounds_toArray, List.set_cons_zero, List.set_cons_succ]
            refine wpAnyH_done (by kernel_rfl) ?_ _
            clear hHeld
            replace hN3' := hN3
            go_wp2_with fail
            go_ret
            have hal : Upd Non w3 (w3.alloc (.cells #[.slice a2 m c2, .slice a3 n c3, .int .i64 f, .bool dd] 48)) := Upd.alloc _ _ _
            have hm1 : 1 ≤ m := by have := hok.out.n1; have := hm.out; simp only at *; omega
            obtain ⟨g2, hg2⟩ : ∃ g2, a2 = some ⟨g2, 0, none⟩ := by
              rcases ho2.2 with ⟨h1, h2⟩ | ⟨g', cap', cur', h1, -⟩
              · omega
              · injection h1 with h1; exact ⟨g', h1⟩
            subst hg2
            have b1 := own_lt ho2 (k := g2) rfl
            have b2 := hv2 g2 rfl
            have b3 := hU1.size
            have b4 := hu3.size
            have b5 := hu2.size
            have b6 : w1.drew.heap.size = w1.heap.size := rfl
            refine ⟨w3.heap.size, fun k => k = w3.heap.size ∨ k = g2 ∨ At (.slice a3 n c3) k, rfl, ⟨hok.out, g2, c2, .slice a3 n c3, ?_, ?_, ?_, by omega, fun hat => ?_, fun hat => ?_, fun k => Iff.rfl⟩, (hU1.trans hN3 fun _ _ h => h).trans hal fun _ _ h => h, fun k hk => ?_⟩
            · simp only [hm.out]; exact heap_alloc_new w3 _
            · simp only [hm.out, hkx.out]; exact owns_mono (hal.owns (hu3.owns ho2 fun _ _ h => h) fun _ _ h => h) fun k _ => Nat.zero_le _
            · simp only [hnn.out, hpx.out]; exact owns_mono (hal.owns ho3 fun _ _ h => h) fun k _ => Nat.zero_le _
            · have := own_lt ho3 hat; omega
            · have := hv3 g2 hat; omega
            · rcases hk with rfl | rfl | hk
              · omega
              · omega
              · have := hv3 k hk; omega
end Go.Proofs.Ytmnoldikimcafaa
