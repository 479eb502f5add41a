/- The walk over layout.Parse: an object (printed by gen/mkparse.py). -/
import Derived.Test.YtaflpabpkpfifaaDoorMLyI0
namespace Go.Proofs.YtaflpabpkpfifaaDoor
set_option maxRecDepth 100000
open Go.RowKit Go.Amb
set_option linter.unusedVariables false
attribute [local go_sem ↓] Go.wp_at_zero Go.wp_at_succ

set_option maxHeartbeats 4000000 in
theorem yParseC (s : Str) (w : World) (p q : Part) (r : List Part) (c : UInt8) (u : Part) (hd : decR s = (p :: q :: (u :: r), 0)) (hpc : p.s = [c]) (hk1 : ¬ kindOf [c] = 1) : Calls Tryd.prog 14 #[txtV s] w (KeyRet (parseR s).1 (parseR s).2 w) := by
  have hdec := tDecode s
  have hi3 := Lib.hid info_int21
  have hok := dec_ok s
  have hfew := dec_few s
  have hno := @parseR_no s
  rw [hd] at hdec hok hno hfew
  simp only at hdec hok hno hfew
  have hyes : keyR (kyOf (p :: q :: (u :: r))) = (s, 0) → parseR s = (kyOf (p :: q :: (u :: r)), 0) := fun h3 => by unfold parseR; rw [hd]; rw [if_pos ⟨rfl, by simp, h3⟩]
  clear hd
  generalize parseR s = pr at *
  replace hdec := Lib.hid hdec
  unfold txtV
  have hix : Hid (∀ w, Calls Tryd.prog 41 #[.string ⟨#[98, 111, 99, 117, 112, 113]⟩, .string ⟨#[c]⟩] w (Ret (.int .i64 (kindOf [c] - 1)) w)) := Lib.hid (fun w => by
    have := lIndex lettersL c w
    rw [show Lib.indexByte lettersL c = kindOf [c] - 1 by rw [← kind_ix]; omega] at this
    exact this)
  have hkd := kind_bounds [c]
  have hwr : IntKind.i64.wrap (kindOf [c]) = kindOf [c] := IntWalk.i64_in _ ⟨by omega, by omega⟩
  replace hno : keyR (kyOf (p :: q :: (u :: r))) ≠ (s, 0) → pr = (Ky.none, 4) := fun h => hno fun e => h e.2.2
  have hok2 : ∀ x ∈ (p :: q :: (u :: r)), i64Ok x.n ∧ x.s.length ≤ 128 := fun x hx => hok x hx
  clear hok
  have hkk : kyOf (p :: q :: (u :: r)) = kyFrom (kindOf [c]) q.s (u :: r) := by rw [kyOf_cons, hpc]
  rw [hkk] at hyes hno
  have hkf : kyFrom (kindOf [c]) q.s (u :: r) = ⟨kindOf [c], q.s, u.s, r.map (·.n)⟩ := by unfold kyFrom; rw [if_neg hk1]
  rw [hkf] at hyes hno
  clear hkf
  replace hyes := Lib.hid hyes
  replace hno := Lib.hid hno
  replace hok2 := Lib.hid hok2
  clear hkk
  replace hfew : (u :: r).length + 2 ≤ 128 := hfew
  replace hfew := Lib.hid hfew
  generalize kindOf [c] = kd at *
  replace hk1 := Lib.hid hk1
  go_enter Tryd.func14, Tryd.ntmps14
  go_wp2_with fail
  refine (hdec.out _).mono ?_
  rintro e1 w1 ⟨v, rfl, hP, hX, hown⟩
  obtain ⟨a, cc, rfl, hlc, hcm, hcell⟩ := parts_at hP
  replace hcell := Lib.hid hcell
  unfold maxLen at hcm
  obtain ⟨g, off, ea, c0, c1, c2⟩ := hcell.out 0 (by simp)
  subst ea
  have hcl : ∀ k (hk : k < (p :: q :: (u :: r)).length), w1.cell? ⟨g, off + k * 3, none⟩ = some (.int .i64 (p :: q :: (u :: r))[k].k) ∧ w1.cell? ⟨g, off + k * 3 + 1, none⟩ = some (.int .i64 (p :: q :: (u :: r))[k].n) ∧ w1.cell? ⟨g, off + k * 3 + 2, none⟩ = some (.string ⟨(p :: q :: (u :: r))[k].s.toArray⟩) := fun k hk => by
    obtain ⟨g', off', e, h0, h1, h2⟩ := hcell.out k hk
    simp only [Option.some.injEq, Addr.mk.injEq] at e
    obtain ⟨rfl, rfl, _⟩ := e
    exact ⟨h0, h1, h2⟩
  clear hcell c0 c1 c2
  have y0 : w1.cell? ⟨g, off + 2, none⟩ = some (.string ⟨#[c]⟩) := by
    have := (hcl 0 (by simp)).2.2
    simp only [List.getElem_cons_zero, hpc] at this
    exact this
  have y1 : w1.cell? ⟨g, off + 5, none⟩ = some (.string ⟨q.s.toArray⟩) := (hcl 1 (by simp)).2.2
  have hgl : g < w1.heap.size := (hown g rfl).2
  have hcr : Hid (∀ k (hk : k < (u :: r).length), w1.cell? ⟨g, off + 6 + k * 3, none⟩ = some (.int .i64 (u :: r)[k].k) ∧ w1.cell? ⟨g, off + 6 + k * 3 + 1, none⟩ = some (.int .i64 (u :: r)[k].n) ∧ w1.cell? ⟨g, off + 6 + k * 3 + 2, none⟩ = some (.string ⟨(u :: r)[k].s.toArray⟩)) := Lib.hid (fun k hk => by
    have := hcl (k + 2) (by simp; omega)
    rw [show off + (k + 2) * 3 = off + 6 + k * 3 by omega] at this
    exact this)
  clear hcl hown hP
  have y2 : w1.cell? ⟨g, off + 8, none⟩ = some (.string ⟨u.s.toArray⟩) := (hcr.out 0 (by simp)).2.2
  have hcq : Hid (∀ k (hk : k < r.length), w1.cell? ⟨g, off + 9 + k * 3, none⟩ = some (.int .i64 r[k].k) ∧ w1.cell? ⟨g, off + 9 + k * 3 + 1, none⟩ = some (.int .i64 r[k].n) ∧ w1.cell? ⟨g, off + 9 + k * 3 + 2, none⟩ = some (.string ⟨r[k].s.toArray⟩)) := Lib.hid (fun k hk => by
    have := hcr.out (k + 1) (by simp; omega)
    rw [show off + 6 + (k + 1) * 3 = off + 9 + k * 3 by omega] at this
    exact this)
  clear hcr
  have hlen : (p :: q :: (u :: r)).length = (u :: r).length + 2 := rfl
  have hsl := slice_parts g off (u :: r).length cc 2 2 rfl (by omega)
  rw [← hlen] at hsl
  obtain ⟨A2, hs2, hA2'⟩ := hsl
  have hA2 : 0 < (u :: r).length → A2 = some ⟨g, off + 6, none⟩ := hA2'
  clear hA2'
  obtain rfl := hA2 (by simp)
  clear hA2
  have hm : (u :: r).length = r.length + 1 := rfl
  have hsl2 := slice_parts g (off + 6) r.length (cc - 2) 1 1 rfl (by omega)
  rw [← hm] at hsl2
  obtain ⟨A3, hs3, hA3⟩ := hsl2
  generalize cc - 2 - 1 = c3 at hs3
  have hA3 : 0 < r.length → A3 = some ⟨g, off + 9, none⟩ := hA3
  generalize (u :: r).length = m at *
  have hm0 : 0 < m := by omega
  have hm1 : (0 : Int) < (m : Int) := by omega
  replace hm := Lib.hid hm
  generalize (p :: q :: (u :: r)).length = n at *
  have hn1 : (1 : Int) < (n : Int) := by omega
  have hn2 : ¬ (n : Int) < 2 := by omega
  replace hlen := Lib.hid hlen
  go_wp2_with fail
  refine wp_region_held_drew (S := (fun w' => w'.cell? ⟨g, off + 2, none⟩ = some (.string ⟨#[c]⟩) ∧ w'.cell? ⟨g, off + 5, none⟩ = some (.string ⟨q.s.toArray⟩) ∧ Upd Non w1 w')) (by kernel_rfl) (by exact ⟨y0, y1, Upd.drew _ _⟩) (fun hHeld => ?_)
  (refine wpAnyH_take (i := 0) (oi := ?oi_a1) (v := ?v_a1) ?ho_a1 ?hs_a1 ?hf_a1 ?hr_a1 ?hQ_a1 ?hy_a1 ?hS_a1 ?rest_a1; (case hr_a1 => kernel_rfl); (case hf_a1 => kernel_rfl); (case hs_a1 => kernel_rfl); (case ho_a1 => (simp only [List.getElem?_toArray, List.getElem?_cons_succ, List.getElem?_cons_zero]; rfl)); (case hS_a1 => assumption); (case hQ_a1 => exact fun _ _ _ h => h); (case hy_a1 => (refine Or.inl ⟨by rfl, ?_⟩; (intro w hSw; obtain ⟨x0, x1, xu⟩ := hSw; go_simp) <;> with_reducible rfl)); (try simp only [Act.put, List.setIfInBounds_toArray, List.set_cons_zero, List.set_cons_succ]))
  (refine wpAnyH_take (i := 1) (oi := ?oi_a2) (v := ?v_a2) ?ho_a2 ?hs_a2 ?hf_a2 ?hr_a2 ?hQ_a2 ?hy_a2 ?hS_a2 ?rest_a2; (case hr_a2 => kernel_rfl); (case hf_a2 => kernel_rfl); (case hs_a2 => kernel_rfl); (case ho_a2 => (simp only [List.getElem?_toArray, List.getElem?_cons_succ, List.getElem?_cons_zero]; rfl)); (case hS_a2 => assumption); (case hQ_a2 => exact fun _ _ _ h => h); (case hy_a2 => (refine Or.inl ⟨by rfl, ?_⟩; (intro w hSw; obtain ⟨x0, x1, xu⟩ := hSw; go_simp) <;> with_reducible rfl)); (try simp only [Act.put, List.setIfInBounds_toArray, List.set_cons_zero, List.set_cons_succ]))
  (refine wpAnyH_take (i := 2) (oi := ?oi_a3) (v := ?v_a3) ?ho_a3 ?hs_a3 ?hf_a3 ?hr_a3 ?hQ_a3 ?hy_a3 ?hS_a3 ?rest_a3; (case hr_a3 => kernel_rfl); (case hf_a3 => kernel_rfl); (case hs_a3 => kernel_rfl); (case ho_a3 => (simp only [List.getElem?_toArray, List.getElem?_cons_succ, List.getElem?_cons_zero]; rfl)); (case hS_a3 => assumption); (case hQ_a3 => exact fun _ _ _ h => h); (case hy_a3 => (refine Or.inl ⟨by rfl, ?_⟩; (intro w hSw; obtain ⟨x0, x1, xu⟩ := hSw; go_simp) <;> with_reducible rfl)); (try simp only [Act.put, List.setIfInBounds_toArray, List.set_cons_zero, List.set_cons_succ]))
  (refine wpAnyH_take (i := 3) (oi := ?oi_a4) (v := ?v_a4) ?ho_a4 ?hs_a4 ?hf_a4 ?hr_a4 ?hQ_a4 ?hy_a4 ?hS_a4 ?rest_a4; (case hr_a4 => kernel_rfl); (case hf_a4 => kernel_rfl); (case hs_a4 => kernel_rfl); (case ho_a4 => (simp only [List.getElem?_toArray, List.getElem?_cons_succ, List.getElem?_cons_zero]; rfl)); (case hS_a4 => assumption); (case hQ_a4 => exact fun _ _ _ h => h); (case hy_a4 => (refine Or.inl ⟨by rfl, ?_⟩; (intro w hSw; obtain ⟨x0, x1, xu⟩ := hSw; go_simp) <;> with_reducible rfl)); (try simp only [Act.put, List.setIfInBounds_toArray, List.set_cons_zero, List.set_cons_succ]))
  (refine wpAnyH_take (i := 6) (oi := ?oi_a5) (v := ?v_a5) ?ho_a5 ?hs_a5 ?hf_a5 ?hr_a5 ?hQ_a5 ?hy_a5 ?hS_a5 ?rest_a5; (case hr_a5 => kernel_rfl); (case hf_a5 => kernel_rfl); (case hs_a5 => kernel_rfl); (case ho_a5 => (simp only [List.getElem?_toArray, List.getElem?_cons_succ, List.getElem?_cons_zero]; rfl)); (case hS_a5 => assumption); (case hQ_a5 => exact fun _ _ _ h => h); (case hy_a5 => (refine Or.inl ⟨by rfl, ?_⟩; (intro w hSw; obtain ⟨x0, x1, xu⟩ := hSw; go_simp) <;> with_reducible rfl)); (try simp only [Act.put, List.setIfInBounds_toArray, List.set_cons_zero, List.set_cons_succ]))
  (refine wpAnyH_take (i := 7) (oi := ?oi_a6) (v := ?v_a6) ?ho_a6 ?hs_a6 ?hf_a6 ?hr_a6 ?hQ_a6 ?hy_a6 ?hS_a6 ?rest_a6; (case hr_a6 => kernel_rfl); (case hf_a6 => kernel_rfl); (case hs_a6 => kernel_rfl); (case ho_a6 => (simp only [List.getElem?_toArray, List.getElem?_cons_succ, List.getElem?_cons_zero]; rfl)); (case hS_a6 => assumption); (case hQ_a6 => exact fun _ _ _ h => h); (case hy_a6 => (refine Or.inl ⟨by rfl, ?_⟩; (intro w hSw; obtain ⟨x0, x1, xu⟩ := hSw; go_simp) <;> with_reducible rfl)); (try simp only [Act.put, List.setIfInBounds_toArray, List.set_cons_zero, List.set_cons_succ]))
  (refine wpAnyH_take (i := 8) (oi := ?oi_a7) (v := ?v_a7) ?ho_a7 ?hs_a7 ?hf_a7 ?hr_a7 ?hQ_a7 ?hy_a7 ?hS_a7 ?rest_a7; (case hr_a7 => kernel_rfl); (case hf_a7 => kernel_rfl); (case hs_a7 => kernel_rfl); (case ho_a7 => (simp only [List.getElem?_toArray, List.getElem?_cons_succ, List.getElem?_cons_zero]; rfl)); (case hS_a7 => assumption); (case hQ_a7 => exact fun _ _ _ h => h); (case hy_a7 => (refine Or.inl ⟨by rfl, ?_⟩; (intro w hSw; obtain ⟨x0, x1, xu⟩ := hSw; go_simp) <;> with_reducible rfl)); (try simp only [Act.put, List.setIfInBounds_toArray, List.set_cons_zero, List.set_cons_succ]))
  (refine wpAnyH_take (i := 9) (oi := ?oi_a8) (v := ?v_a8) ?ho_a8 ?hs_a8 ?hf_a8 ?hr_a8 ?hQ_a8 ?hy_a8 ?hS_a8 ?rest_a8; (case hr_a8 => kernel_rfl); (case hf_a8 => kernel_rfl); (case hs_a8 => kernel_rfl); (case ho_a8 => (simp only [List.getElem?_toArray, List.getElem?_cons_succ, List.getElem?_cons_zero]; rfl)); (case hS_a8 => assumption); (case hQ_a8 => exact fun _ _ _ h => h); (case hy_a8 => (refine Or.inl ⟨by rfl, ?_⟩; (intro w hSw; obtain ⟨x0, x1, xu⟩ := hSw; go_simp) <;> with_reducible rfl)); (try simp only [Act.put, List.setIfInBounds_toArray, List.set_cons_zero, List.set_cons_succ]))
  refine wpAnyH_ready (rs := [4, 11]) (by kernel_rfl) (by simp) ?_
  refine (AllReadyH.cons (o := ?ooa9_0) ?hoa9_0 ?hsa9_0 (AllReadyH.cons (o := ?ooa9_1) ?hoa9_1 ?hsa9_1 AllReadyH.nil))
  case hoa9_0 => (simp only [List.getElem?_toArray, List.getElem?_cons_succ, List.getElem?_cons_zero]; rfl)
  case hoa9_1 => (simp only [List.getElem?_toArray, List.getElem?_cons_succ, List.getElem?_cons_zero]; rfl)
  case hsa9_0 =>
    intro K hK
    go_simp
    refine (hix.out _).mono ?_
    rintro e2 w2 ⟨rfl, hu2⟩
    have U2 := (Upd.drew Non w1).trans hu2 fun _ _ h => h
    try go_wp2_with fail
    refine hK.out _ _ (by exact ⟨U2.cell y0 (fun h => h), U2.cell y1 (fun h => h), U2⟩) (fun hHeld => ?_)
    clear hK K
    try simp only [Act.put, List.setIfInBounds_toArray, List.set_cons_zero, List.set_cons_succ]
    (refine wpAnyH_take (i := 5) (oi := ?oi_a10) (v := ?v_a10) ?ho_a10 ?hs_a10 ?hf_a10 ?hr_a10 ?hQ_a10 ?hy_a10 ?hS_a10 ?rest_a10; (case hr_a10 => kernel_rfl); (case hf_a10 => kernel_rfl); (case hs_a10 => kernel_rfl); (case ho_a10 => (simp only [List.getElem?_toArray, List.getElem?_cons_succ, List.getElem?_cons_zero]; rfl)); (case hS_a10 => assumption); (case hQ_a10 => exact fun _ _ _ h => h); (case hy_a10 => (refine Or.inl ⟨by rfl, ?_⟩; (intro w hSw; obtain ⟨x0, x1, xu⟩ := hSw; go_simp) <;> with_reducible rfl)); (try simp only [Act.put, List.setIfInBounds_toArray, List.set_cons_zero, List.set_cons_succ]))
    (refine wpAnyH_take (i := 10) (oi := ?oi_a11) (v := ?v_a11) ?ho_a11 ?hs_a11 ?hf_a11 ?hr_a11 ?hQ_a11 ?hy_a11 ?hS_a11 ?rest_a11; (case hr_a11 => kernel_rfl); (case hf_a11 => kernel_rfl); (case hs_a11 => kernel_rfl); (case ho_a11 => (simp only [List.getElem?_toArray, List.getElem?_cons_succ, List.getElem?_cons_zero]; rfl)); (case hS_a11 => assumption); (case hQ_a11 => exact fun _ _ _ h => h); (case hy_a11 => (refine Or.inl ⟨by rfl, ?_⟩; (intro w hSw; obtain ⟨x0, x1, xu⟩ := hSw; go_simp) <;> with_reducible rfl)); (try simp only [Act.put, List.setIfInBounds_toArray, List.set_cons_zero, List.set_cons_succ]))
    refine wpAnyH_ready (rs := [11]) (by kernel_rfl) (by simp) ?_
    refine (AllReadyH.cons (o := ?ooa12_0) ?hoa12_0 ?hsa12_0 AllReadyH.nil)
    case hoa12_0 => (simp only [List.getElem?_toArray, List.getElem?_cons_succ, List.getElem?_cons_zero]; rfl)
    case hsa12_0 =>
      intro K hK
      go_simp
      try go_wp2_with fail
      refine hK.out _ _ (by exact ⟨(U2.then_alloc _).cell y0 (fun h => h), (U2.then_alloc _).cell y1 (fun h => h), U2.then_alloc _⟩) (fun hHeld => ?_)
      clear hK K
      try simp only [Act.put, List.setIfInBounds_toArray, List.set_cons_zero, List.set_cons_succ]
      have hb2 := heap_alloc_new w2 (.cells #[.int .i64 0, .string ⟨#[]⟩, .string ⟨#[]⟩, .slice none 0 0] 25)
      have hg2 : w1.heap.size ≤ w2.heap.size := U2.size
      have U3 := U2.then_alloc (.cells #[.int .i64 0, .string ⟨#[]⟩, .string ⟨#[]⟩, .slice none 0 0] 25)
      refine wpAnyH_ready (rs := [12]) (by kernel_rfl) (by simp) ?_
      refine (AllReadyH.cons (o := ?ooa13_0) ?hoa13_0 ?hsa13_0 AllReadyH.nil)
      case hoa13_0 => (simp only [List.getElem?_toArray, List.getElem?_cons_succ, List.getElem?_cons_zero]; rfl)
      case hsa13_0 =>
        intro K hK
        refine storeB_step rfl 25 _ _ rfl (w2.heap.size) #[.int .i64 kd, .string ⟨q.s.toArray⟩, .string ⟨#[]⟩, .slice none 0 0] _ _ rfl rfl hb2 rfl size_key.out (by simp [Value.oneCell']) ?_
        intro w3 hb3 hu3
        have U4 := U3.trans hu3 fun j hj e => by (have : j = w2.heap.size := e); omega
        refine hK.out _ _ (by exact ⟨U4.cell y0 (fun h => h), U4.cell y1 (fun h => h), U4⟩) (fun hHeld => ?_)
        clear hK K
        try simp only [Act.put, List.setIfInBounds_toArray, List.set_cons_zero, List.set_cons_succ]
        refine wpAnyH_done (by kernel_rfl) ?_ _
        generalize hgk : w2.heap.size = gk at *
        clear hHeld hu3 hb2 U3
        clear y0 y1
        have hX3 := hX.trans U4 fun _ _ h => h
        obtain ⟨z0, z1, z2, z3⟩ := cells4 hb3
        have hUn : Upd Non w1 w3 := U4
        replace hwr := Lib.hid hwr
        have hg3 : w1.heap.size ≤ gk := by omega
        replace hgk := Lib.hid hgk
        have hkb : (kd != 1) = true := by simp [hk1.out]
        have y2 := U4.cell y2 fun h => h
        have hbS := set_blk (j := 2) hb3 (.string ⟨u.s.toArray⟩)
        have hUS : Upd Non w1 (w3.setCell ⟨gk, 2, none⟩ (.string ⟨u.s.toArray⟩)) := hUn.then_setCell (fun h => absurd h (by show ¬ gk < w1.heap.size; omega)) _
        have zf := (cells_of hb3).2 2
        go_wp2_with fail
        clear hb3 hUn zf
        obtain ⟨hb3, hUn⟩ := And.intro hbS hUS
        clear hbS hUS
        go_loopw [62] (fun i wr => ∃ (j : Nat) (nv : Value), j ≤ r.length ∧ i = .int .i64 j ∧ wr.heap[gk]? = some (.cells #[.int .i64 kd, .string ⟨q.s.toArray⟩, .string ⟨u.s.toArray⟩, nv] 25 (0, 0)) ∧ OwnI wr w1.heap.size nv ((r.map (·.n)).take j) ∧ Upd Non w1 wr) (fun i _ => r.length - (intOf i).toNat)
        case atStart => exact ⟨0, .slice none 0 0, by omega, rfl, hb3, World.ownsRow_nil _ _ _ _, hUn⟩
        case round =>
          clear z0 z1 z2 z3 hb3 hUn hX3 U4
          obtain ⟨j, nv, hj, rfl, hb3, ho, hU⟩ := hrel
          have hze : wr.cell? ⟨gk, 3, none⟩ = some nv := (cells_of hb3).1 3
          by_cases hlt : j < r.length
          · obtain rfl := hA3 (by omega)
            obtain ⟨d0, d1, d2⟩ := hcq.out j hlt
            replace d0 := hU.cell d0 fun h => h
            replace d1 := hU.cell d1 fun h => h
            replace d2 := hU.cell d2 fun h => h
            have ht := Lib.hid (take_n r j hlt)
            generalize r[j] = u at *
            obtain ⟨uk, un, us⟩ := u
            simp only at d0 d1 d2
            have hbx := (Upd.alloc Non wr (.cells #[.int .i64 uk, .int .i64 un, .string ⟨us.toArray⟩] 81)).heap hb3 fun h => h
            have e3 := (cells_of hbx).1 3
            have hsz := hU.size
            have hl := hfew.out
            have hl2 : r.length + 1 ≤ 126 := by have := hm.out; omega
            have hcc : ((r.map (·.n)).take j).length = j := by rw [List.length_take, List.length_map]; omega
            have hcm2 : j < 200 := by omega
            go_wp2_with (at_builtin; go_must (refine wpList_app1n rfl _ _ 23 rfl w1.heap.size 3 (.int .i64 0) 1 8 Tryd.underlying23 hi3.out rfl _ _ _ rfl (ho.alloc _) [.int .i64 un] (wr.heap.size + 1) rfl (by simp) rfl (ics_one [un]) (by unfold maxLen; omega) (by omega) (by simp; omega) ?_))
            intro v3 w3 ho3 hu3 hf3
            obtain ⟨vn, va, vc, rfl⟩ : ∃ n a c, v3 = .slice a n c := by obtain ⟨_, a, c, e, _⟩ := has_of_owns ho3; exact ⟨_, a, c, e⟩
            have hnt := own_not (ho.alloc (.cells #[.int .i64 uk, .int .i64 un, .string ⟨us.toArray⟩] 81)) hbx (by decide)
            have hby := hu3.heap hbx hnt
            have ho4 := own_ints ho3 (by omega)
            have hU3 : Upd Non w1 w3 := (hU.then_alloc _).trans hu3 fun k hk h => by have := own_ge ho h; omega
            have hn3 := own_not ho4 hby (by decide)
            obtain ⟨x0, x3⟩ : (∀ i, w3.cell? ⟨gk, i, none⟩ = _) ∧ ∀ i, w3.frozen? ⟨gk, i, none⟩ = false := cells_of hby
            have x1 := x0 3
            have x2 := x3 3
            clear x0 x3
            clear hze e3 hbx
            go_wp2_with fail
            go_roundw
            case rel => exact ⟨j + 1, _, by omega, by go_num, set_blk hby _, by rw [ht.out]; exact (Upd.setCell (S := fun k => k = gk) w3 rfl _).owns ho4 (fun k hk e => hn3 (e ▸ hk)), hU3.then_setCell (fun h => absurd h (by show ¬ gk < w1.heap.size; omega)) _⟩
            case measure => simp [intOf]; omega
          · obtain rfl : j = r.length := by omega
            rw [List.take_of_length_le (by simp)] at ho
            have hI : Ints wr nv (r.map (·.n)) := has_of_owns ho
            obtain ⟨na, nc, rfl⟩ : ∃ a c, nv = .slice a (r.map (·.n)).length c := by obtain ⟨_, a, c, e, _⟩ := hI; exact ⟨a, c, e⟩
            have hK := yKey ⟨kd, q.s, u.s, r.map (·.n)⟩ _ wr hI (fun n hn => by obtain ⟨u, hu, rfl⟩ := List.mem_map.1 hn; exact (hok2.out u (by first | exact List.mem_cons_of_mem _ (List.mem_cons_of_mem _ hu) | exact List.mem_cons_of_mem _ (List.mem_cons_of_mem _ (List.mem_cons_of_mem _ hu)))).1) (by have := (hok2.out q (by simp)).2; show q.s.length ≤ _; omega) (by (have := (hok2.out u (by simp)).2; show u.s.length ≤ _; omega))
            obtain ⟨⟨t, ke⟩, hkr⟩ : ∃ z, keyR ⟨kd, q.s, u.s, r.map (·.n)⟩ = z := ⟨_, rfl⟩
            rw [hkr] at hK hyes hno
            unfold kyV txtV at hK
            simp only at hK
            replace hK := Lib.hid hK
            replace hkr := Lib.hid hkr
            generalize hnl : (r.map (·.n)).length = nl at *
            have z0 := (cells_of hb3).1 0
            have z1 := (cells_of hb3).1 1
            have z2 := (cells_of hb3).1 2
            have hnvb : ∀ k, At (.slice na nl nc) k → ¬ k = w.heap.size := fun k hk e => by have h1 := own_ge ho hk; have h2 := (hX.own1 (fun _ h => h.elim)).2.2.1; omega
            replace hnvb := Lib.hid hnvb
            clear ho
            go_wp2_with fail
            refine hK.out.mono ?_
            rintro e5 w5 ⟨rfl, hu5⟩
            have hX : Upd Non (w.alloc (.cells #[.int .i64 0, .string ⟨#[]⟩, .string ⟨#[]⟩, .slice none 0 0] 25)) w5 := hX.trans (hU.trans hu5 fun _ _ h => h) fun _ _ h => h
            have hb5 := hu5.heap hb3 fun h => h
            have hI5 := hI.upd hu5 fun _ _ h => h
            clear z0 z1 z2 hze hb3 hu5 hI hU hK
            by_cases hke : ke = 0
            · subst hke
              by_cases hts : t = s
              · subst hts
                obtain rfl := hyes.out rfl
                obtain ⟨z0, z1, z2, z3⟩ := cells4 hb5
                have hb := hX.heap (heap_alloc_new w _) fun h => h
                have hU := (hX.own1 (fun _ h => h.elim)).2.2.2
                clear hX hb5
                go_wp2_with ((with_reducible (show wpList _ _ _ (⟨_, Op.store _ _ _, _, _, _, _⟩ :: _) _ _)); refine storeB_list rfl 25 _ _ rfl w.heap.size #[.int .i64 kd, .string ⟨q.s.toArray⟩, .string ⟨u.s.toArray⟩, .slice na nl nc] _ _ rfl rfl hb rfl size_key.out (by simp [Value.oneCell']) ?_)
                intro w8 hb8 hu8
                obtain ⟨x0, x1, x2, x3⟩ := cells4 hb8
                have hU8 := hU.trans hu8 (fun k hk e => by (have : k = w.heap.size := e); omega)
                have hI8 := hI5.upd hu8 hnvb.out
                clear hb hb8 hu8 hU z0 z1 z2 z3 hI5
                go_wp2_with fail
                refine bodyPost_ret (v := .tuple #[.agg #[.int .i64 kd, .string ⟨q.s.toArray⟩, .string ⟨u.s.toArray⟩, .slice na nl nc], .int .i64 0]) (by simp [results, Tryd.results14, go_sem, x0, x1, x2, x3]; try rfl) rfl ⟨_, rfl, hI8, hU8⟩
              · obtain rfl := hno.out (fun h => hts (by injection h))
                have hts2 : (t == s) = false := by simpa using hts
                clear hb5 hI5
                have hb := hX.heap (heap_alloc_new w _) fun h => h
                have hU := (hX.own1 (fun _ h => h.elim)).2.2.2
                clear hX
                try simp only []
                go_wp2_with ((with_reducible (show wpList _ _ _ (⟨_, Op.store _ _ _, _, _, _, _⟩ :: _) _ _)); refine storeB_list rfl 25 _ _ rfl w.heap.size #[.int .i64 0, .string ⟨#[]⟩, .string ⟨#[]⟩, .slice none 0 0] _ _ rfl rfl hb rfl size_key.out (by simp [Value.oneCell']) ?_)
                intro w8 hb8 hu8
                obtain ⟨x0, x1, x2, x3⟩ := cells4 hb8
                have hU8 := hU.trans hu8 (fun k hk e => by (have : k = w.heap.size := e); omega)
                clear hb hb8 hu8 hU
                go_wp2_with fail
                refine bodyPost_ret (v := .tuple #[.agg #[.int .i64 0, .string ⟨#[]⟩, .string ⟨#[]⟩, .slice none 0 0], .int .i64 4]) (by simp [results, Tryd.results14, go_sem, x0, x1, x2, x3]; try rfl) rfl ⟨_, rfl, Has.nil _ _, hU8⟩
            · obtain rfl := hno.out (fun h => hke (by injection h))
              have hke2 : (ke != 0) = true := by simp [hke]
              clear hb5 hI5
              have hb := hX.heap (heap_alloc_new w _) fun h => h
              have hU := (hX.own1 (fun _ h => h.elim)).2.2.2
              clear hX
              try simp only []
              go_wp2_with ((with_reducible (show wpList _ _ _ (⟨_, Op.store _ _ _, _, _, _, _⟩ :: _) _ _)); refine storeB_list rfl 25 _ _ rfl w.heap.size #[.int .i64 0, .string ⟨#[]⟩, .string ⟨#[]⟩, .slice none 0 0] _ _ rfl rfl hb rfl size_key.out (by simp [Value.oneCell']) ?_)
              intro w8 hb8 hu8
              obtain ⟨x0, x1, x2, x3⟩ := cells4 hb8
              have hU8 := hU.trans hu8 (fun k hk e => by (have : k = w.heap.size := e); omega)
              clear hb hb8 hu8 hU
              go_wp2_with fail
              refine bodyPost_ret (v := .tuple #[.agg #[.int .i64 0, .string ⟨#[]⟩, .string ⟨#[]⟩, .slice none 0 0], .int .i64 4]) (by simp [results, Tryd.results14, go_sem, x0, x1, x2, x3]; try rfl) rfl ⟨_, rfl, Has.nil _ _, hU8⟩
  case hsa9_1 =>
    intro K hK
    go_simp
    try go_wp2_with fail
    refine hK.out _ _ (by exact ⟨((Upd.drew Non w1).then_alloc _).cell y0 (fun h => h), ((Upd.drew Non w1).then_alloc _).cell y1 (fun h => h), (Upd.drew Non w1).then_alloc _⟩) (fun hHeld => ?_)
    clear hK K
    try simp only [Act.put, List.setIfInBounds_toArray, List.set_cons_zero, List.set_cons_succ]
    refine wpAnyH_ready (rs := [4]) (by kernel_rfl) (by simp) ?_
    refine (AllReadyH.cons (o := ?ooa14_0) ?hoa14_0 ?hsa14_0 AllReadyH.nil)
    case hoa14_0 => (simp only [List.getElem?_toArray, List.getElem?_cons_succ, List.getElem?_cons_zero]; rfl)
    case hsa14_0 =>
      intro K hK
      go_simp
      refine (hix.out _).mono ?_
      rintro e2 w2 ⟨rfl, hu2⟩
      have U3 := ((Upd.drew Non w1).then_alloc _).trans hu2 fun _ _ h => h
      have hb2 : w2.heap[w1.heap.size]? = _ := hu2.heap (heap_alloc_new w1.drew _) fun h => h
      try go_wp2_with fail
      refine hK.out _ _ (by exact ⟨U3.cell y0 (fun h => h), U3.cell y1 (fun h => h), U3⟩) (fun hHeld => ?_)
      clear hK K
      try simp only [Act.put, List.setIfInBounds_toArray, List.set_cons_zero, List.set_cons_succ]
      have hg2 : w1.heap.size ≤ w1.heap.size := Nat.le_refl _
      (refine wpAnyH_take (i := 5) (oi := ?oi_a15) (v := ?v_a15) ?ho_a15 ?hs_a15 ?hf_a15 ?hr_a15 ?hQ_a15 ?hy_a15 ?hS_a15 ?rest_a15; (case hr_a15 => kernel_rfl); (case hf_a15 => kernel_rfl); (case hs_a15 => kernel_rfl); (case ho_a15 => (simp only [List.getElem?_toArray, List.getElem?_cons_succ, List.getElem?_cons_zero]; rfl)); (case hS_a15 => assumption); (case hQ_a15 => exact fun _ _ _ h => h); (case hy_a15 => (refine Or.inl ⟨by rfl, ?_⟩; (intro w hSw; obtain ⟨x0, x1, xu⟩ := hSw; go_simp) <;> with_reducible rfl)); (try simp only [Act.put, List.setIfInBounds_toArray, List.set_cons_zero, List.set_cons_succ]))
      (refine wpAnyH_take (i := 10) (oi := ?oi_a16) (v := ?v_a16) ?ho_a16 ?hs_a16 ?hf_a16 ?hr_a16 ?hQ_a16 ?hy_a16 ?hS_a16 ?rest_a16; (case hr_a16 => kernel_rfl); (case hf_a16 => kernel_rfl); (case hs_a16 => kernel_rfl); (case ho_a16 => (simp only [List.getElem?_toArray, List.getElem?_cons_succ, List.getElem?_cons_zero]; rfl)); (case hS_a16 => assumption); (case hQ_a16 => exact fun _ _ _ h => h); (case hy_a16 => (refine Or.inl ⟨by rfl, ?_⟩; (intro w hSw; obtain ⟨x0, x1, xu⟩ := hSw; go_simp) <;> with_reducible rfl)); (try simp only [Act.put, List.setIfInBounds_toArray, List.set_cons_zero, List.set_cons_succ]))
      refine wpAnyH_ready (rs := [12]) (by kernel_rfl) (by simp) ?_
      refine (AllReadyH.cons (o := ?ooa17_0) ?hoa17_0 ?hsa17_0 AllReadyH.nil)
      case hoa17_0 => (simp only [List.getElem?_toArray, List.getElem?_cons_succ, List.getElem?_cons_zero]; rfl)
      case hsa17_0 =>
        intro K hK
        refine storeB_step rfl 25 _ _ rfl (w1.heap.size) #[.int .i64 kd, .string ⟨q.s.toArray⟩, .string ⟨#[]⟩, .slice none 0 0] _ _ rfl rfl hb2 rfl size_key.out (by simp [Value.oneCell']) ?_
        intro w3 hb3 hu3
        have U4 := U3.trans hu3 fun j hj e => by (have : j = w1.heap.size := e); omega
        refine hK.out _ _ (by exact ⟨U4.cell y0 (fun h => h), U4.cell y1 (fun h => h), U4⟩) (fun hHeld => ?_)
        clear hK K
        try simp only [Act.put, List.setIfInBounds_toArray, List.set_cons_zero, List.set_cons_succ]
        refine wpAnyH_done (by kernel_rfl) ?_ _
        generalize hgk : w1.heap.size = gk at *
        clear hHeld hu3 hb2 U3
        clear y0 y1
        have hX3 := hX.trans U4 fun _ _ h => h
        obtain ⟨z0, z1, z2, z3⟩ := cells4 hb3
        have hUn : Upd Non w1 w3 := U4
        replace hwr := Lib.hid hwr
        have hg3 : w1.heap.size ≤ gk := by omega
        replace hgk := Lib.hid hgk
        have hkb : (kd != 1) = true := by simp [hk1.out]
        have y2 := U4.cell y2 fun h => h
        have hbS := set_blk (j := 2) hb3 (.string ⟨u.s.toArray⟩)
        have hUS : Upd Non w1 (w3.setCell ⟨gk, 2, none⟩ (.string ⟨u.s.toArray⟩)) := hUn.then_setCell (fun h => absurd h (by show ¬ gk < w1.heap.size; omega)) _
        have zf := (cells_of hb3).2 2
        go_wp2_with fail
        clear hb3 hUn zf
        obtain ⟨hb3, hUn⟩ := And.intro hbS hUS
        clear hbS hUS
        go_loopw [62] (fun i wr => ∃ (j : Nat) (nv : Value), j ≤ r.length ∧ i = .int .i64 j ∧ wr.heap[gk]? = some (.cells #[.int .i64 kd, .string ⟨q.s.toArray⟩, .string ⟨u.s.toArray⟩, nv] 25 (0, 0)) ∧ OwnI wr w1.heap.size nv ((r.map (·.n)).take j) ∧ Upd Non w1 wr) (fun i _ => r.length - (intOf i).toNat)
        case atStart => exact ⟨0, .slice none 0 0, by omega, rfl, hb3, World.ownsRow_nil _ _ _ _, hUn⟩
        case round =>
          clear z0 z1 z2 z3 hb3 hUn hX3 U4
          obtain ⟨j, nv, hj, rfl, hb3, ho, hU⟩ := hrel
          have hze : wr.cell? ⟨gk, 3, none⟩ = some nv := (cells_of hb3).1 3
          by_cases hlt : j < r.length
          · obtain rfl := hA3 (by omega)
            obtain ⟨d0, d1, d2⟩ := hcq.out j hlt
            replace d0 := hU.cell d0 fun h => h
            replace d1 := hU.cell d1 fun h => h
            replace d2 := hU.cell d2 fun h => h
            have ht := Lib.hid (take_n r j hlt)
            generalize r[j] = u at *
            obtain ⟨uk, un, us⟩ := u
            simp only at d0 d1 d2
            have hbx := (Upd.alloc Non wr (.cells #[.int .i64 uk, .int .i64 un, .string ⟨us.toArray⟩] 81)).heap hb3 fun h => h
            have e3 := (cells_of hbx).1 3
            have hsz := hU.size
            have hl := hfew.out
            have hl2 : r.length + 1 ≤ 126 := by have := hm.out; omega
            have hcc : ((r.map (·.n)).take j).length = j := by rw [List.length_take, List.length_map]; omega
            have hcm2 : j < 200 := by omega
            go_wp2_with (at_builtin; go_must (refine wpList_app1n rfl _ _ 23 rfl w1.heap.size 3 (.int .i64 0) 1 8 Tryd.underlying23 hi3.out rfl _ _ _ rfl (ho.alloc _) [.int .i64 un] (wr.heap.size + 1) rfl (by simp) rfl (ics_one [un]) (by unfold maxLen; omega) (by omega) (by simp; omega) ?_))
            intro v3 w3 ho3 hu3 hf3
            obtain ⟨vn, va, vc, rfl⟩ : ∃ n a c, v3 = .slice a n c := by obtain ⟨_, a, c, e, _⟩ := has_of_owns ho3; exact ⟨_, a, c, e⟩
            have hnt := own_not (ho.alloc (.cells #[.int .i64 uk, .int .i64 un, .string ⟨us.toArray⟩] 81)) hbx (by decide)
            have hby := hu3.heap hbx hnt
            have ho4 := own_ints ho3 (by omega)
            have hU3 : Upd Non w1 w3 := (hU.then_alloc _).trans hu3 fun k hk h => by have := own_ge ho h; omega
            have hn3 := own_not ho4 hby (by decide)
            obtain ⟨x0, x3⟩ : (∀ i, w3.cell? ⟨gk, i, none⟩ = _) ∧ ∀ i, w3.frozen? ⟨gk, i, none⟩ = false := cells_of hby
            have x1 := x0 3
            have x2 := x3 3
            clear x0 x3
            clear hze e3 hbx
            go_wp2_with fail
            go_roundw
            case rel => exact ⟨j + 1, _, by omega, by go_num, set_blk hby _, by rw [ht.out]; exact (Upd.setCell (S := fun k => k = gk) w3 rfl _).owns ho4 (fun k hk e => hn3 (e ▸ hk)), hU3.then_setCell (fun h => absurd h (by show ¬ gk < w1.heap.size; omega)) _⟩
            case measure => simp [intOf]; omega
          · obtain rfl : j = r.length := by omega
            rw [List.take_of_length_le (by simp)] at ho
            have hI : Ints wr nv (r.map (·.n)) := has_of_owns ho
            obtain ⟨na, nc, rfl⟩ : ∃ a c, nv = .slice a (r.map (·.n)).length c := by obtain ⟨_, a, c, e, _⟩ := hI; exact ⟨a, c, e⟩
            have hK := yKey ⟨kd, q.s, u.s, r.map (·.n)⟩ _ wr hI (fun n hn => by obtain ⟨u, hu, rfl⟩ := List.mem_map.1 hn; exact (hok2.out u (by first | exact List.mem_cons_of_mem _ (List.mem_cons_of_mem _ hu) | exact List.mem_cons_of_mem _ (List.mem_cons_of_mem _ (List.mem_cons_of_mem _ hu)))).1) (by have := (hok2.out q (by simp)).2; show q.s.length ≤ _; omega) (by (have := (hok2.out u (by simp)).2; show u.s.length ≤ _; omega))
            obtain ⟨⟨t, ke⟩, hkr⟩ : ∃ z, keyR ⟨kd, q.s, u.s, r.map (·.n)⟩ = z := ⟨_, rfl⟩
            rw [hkr] at hK hyes hno
            unfold kyV txtV at hK
            simp only at hK
            replace hK := Lib.hid hK
            replace hkr := Lib.hid hkr
            generalize hnl : (r.map (·.n)).length = nl at *
            have z0 := (cells_of hb3).1 0
            have z1 := (cells_of hb3).1 1
            have z2 := (cells_of hb3).1 2
            have hnvb : ∀ k, At (.slice na nl nc) k → ¬ k = w.heap.size := fun k hk e => by have h1 := own_ge ho hk; have h2 := (hX.own1 (fun _ h => h.elim)).2.2.1; omega
            replace hnvb := Lib.hid hnvb
            clear ho
            go_wp2_with fail
            refine hK.out.mono ?_
            rintro e5 w5 ⟨rfl, hu5⟩
            have hX : Upd Non (w.alloc (.cells #[.int .i64 0, .string ⟨#[]⟩, .string ⟨#[]⟩, .slice none 0 0] 25)) w5 := hX.trans (hU.trans hu5 fun _ _ h => h) fun _ _ h => h
            have hb5 := hu5.heap hb3 fun h => h
            have hI5 := hI.upd hu5 fun _ _ h => h
            clear z0 z1 z2 hze hb3 hu5 hI hU hK
            by_cases hke : ke = 0
            · subst hke
              by_cases hts : t = s
              · subst hts
                obtain rfl := hyes.out rfl
                obtain ⟨z0, z1, z2, z3⟩ := cells4 hb5
                have hb := hX.heap (heap_alloc_new w _) fun h => h
                have hU := (hX.own1 (fun _ h => h.elim)).2.2.2
                clear hX hb5
                go_wp2_with ((with_reducible (show wpList _ _ _ (⟨_, Op.store _ _ _, _, _, _, _⟩ :: _) _ _)); refine storeB_list rfl 25 _ _ rfl w.heap.size #[.int .i64 kd, .string ⟨q.s.toArray⟩, .string ⟨u.s.toArray⟩, .slice na nl nc] _ _ rfl rfl hb rfl size_key.out (by simp [Value.oneCell']) ?_)
                intro w8 hb8 hu8
                obtain ⟨x0, x1, x2, x3⟩ := cells4 hb8
                have hU8 := hU.trans hu8 (fun k hk e => by (have : k = w.heap.size := e); omega)
                have hI8 := hI5.upd hu8 hnvb.out
                clear hb hb8 hu8 hU z0 z1 z2 z3 hI5
                go_wp2_with fail
                refine bodyPost_ret (v := .tuple #[.agg #[.int .i64 kd, .string ⟨q.s.toArray⟩, .string ⟨u.s.toArray⟩, .slice na nl nc], .int .i64 0]) (by simp [results, Tryd.results14, go_sem, x0, x1, x2, x3]; try rfl) rfl ⟨_, rfl, hI8, hU8⟩
              · obtain rfl := hno.out (fun h => hts (by injection h))
                have hts2 : (t == s) = false := by simpa using hts
                clear hb5 hI5
                have hb := hX.heap (heap_alloc_new w _) fun h => h
                have hU := (hX.own1 (fun _ h => h.elim)).2.2.2
                clear hX
                try simp only []
                go_wp2_with ((with_reducible (show wpList _ _ _ (⟨_, Op.store _ _ _, _, _, _, _⟩ :: _) _ _)); refine storeB_list rfl 25 _ _ rfl w.heap.size #[.int .i64 0, .string ⟨#[]⟩, .string ⟨#[]⟩, .slice none 0 0] _ _ rfl rfl hb rfl size_key.out (by simp [Value.oneCell']) ?_)
                intro w8 hb8 hu8
                obtain ⟨x0, x1, x2, x3⟩ := cells4 hb8
                have hU8 := hU.trans hu8 (fun k hk e => by (have : k = w.heap.size := e); omega)
                clear hb hb8 hu8 hU
                go_wp2_with fail
                refine bodyPost_ret (v := .tuple #[.agg #[.int .i64 0, .string ⟨#[]⟩, .string ⟨#[]⟩, .slice none 0 0], .int .i64 4]) (by simp [results, Tryd.results14, go_sem, x0, x1, x2, x3]; try rfl) rfl ⟨_, rfl, Has.nil _ _, hU8⟩
            · obtain rfl := hno.out (fun h => hke (by injection h))
              have hke2 : (ke != 0) = true := by simp [hke]
              clear hb5 hI5
              have hb := hX.heap (heap_alloc_new w _) fun h => h
              have hU := (hX.own1 (fun _ h => h.elim)).2.2.2
              clear hX
              try simp only []
              go_wp2_with ((with_reducible (show wpList _ _ _ (⟨_, Op.store _ _ _, _, _, _, _⟩ :: _) _ _)); refine storeB_list rfl 25 _ _ rfl w.heap.size #[.int .i64 0, .string ⟨#[]⟩, .string ⟨#[]⟩, .slice none 0 0] _ _ rfl rfl hb rfl size_key.out (by simp [Value.oneCell']) ?_)
              intro w8 hb8 hu8
              obtain ⟨x0, x1, x2, x3⟩ := cells4 hb8
              have hU8 := hU.trans hu8 (fun k hk e => by (have : k = w.heap.size := e); omega)
              clear hb hb8 hu8 hU
              go_wp2_with fail
              refine bodyPost_ret (v := .tuple #[.agg #[.int .i64 0, .string ⟨#[]⟩, .string ⟨#[]⟩, .slice none 0 0], .int .i64 4]) (by simp [results, Tryd.results14, go_sem, x0, x1, x2, x3]; try rfl) rfl ⟨_, rfl, Has.nil _ _, hU8⟩
end Go.Proofs.YtaflpabpkpfifaaDoor
