/- Disk.keep. -/
import Derived.Test.YtmnoldikimcafaaMBlH
namespace Go.Proofs.Ytmnoldikimcafaa
open Go.RowKit Go.Amb Go.Shelf
set_option linter.unusedVariables false
set_option linter.unusedSimpArgs false
set_option maxRecDepth 100000
set_option maxHeartbeats 4000000 in
theorem lKeepA {w : World} {D : Nat} {F : Nat → Prop} {d : Dk} (h : DiskAt w D F d) (hn : d.P.length ≤ 1000000) (pick : Nat → Bool)
    (hpick : ∀ (k : Nat) w', k < d.P.length → Upd F w w' → Calls Try.prog 54 #[.int .i64 (k : Int)] w' (Ret (.bool (pick k)) w')) :
    Calls Try.prog 32 #[.pointer (some ⟨D, 0, none⟩), .func (.func 54) #[] #[]] w (fun en w' => en = .returned (.tuple #[]) ∧ ∃ F', DiskAt w' D F' (d.keep pick) ∧ Upd F w w' ∧ ∀ k, F' k → F k ∨ w.heap.size ≤ k) := by
  obtain ⟨g, ck, pv, hX, hK, hP, e1, e2, e3, hF⟩ := h.ex
  have hok := Lib.hid h.ok
  obtain ⟨_, pa, cp, rfl, hpc1, hpc2, -⟩ := has_of_owns hP
  obtain ⟨n, hnn⟩ : ∃ n, d.P.length = n := ⟨_, rfl⟩
  obtain ⟨m, hmm⟩ : ∃ m, d.K.length = m := ⟨_, rfl⟩
  rw [hnn] at hn hP hX hpick hF e2 e3
  rw [hmm] at hX hK
  have x1 : w.cell? ⟨D, 1, none⟩ = some (.slice pa n cp) := (cells_of hX).1 1
  have hgD : g ≠ D := e1
  have hFg : F g := (hF g).2 (.inr (.inl rfl))
  have hFD : F D := (hF D).2 (.inl rfl)
  replace hX := Lib.hid hX
  replace hK := Lib.hid hK
  replace hP := Lib.hid hP
  replace hF := Lib.hid hF
  replace hpick := Lib.hid hpick
  clear h
  go_enter Try.func32, Try.ntmps32
  go_wp2_with fail
  go_loopw [11] (fun iv wr => ∃ k : Nat, iv = .int .i64 (k : Int) ∧ k ≤ n ∧ wr.heap[D]? = some (.cells #[.slice (some ⟨g, 0, none⟩) m ck, .slice pa n cp, .int .i64 d.f, .bool d.dd] 48 (0, 0)) ∧
    wr.ownsRow 0 74 128 (.slice (some ⟨g, 0, none⟩) m ck) m ((keepK d.K d.P pick k).map bc).flatten ∧ wr.ownsRow 0 77 129 (.slice pa n cp) n (d.P.map pc).flatten ∧ Upd (fun j => j = g) w wr ∧ True) (fun iv _ => n - (intOf iv).toNat)
  case atStart => exact ⟨0, rfl, by omega, hX.out, hK.out, hP.out, Upd.refl _ _, trivial⟩
  case round =>
    obtain ⟨k, rfl, hk, hXr, hKr, hPr, hUr, -⟩ := hrel
    by_cases hkn : k < n
    · have hkn' : (k : Int) < (n : Int) := by omega
      obtain ⟨gp, cp', hgp, hat, -, -, hrg, -⟩ := own_range hPr hok.out.pl (by rw [List.length_map, hnn]) k hkn
      injection hgp with i1 i2 i3
      subst i1; subst i3
      clear i2 hat
      have hkP : k < d.P.length := by omega
      have hPk : d.P[k]? = some d.P[k] := List.getElem?_eq_getElem hkP
      obtain ⟨ht1, ht2⟩ := hok.out.p _ (List.getElem_mem hkP)
      have hgetp : (d.P.map pc)[k]'(by rw [List.length_map]; omega) = pc d.P[k] := List.getElem_map ..
      rw [hgetp] at hrg
      obtain ⟨p, hp⟩ : ∃ p, d.P[k] = p := ⟨_, rfl⟩
      rw [hp] at hrg ht1 ht2 hPk
      obtain ⟨t1, t2⟩ := p
      simp only at ht1 ht2
      rw [hmm] at ht2
      clear hgetp hp
      replace hPk := Lib.hid hPk
      have hpl9 : (pc (t1, t2)).length = 129 := pc_length ht1
      obtain ⟨Z9, hZ9⟩ : ∃ Z9, (Array.replicate 128 (Value.int .u8 0)).push (.int .i64 0) = Z9 := ⟨_, rfl⟩
      have hz9 := (zero_of_info (P := Try.prog) (t := 77) (v := .agg Z9) (n := 129) (by rw [← hZ9]; exact info_write)).1
      have hZ9s : Z9.size = 129 := by rw [← hZ9]; simp
      obtain ⟨hth9, hu9, hrw9⟩ := new_row wr Z9 77 (pc (t1, t2)) (by omega)
      have h9c : (pc (t1, t2)).toArray.all (·.oneCell') = true := all_oneCell_toArray (pc_one _)
      have hszl : (Try.prog.info? 77).map (·.size) = some (pc (t1, t2)).length := by rw [hpl9]; exact size_write
      have hsz9 : (Try.prog.info? 77).map (·.size) = some (pc (t1, t2)).toArray.size := by rw [List.size_toArray, hpl9]; exact size_write
      have hth9' : (wr.alloc (.cells Z9 77)).there wr.heap.size 0 (pc (t1, t2)).toArray.size := by rw [List.size_toArray]; exact hth9
      clear hZ9 hth9
      have hgl := own_lt hKr (k := g) rfl
      have hDl := heap_lt hXr
      have hpgl := fun j hj => own_lt hPr (k := j) hj
      have hwl := hUr.size
      obtain ⟨q, hq⟩ : ∃ q, pc (t1, t2) = q := ⟨_, rfl⟩
      rw [hq] at hrg hpl9 hu9 hrw9 h9c hszl hsz9 hth9'
      replace hrw9 := Lib.hid hrw9
      replace hu9 := Lib.hid hu9
      replace hXr := Lib.hid hXr
      replace hKr := Lib.hid hKr
      replace hPr := Lib.hid hPr
      replace hUr := Lib.hid hUr
      replace hq := Lib.hid hq
      replace hrg' := Lib.hid hrg
      clear hrg
      go_wp2_with (first | refine wpList_load_mid rfl 77 _ rfl gp (k * 129) rfl q _ hrg'.out Try.underlying77 rfl hszl ?_ | refine wpList_store_mid rfl 77 _ _ rfl wr.heap.size 0 q.toArray rfl rfl hth9' hsz9 h9c ?_)
      obtain ⟨B, hB⟩ : ∃ B, wr.heap.size = B := ⟨_, rfl⟩
      rw [hB] at hu9 hrw9 hgl hDl hpgl ⊢
      obtain ⟨W2, hW2⟩ : ∃ W2, (wr.alloc (.cells Z9 77)).setCells B 0 q = W2 := ⟨_, rfl⟩
      have hu9' := hu9.out
      rw [hW2] at hu9' hrw9 ⊢
      have hU2 : Upd (fun j => j = g) w W2 := hUr.out.trans hu9' fun j hj e => by omega
      refine (hpick.out k W2 hkn (hU2.mono fun j _ e => by rw [e]; exact hFg)).mono ?_
      rintro en w3 ⟨rfl, hu3⟩
      have hX3 := Lib.hid (hu3.heap (hu9'.heap hXr.out (by omega)) fun h => h)
      have hK3 := hu3.owns (hu9'.owns hKr.out fun j hj e => by have := at_of hj; omega) fun _ _ h => h
      have hP3 := Lib.hid (hu3.owns (hu9'.owns hPr.out fun j hj e => by have := hpgl j hj; omega) fun _ _ h => h)
      have hU3 := Lib.hid (hU2.trans hu3 fun _ _ h => h.elim)
      have hrow3 := hu3.heap hrw9.out fun h => h
      have hBl := heap_lt hrow3
      clear hu9' hu9 hrw9 hW2 hU2 hu3 hth9' hsz9 h9c hszl hz9 hXr hKr hPr hUr hrg'
      have hkl := Lib.hid (fun (s : List Value) (hs : s ∈ (keepK d.K d.P pick k).map bc) => show s.length = 128 by
        obtain ⟨x, hx, rfl⟩ := List.mem_map.1 hs
        rw [bc_length]; exact keepK_mem pick hok.out.k (fun p hp => (hok.out.p p hp).1) k x hx)
      have hkn2 : ((keepK d.K d.P pick k).map bc).length = m := by rw [List.length_map, keepK_length, hmm]
      have hBg : ¬ B = g := by omega
      cases hpk : pick k with
      | true =>
        have y0 : w3.drew.cell? ⟨D, 0, none⟩ = some (.slice (some ⟨g, 0, none⟩) m ck) := (cells_of hX3.out).1 0
        have b8 : w3.drew.cell? ⟨B, 128, none⟩ = some (.int .i64 (t2 : Int)) := by
          show w3.cell? _ = _
          rw [(cells_of hrow3).1 128, ← hq.out]
          simp [pc, bc_length, ht1]
        have hrgB : w3.drew.rangeAt B 0 (bc t1) := fun j v hv => by
          show w3.cell? _ = _
          have hj := (List.getElem?_eq_some_iff.1 hv).1
          rw [Nat.zero_add, (cells_of hrow3).1 j, ← hq.out]
          simp only [List.getElem?_toArray, pc]
          rw [List.getElem?_append_left hj]; exact hv
        have hK3d := (Upd.drew Non w3).owns hK3 fun _ _ h => h
        obtain ⟨g', c', hgc, -, -, -, -, hth⟩ := own_range hK3d hkl.out hkn2 t2 ht2
        injection hgc with i1 i2 i3
        injection i1 with i1
        injection i1 with i1
        subst i1
        have hthg : Hid (w3.drew.there g (t2 * 128) (bc t1).toArray.size) := Lib.hid (by rw [List.size_toArray, bc_length, ht1]; exact hth)
        have hszs : Hid ((Try.prog.info? 74).map (·.size) = some (bc t1).length) := Lib.hid (by rw [bc_length, ht1]; exact size_sector)
        have hszs' : Hid ((Try.prog.info? 74).map (·.size) = some (bc t1).toArray.size) := Lib.hid (by rw [List.size_toArray]; exact hszs.out)
        have h1c : Hid ((bc t1).toArray.all (·.oneCell') = true) := Lib.hid (all_oneCell_toArray (bc_one _))
        have hug : Upd (fun j => j = g) w3.drew (w3.drew.setCells g (t2 * 128) (bc t1).toArray.toList) := upd_setCells _ _ _ _
        have ht2m : (t2 : Int) < (m : Int) := by omega
        replace hK3d := Lib.hid hK3d
        clear hK3 hrow3 hth i2 i3
        go_wp2_with fail
        refine wp_region_held_drew (S := fun w' => w'.cell? ⟨D, 0, none⟩ = some (.slice (some ⟨g, 0, none⟩) m ck) ∧ w'.cell? ⟨B, 128, none⟩ = some (.int .i64 (t2 : Int)) ∧ w'.rangeAt B 0 (bc t1)) (by kernel_rfl) (by exact ⟨y0, b8, hrgB⟩) (fun hHeld => ?_)
        (refine wpAnyH_take (i := 0) (oi := ?oi_A1) (v := ?v_A1) ?ho_A1 ?hs_A1 ?hf_A1 ?hr_A1 ?hQ_A1 ?hy_A1 ?hS_A1 ?rest_A1; (case hr_A1 => kernel_rfl); (case hf_A1 => kernel_rfl); (case hs_A1 => kernel_rfl); (case ho_A1 => (simp only [List.getElem?_toArray, List.getElem?_cons_succ, List.getElem?_cons_zero]; rfl)); (case hS_A1 => assumption); (case hQ_A1 => exact fun _ _ _ h => h); (case hy_A1 => (refine Or.inl ⟨by rfl, ?_⟩; (intro w hSw; obtain ⟨s0, s1, s2⟩ := hSw; go_simp) <;> with_reducible rfl)); (try simp only [Act.put, List.setIfInBounds_toArray, List.set_cons_zero, List.set_cons_succ]))
        (refine wpAnyH_take (i := 1) (oi := ?oi_A2) (v := ?v_A2) ?ho_A2 ?hs_A2 ?hf_A2 ?hr_A2 ?hQ_A2 ?hy_A2 ?hS_A2 ?rest_A2; (case hr_A2 => kernel_rfl); (case hf_A2 => kernel_rfl); (case hs_A2 => kernel_rfl); (case ho_A2 => (simp only [List.getElem?_toArray, List.getElem?_cons_succ, List.getElem?_cons_zero]; rfl)); (case hS_A2 => assumption); (case hQ_A2 => exact fun _ _ _ h => h); (case hy_A2 => (refine Or.inl ⟨by rfl, ?_⟩; (intro w hSw; obtain ⟨s0, s1, s2⟩ := hSw; go_simp) <;> with_reducible rfl)); (try simp only [Act.put, List.setIfInBounds_toArray, List.set_cons_zero, List.set_cons_succ]))
        (refine wpAnyH_take (i := 2) (oi := ?oi_A3) (v := ?v_A3) ?ho_A3 ?hs_A3 ?hf_A3 ?hr_A3 ?hQ_A3 ?hy_A3 ?hS_A3 ?rest_A3; (case hr_A3 => kernel_rfl); (case hf_A3 => kernel_rfl); (case hs_A3 => kernel_rfl); (case ho_A3 => (simp only [List.getElem?_toArray, List.getElem?_cons_succ, List.getElem?_cons_zero]; rfl)); (case hS_A3 => assumption); (case hQ_A3 => exact fun _ _ _ h => h); (case hy_A3 => (refine Or.inl ⟨by rfl, ?_⟩; (intro w hSw; obtain ⟨s0, s1, s2⟩ := hSw; go_simp) <;> with_reducible rfl)); (try simp only [Act.put, List.setIfInBounds_toArray, List.set_cons_zero, List.set_cons_succ]))
        (refine wpAnyH_take (i := 3) (oi := ?oi_A4) (v := ?v_A4) ?ho_A4 ?hs_A4 ?hf_A4 ?hr_A4 ?hQ_A4 ?hy_A4 ?hS_A4 ?rest_A4; (case hr_A4 => kernel_rfl); (case hf_A4 => kernel_rfl); (case hs_A4 => kernel_rfl); (case ho_A4 => (simp only [List.getElem?_toArray, List.getElem?_cons_succ, List.getElem?_cons_zero]; rfl)); (case hS_A4 => assumption); (case hQ_A4 => exact fun _ _ _ h => h); (case hy_A4 => (refine Or.inl ⟨by rfl, ?_⟩; (intro w hSw; obtain ⟨s0, s1, s2⟩ := hSw; go_simp) <;> with_reducible rfl)); (try simp only [Act.put, List.setIfInBounds_toArray, List.set_cons_zero, List.set_cons_succ]))
        (refine wpAnyH_take (i := 4) (oi := ?oi_A5) (v := ?v_A5) ?ho_A5 ?hs_A5 ?hf_A5 ?hr_A5 ?hQ_A5 ?hy_A5 ?hS_A5 ?rest_A5; (case hr_A5 => kernel_rfl); (case hf_A5 => kernel_rfl); (case hs_A5 => kernel_rfl); (case ho_A5 => (simp only [List.getElem?_toArray, List.getElem?_cons_succ, List.getElem?_cons_zero]; rfl)); (case hS_A5 => assumption); (case hQ_A5 => exact fun _ _ _ h => h); (case hy_A5 => (refine Or.inl ⟨by rfl, ?_⟩; (intro w hSw; obtain ⟨s0, s1, s2⟩ := hSw; go_simp) <;> with_reducible rfl)); (try simp only [Act.put, List.setIfInBounds_toArray, List.set_cons_zero, List.set_cons_succ]))
        (refine wpAnyH_take (i := 5) (oi := ?oi_A6) (v := ?v_A6) ?ho_A6 ?hs_A6 ?hf_A6 ?hr_A6 ?hQ_A6 ?hy_A6 ?hS_A6 ?rest_A6; (case hr_A6 => kernel_rfl); (case hf_A6 => kernel_rfl); (case hs_A6 => kernel_rfl); (case ho_A6 => (simp only [List.getElem?_toArray, List.getElem?_cons_succ, List.getElem?_cons_zero]; rfl)); (case hS_A6 => assumption); (case hQ_A6 => exact fun _ _ _ h => h); (case hy_A6 => (refine Or.inl ⟨by rfl, ?_⟩; (intro w hSw; obtain ⟨s0, s1, s2⟩ := hSw; go_simp) <;> with_reducible rfl)); (try simp only [Act.put, List.setIfInBounds_toArray, List.set_cons_zero, List.set_cons_succ]))
        (refine wpAnyH_take (i := 6) (oi := ?oi_A7) (v := ?v_A7) ?ho_A7 ?hs_A7 ?hf_A7 ?hr_A7 ?hQ_A7 ?hy_A7 ?hS_A7 ?rest_A7; (case hr_A7 => kernel_rfl); (case hf_A7 => kernel_rfl); (case hs_A7 => kernel_rfl); (case ho_A7 => (simp only [List.getElem?_toArray, List.getElem?_cons_succ, List.getElem?_cons_zero]; rfl)); (case hS_A7 => assumption); (case hQ_A7 => exact fun _ _ _ h => h); (case hy_A7 => (refine Or.inl ⟨by rfl, ?_⟩; (intro w hSw; obtain ⟨s0, s1, s2⟩ := hSw; go_simp) <;> with_reducible rfl)); (try simp only [Act.put, List.setIfInBounds_toArray, List.set_cons_zero, List.set_cons_succ]))
        (refine wpAnyH_take (i := 7) (oi := ?oi_A8) (v := ?v_A8) ?ho_A8 ?hs_A8 ?hf_A8 ?hr_A8 ?hQ_A8 ?hy_A8 ?hS_A8 ?rest_A8; (case hr_A8 => kernel_rfl); (case hf_A8 => kernel_rfl); (case hs_A8 => kernel_rfl); (case ho_A8 => (simp only [List.getElem?_toArray, List.getElem?_cons_succ, List.getElem?_cons_zero]; rfl)); (case hS_A8 => assumption); (case hQ_A8 => exact fun _ _ _ h => h); (case hy_A8 => (refine yieldsIf_load_mid ?yw 74 ?yx ?yo B 0 ?ye (bc t1) ?yd ?yS ?yu ?yr hszs.out; (case yo => exact rfl); (case yw => rfl); (case ye => rfl); (case yS => exact fun w hSw => hSw.2.2); (case yu => exact Try.underlying74); (case yr => rfl))); (try simp only [Act.put, List.setIfInBounds_toArray, List.set_cons_zero, List.set_cons_succ]))
        (refine wpAnyH_take (i := 8) (oi := ?oi_A9) (v := ?v_A9) ?ho_A9 ?hs_A9 ?hf_A9 ?hr_A9 ?hQ_A9 ?hy_A9 ?hS_A9 ?rest_A9; (case hr_A9 => kernel_rfl); (case hf_A9 => kernel_rfl); (case hs_A9 => kernel_rfl); (case ho_A9 => (simp only [List.getElem?_toArray, List.getElem?_cons_succ, List.getElem?_cons_zero]; rfl)); (case hS_A9 => assumption); (case hQ_A9 => exact fun _ _ _ h => h); (case hy_A9 => (refine Or.inl ⟨by rfl, ?_⟩; (intro w hSw; obtain ⟨s0, s1, s2⟩ := hSw; go_simp) <;> with_reducible rfl)); (try simp only [Act.put, List.setIfInBounds_toArray, List.set_cons_zero, List.set_cons_succ]))
        refine wpAnyH_ready (rs := [9]) (by kernel_rfl) (by simp) ?_
        refine (AllReadyH.cons (o := ?ooA10_0) ?hoA10_0 ?hsA10_0 AllReadyH.nil)
        case hoA10_0 => (simp only [List.getElem?_toArray, List.getElem?_cons_succ, List.getElem?_cons_zero]; rfl)
        case hsA10_0 =>
          intro K hK
          rw [if_pos (by rfl)]
          (refine wp_store_mid 74 ?zx ?zy ?zo g (t2 * 128) (bc t1).toArray ?ze ?zf hthg.out hszs'.out h1c.out ?zk; (case zo => exact rfl); (case ze => rfl); (case zf => rfl))
          case' zk => refine hK.out _ _ (by exact ⟨hug.cell y0 (fun h => hgD h.symm), hug.cell b8 (fun h => hBg h), range_upd hrgB hug hBg⟩) (fun hHeld => ?_)
          clear hK K
          try simp only [Act.put, List.setIfInBounds_toArray, List.set_cons_zero, List.set_cons_succ]
          refine wpAnyH_done (by kernel_rfl) ?_ _
          clear hHeld
          go_wp2_with fail
          go_roundw
          case rel =>
            refine ⟨k + 1, by go_num, by omega, hug.heap (show w3.drew.heap[D]? = _ from hX3.out) (fun h => hgD h.symm), ?_, hug.owns ((Upd.drew Non w3).owns hP3.out fun _ _ h => h) (fun j hj e => e3 (by rw [← e]; exact hj)), (hU3.out.then_drew).trans hug (fun j hj h => h), trivial⟩
            rw [keepK, hPk.out]
            simp only [hpk, if_true]
            have := own_setRow hK3d.out hkl.out hkn2 t2 ht2 (bc t1) (by rw [bc_length]; exact ht1) (g := g) rfl
            rw [← List.map_set] at this
            exact this
          case measure => simp [intOf]; omega
      | false =>
        replace hK3 := Lib.hid hK3
        clear hrow3
        go_wp2_with fail
        go_roundw
        case rel =>
          refine ⟨k + 1, by go_num, by omega, hX3.out, ?_, hP3.out, hU3.out, trivial⟩
          rw [keepK, hPk.out]
          simp only [hpk]
          exact hK3.out
        case measure => simp [intOf]; omega
    · obtain rfl : k = n := by omega
      have hkn' : ¬ (k : Int) < (k : Int) := by omega
      have r1 : wr.cell? ⟨D, 1, none⟩ = some (.slice pa k cp) := (cells_of hXr).1 1
      have q1 : wr.frozen? ⟨D, 1, none⟩ = false := (cells_of hXr).2 1
      replace hXr := Lib.hid hXr
      replace hKr := Lib.hid hKr
      replace hPr := Lib.hid hPr
      replace hUr := Lib.hid hUr
      go_wp2_with fail
      refine bodyPost_end (results_none rfl _ _ _) rfl ?_
      have hs : Upd (fun j => j = D) wr (wr.setCell ⟨D, 1, none⟩ (.slice none 0 0)) := Upd.setCell (S := fun k => k = D) wr (a := ⟨D, 1, none⟩) rfl _
      refine ⟨rfl, fun j => j = D ∨ j = g, ⟨hok.out.keep pick, g, ck, .slice none 0 0, ?_, ?_, ⟨by simp [Dk.keep], .inl ⟨rfl, rfl⟩⟩, e1, by simp [At, Value.ownBlock], by simp [At, Value.ownBlock], fun j => by simp [At, Value.ownBlock]⟩, ?_, ?_⟩
      · have := heap_setCell_same wr D 1 _ _ (.slice none 0 0) hXr.out
        have hkl : (d.keep pick).K.length = m := by unfold Dk.keep; rw [keepK_length, hmm]
        rw [hkl]
        exact this
      · have hkl : (d.keep pick).K.length = m := by unfold Dk.keep; rw [keepK_length, hmm]
        rw [hkl]
        have := hs.owns hKr.out (fun j hj e => e1 (by rw [← at_of hj]; exact e))
        unfold Dk.keep
        rw [hnn]
        exact this
      · exact (hUr.out.mono fun j _ e => by rw [e]; exact hFg).then_setCell (p := ⟨D, 1, none⟩) (fun _ => hFD) _
      · intro j hj
        rcases hj with rfl | rfl
        · exact .inl hFD
        · exact .inl hFg
set_option maxHeartbeats 4000000 in
theorem lKeepS {w : World} {D : Nat} {F : Nat → Prop} {d : Dk} (h : DiskAt w D F d) (hn : d.P.length ≤ 1000000) (pick : Nat → Bool) (bx : Nat)
    (hpick : ∀ (k : Nat) w', k < d.P.length → Upd F w w' → Calls Try.prog 33 #[.int .i64 (k : Int), .pointer (some ⟨bx, 0, none⟩)] w' (Ret (.bool (pick k)) w')) :
    Calls Try.prog 32 #[.pointer (some ⟨D, 0, none⟩), .func (.func 33) #[] #[.pointer (some ⟨bx, 0, none⟩)]] w (fun en w' => en = .returned (.tuple #[]) ∧ ∃ F', DiskAt w' D F' (d.keep pick) ∧ Upd F w w' ∧ ∀ k, F' k → F k ∨ w.heap.size ≤ k) := by
  obtain ⟨g, ck, pv, hX, hK, hP, e1, e2, e3, hF⟩ := h.ex
  have hok := Lib.hid h.ok
  obtain ⟨_, pa, cp, rfl, hpc1, hpc2, -⟩ := has_of_owns hP
  obtain ⟨n, hnn⟩ : ∃ n, d.P.length = n := ⟨_, rfl⟩
  obtain ⟨m, hmm⟩ : ∃ m, d.K.length = m := ⟨_, rfl⟩
  rw [hnn] at hn hP hX hpick hF e2 e3
  rw [hmm] at hX hK
  have x1 : w.cell? ⟨D, 1, none⟩ = some (.slice pa n cp) := (cells_of hX).1 1
  have hgD : g ≠ D := e1
  have hFg : F g := (hF g).2 (.inr (.inl rfl))
  have hFD : F D := (hF D).2 (.inl rfl)
  replace hX := Lib.hid hX
  replace hK := Lib.hid hK
  replace hP := Lib.hid hP
  replace hF := Lib.hid hF
  replace hpick := Lib.hid hpick
  clear h
  go_enter Try.func32, Try.ntmps32
  go_wp2_with fail
  go_loopw [11] (fun iv wr => ∃ k : Nat, iv = .int .i64 (k : Int) ∧ k ≤ n ∧ wr.heap[D]? = some (.cells #[.slice (some ⟨g, 0, none⟩) m ck, .slice pa n cp, .int .i64 d.f, .bool d.dd] 48 (0, 0)) ∧
    wr.ownsRow 0 74 128 (.slice (some ⟨g, 0, none⟩) m ck) m ((keepK d.K d.P pick k).map bc).flatten ∧ wr.ownsRow 0 77 129 (.slice pa n cp) n (d.P.map pc).flatten ∧ Upd (fun j => j = g) w wr ∧ True) (fun iv _ => n - (intOf iv).toNat)
  case atStart => exact ⟨0, rfl, by omega, hX.out, hK.out, hP.out, Upd.refl _ _, trivial⟩
  case round =>
    obtain ⟨k, rfl, hk, hXr, hKr, hPr, hUr, -⟩ := hrel
    by_cases hkn : k < n
    · have hkn' : (k : Int) < (n : Int) := by omega
      obtain ⟨gp, cp', hgp, hat, -, -, hrg, -⟩ := own_range hPr hok.out.pl (by rw [List.length_map, hnn]) k hkn
      injection hgp with i1 i2 i3
      subst i1; subst i3
      clear i2 hat
      have hkP : k < d.P.length := by omega
      have hPk : d.P[k]? = some d.P[k] := List.getElem?_eq_getElem hkP
      obtain ⟨ht1, ht2⟩ := hok.out.p _ (List.getElem_mem hkP)
      have hgetp : (d.P.map pc)[k]'(by rw [List.length_map]; omega) = pc d.P[k] := List.getElem_map ..
      rw [hgetp] at hrg
      obtain ⟨p, hp⟩ : ∃ p, d.P[k] = p := ⟨_, rfl⟩
      rw [hp] at hrg ht1 ht2 hPk
      obtain ⟨t1, t2⟩ := p
      simp only at ht1 ht2
      rw [hmm] at ht2
      clear hgetp hp
      replace hPk := Lib.hid hPk
      have hpl9 : (pc (t1, t2)).length = 129 := pc_length ht1
      obtain ⟨Z9, hZ9⟩ : ∃ Z9, (Array.replicate 128 (Value.int .u8 0)).push (.int .i64 0) = Z9 := ⟨_, rfl⟩
      have hz9 := (zero_of_info (P := Try.prog) (t := 77) (v := .agg Z9) (n := 129) (by rw [← hZ9]; exact info_write)).1
      have hZ9s : Z9.size = 129 := by rw [← hZ9]; simp
      obtain ⟨hth9, hu9, hrw9⟩ := new_row wr Z9 77 (pc (t1, t2)) (by omega)
      have h9c : (pc (t1, t2)).toArray.all (·.oneCell') = true := all_oneCell_toArray (pc_one _)
      have hszl : (Try.prog.info? 77).map (·.size) = some (pc (t1, t2)).length := by rw [hpl9]; exact size_write
      have hsz9 : (Try.prog.info? 77).map (·.size) = some (pc (t1, t2)).toArray.size := by rw [List.size_toArray, hpl9]; exact size_write
      have hth9' : (wr.alloc (.cells Z9 77)).there wr.heap.size 0 (pc (t1, t2)).toArray.size := by rw [List.size_toArray]; exact hth9
      clear hZ9 hth9
      have hgl := own_lt hKr (k := g) rfl
      have hDl := heap_lt hXr
      have hpgl := fun j hj => own_lt hPr (k := j) hj
      have hwl := hUr.size
      obtain ⟨q, hq⟩ : ∃ q, pc (t1, t2) = q := ⟨_, rfl⟩
      rw [hq] at hrg hpl9 hu9 hrw9 h9c hszl hsz9 hth9'
      replace hrw9 := Lib.hid hrw9
      replace hu9 := Lib.hid hu9
      replace hXr := Lib.hid hXr
      replace hKr := Lib.hid hKr
      replace hPr := Lib.hid hPr
      replace hUr := Lib.hid hUr
      replace hq := Lib.hid hq
      replace hrg' := Lib.hid hrg
      clear hrg
      go_wp2_with (first | refine wpList_load_mid rfl 77 _ rfl gp (k * 129) rfl q _ hrg'.out Try.underlying77 rfl hszl ?_ | refine wpList_store_mid rfl 77 _ _ rfl wr.heap.size 0 q.toArray rfl rfl hth9' hsz9 h9c ?_)
      obtain ⟨B, hB⟩ : ∃ B, wr.heap.size = B := ⟨_, rfl⟩
      rw [hB] at hu9 hrw9 hgl hDl hpgl ⊢
      obtain ⟨W2, hW2⟩ : ∃ W2, (wr.alloc (.cells Z9 77)).setCells B 0 q = W2 := ⟨_, rfl⟩
      have hu9' := hu9.out
      rw [hW2] at hu9' hrw9 ⊢
      have hU2 : Upd (fun j => j = g) w W2 := hUr.out.trans hu9' fun j hj e => by omega
      refine (hpick.out k W2 hkn (hU2.mono fun j _ e => by rw [e]; exact hFg)).mono ?_
      rintro en w3 ⟨rfl, hu3⟩
      have hX3 := Lib.hid (hu3.heap (hu9'.heap hXr.out (by omega)) fun h => h)
      have hK3 := hu3.owns (hu9'.owns hKr.out fun j hj e => by have := at_of hj; omega) fun _ _ h => h
      have hP3 := Lib.hid (hu3.owns (hu9'.owns hPr.out fun j hj e => by have := hpgl j hj; omega) fun _ _ h => h)
      have hU3 := Lib.hid (hU2.trans hu3 fun _ _ h => h.elim)
      have hrow3 := hu3.heap hrw9.out fun h => h
      have hBl := heap_lt hrow3
      clear hu9' hu9 hrw9 hW2 hU2 hu3 hth9' hsz9 h9c hszl hz9 hXr hKr hPr hUr hrg'
      have hkl := Lib.hid (fun (s : List Value) (hs : s ∈ (keepK d.K d.P pick k).map bc) => show s.length = 128 by
        obtain ⟨x, hx, rfl⟩ := List.mem_map.1 hs
        rw [bc_length]; exact keepK_mem pick hok.out.k (fun p hp => (hok.out.p p hp).1) k x hx)
      have hkn2 : ((keepK d.K d.P pick k).map bc).length = m := by rw [List.length_map, keepK_length, hmm]
      have hBg : ¬ B = g := by omega
      cases hpk : pick k with
      | true =>
        have y0 : w3.drew.cell? ⟨D, 0, none⟩ = some (.slice (some ⟨g, 0, none⟩) m ck) := (cells_of hX3.out).1 0
        have b8 : w3.drew.cell? ⟨B, 128, none⟩ = some (.int .i64 (t2 : Int)) := by
          show w3.cell? _ = _
          rw [(cells_of hrow3).1 128, ← hq.out]
          simp [pc, bc_length, ht1]
        have hrgB : w3.drew.rangeAt B 0 (bc t1) := fun j v hv => by
          show w3.cell? _ = _
          have hj := (List.getElem?_eq_some_iff.1 hv).1
          rw [Nat.zero_add, (cells_of hrow3).1 j, ← hq.out]
          simp only [List.getElem?_toArray, pc]
          rw [List.getElem?_append_left hj]; exact hv
        have hK3d := (Upd.drew Non w3).owns hK3 fun _ _ h => h
        obtain ⟨g', c', hgc, -, -, -, -, hth⟩ := own_range hK3d hkl.out hkn2 t2 ht2
        injection hgc with i1 i2 i3
        injection i1 with i1
        injection i1 with i1
        subst i1
        have hthg : Hid (w3.drew.there g (t2 * 128) (bc t1).toArray.size) := Lib.hid (by rw [List.size_toArray, bc_length, ht1]; exact hth)
        have hszs : Hid ((Try.prog.info? 74).map (·.size) = some (bc t1).length) := Lib.hid (by rw [bc_length, ht1]; exact size_sector)
        have hszs' : Hid ((Try.prog.info? 74).map (·.size) = some (bc t1).toArray.size) := Lib.hid (by rw [List.size_toArray]; exact hszs.out)
        have h1c : Hid ((bc t1).toArray.all (·.oneCell') = true) := Lib.hid (all_oneCell_toArray (bc_one _))
        have hug : Upd (fun j => j = g) w3.drew (w3.drew.setCells g (t2 * 128) (bc t1).toArray.toList) := upd_setCells _ _ _ _
        have ht2m : (t2 : Int) < (m : Int) := by omega
        replace hK3d := Lib.hid hK3d
        clear hK3 hrow3 hth i2 i3
        go_wp2_with fail
        refine wp_region_held_drew (S := fun w' => w'.cell? ⟨D, 0, none⟩ = some (.slice (some ⟨g, 0, none⟩) m ck) ∧ w'.cell? ⟨B, 128, none⟩ = some (.int .i64 (t2 : Int)) ∧ w'.rangeAt B 0 (bc t1)) (by kernel_rfl) (by exact ⟨y0, b8, hrgB⟩) (fun hHeld => ?_)
        (refine wpAnyH_take (i := 0) (oi := ?oi_S1) (v := ?v_S1) ?ho_S1 ?hs_S1 ?hf_S1 ?hr_S1 ?hQ_S1 ?hy_S1 ?hS_S1 ?rest_S1; (case hr_S1 => kernel_rfl); (case hf_S1 => kernel_rfl); (case hs_S1 => kernel_rfl); (case ho_S1 => (simp only [List.getElem?_toArray, List.getElem?_cons_succ, List.getElem?_cons_zero]; rfl)); (case hS_S1 => assumption); (case hQ_S1 => exact fun _ _ _ h => h); (case hy_S1 => (refine Or.inl ⟨by rfl, ?_⟩; (intro w hSw; obtain ⟨s0, s1, s2⟩ := hSw; go_simp) <;> with_reducible rfl)); (try simp only [Act.put, List.setIfInBounds_toArray, List.set_cons_zero, List.set_cons_succ]))
        (refine wpAnyH_take (i := 1) (oi := ?oi_S2) (v := ?v_S2) ?ho_S2 ?hs_S2 ?hf_S2 ?hr_S2 ?hQ_S2 ?hy_S2 ?hS_S2 ?rest_S2; (case hr_S2 => kernel_rfl); (case hf_S2 => kernel_rfl); (case hs_S2 => kernel_rfl); (case ho_S2 => (simp only [List.getElem?_toArray, List.getElem?_cons_succ, List.getElem?_cons_zero]; rfl)); (case hS_S2 => assumption); (case hQ_S2 => exact fun _ _ _ h => h); (case hy_S2 => (refine Or.inl ⟨by rfl, ?_⟩; (intro w hSw; obtain ⟨s0, s1, s2⟩ := hSw; go_simp) <;> with_reducible rfl)); (try simp only [Act.put, List.setIfInBounds_toArray, List.set_cons_zero, List.set_cons_succ]))
        (refine wpAnyH_take (i := 2) (oi := ?oi_S3) (v := ?v_S3) ?ho_S3 ?hs_S3 ?hf_S3 ?hr_S3 ?hQ_S3 ?hy_S3 ?hS_S3 ?rest_S3; (case hr_S3 => kernel_rfl); (case hf_S3 => kernel_rfl); (case hs_S3 => kernel_rfl); (case ho_S3 => (simp only [List.getElem?_toArray, List.getElem?_cons_succ, List.getElem?_cons_zero]; rfl)); (case hS_S3 => assumption); (case hQ_S3 => exact fun _ _ _ h => h); (case hy_S3 => (refine Or.inl ⟨by rfl, ?_⟩; (intro w hSw; obtain ⟨s0, s1, s2⟩ := hSw; go_simp) <;> with_reducible rfl)); (try simp only [Act.put, List.setIfInBounds_toArray, List.set_cons_zero, List.set_cons_succ]))
        (refine wpAnyH_take (i := 3) (oi := ?oi_S4) (v := ?v_S4) ?ho_S4 ?hs_S4 ?hf_S4 ?hr_S4 ?hQ_S4 ?hy_S4 ?hS_S4 ?rest_S4; (case hr_S4 => kernel_rfl); (case hf_S4 => kernel_rfl); (case hs_S4 => kernel_rfl); (case ho_S4 => (simp only [List.getElem?_toArray, List.getElem?_cons_succ, List.getElem?_cons_zero]; rfl)); (case hS_S4 => assumption); (case hQ_S4 => exact fun _ _ _ h => h); (case hy_S4 => (refine Or.inl ⟨by rfl, ?_⟩; (intro w hSw; obtain ⟨s0, s1, s2⟩ := hSw; go_simp) <;> with_reducible rfl)); (try simp only [Act.put, List.setIfInBounds_toArray, List.set_cons_zero, List.set_cons_succ]))
        (refine wpAnyH_take (i := 4) (oi := ?oi_S5) (v := ?v_S5) ?ho_S5 ?hs_S5 ?hf_S5 ?hr_S5 ?hQ_S5 ?hy_S5 ?hS_S5 ?rest_S5; (case hr_S5 => kernel_rfl); (case hf_S5 => kernel_rfl); (case hs_S5 => kernel_rfl); (case ho_S5 => (simp only [List.getElem?_toArray, List.getElem?_cons_succ, List.getElem?_cons_zero]; rfl)); (case hS_S5 => assumption); (case hQ_S5 => exact fun _ _ _ h => h); (case hy_S5 => (refine Or.inl ⟨by rfl, ?_⟩; (intro w hSw; obtain ⟨s0, s1, s2⟩ := hSw; go_simp) <;> with_reducible rfl)); (try simp only [Act.put, List.setIfInBounds_toArray, List.set_cons_zero, List.set_cons_succ]))
        (refine wpAnyH_take (i := 5) (oi := ?oi_S6) (v := ?v_S6) ?ho_S6 ?hs_S6 ?hf_S6 ?hr_S6 ?hQ_S6 ?hy_S6 ?hS_S6 ?rest_S6; (case hr_S6 => kernel_rfl); (case hf_S6 => kernel_rfl); (case hs_S6 => kernel_rfl); (case ho_S6 => (simp only [List.getElem?_toArray, List.getElem?_cons_succ, List.getElem?_cons_zero]; rfl)); (case hS_S6 => assumption); (case hQ_S6 => exact fun _ _ _ h => h); (case hy_S6 => (refine Or.inl ⟨by rfl, ?_⟩; (intro w hSw; obtain ⟨s0, s1, s2⟩ := hSw; go_simp) <;> with_reducible rfl)); (try simp only [Act.put, List.setIfInBounds_toArray, List.set_cons_zero, List.set_cons_succ]))
        (refine wpAnyH_take (i := 6) (oi := ?oi_S7) (v := ?v_S7) ?ho_S7 ?hs_S7 ?hf_S7 ?hr_S7 ?hQ_S7 ?hy_S7 ?hS_S7 ?rest_S7; (case hr_S7 => kernel_rfl); (case hf_S7 => kernel_rfl); (case hs_S7 => kernel_rfl); (case ho_S7 => (simp only [List.getElem?_toArray, List.getElem?_cons_succ, List.getElem?_cons_zero]; rfl)); (case hS_S7 => assumption); (case hQ_S7 => exact fun _ _ _ h => h); (case hy_S7 => (refine Or.inl ⟨by rfl, ?_⟩; (intro w hSw; obtain ⟨s0, s1, s2⟩ := hSw; go_simp) <;> with_reducible rfl)); (try simp only [Act.put, List.setIfInBounds_toArray, List.set_cons_zero, List.set_cons_succ]))
        (refine wpAnyH_take (i := 7) (oi := ?oi_S8) (v := ?v_S8) ?ho_S8 ?hs_S8 ?hf_S8 ?hr_S8 ?hQ_S8 ?hy_S8 ?hS_S8 ?rest_S8; (case hr_S8 => kernel_rfl); (case hf_S8 => kernel_rfl); (case hs_S8 => kernel_rfl); (case ho_S8 => (simp only [List.getElem?_toArray, List.getElem?_cons_succ, List.getElem?_cons_zero]; rfl)); (case hS_S8 => assumption); (case hQ_S8 => exact fun _ _ _ h => h); (case hy_S8 => (refine yieldsIf_load_mid ?yw 74 ?yx ?yo B 0 ?ye (bc t1) ?yd ?yS ?yu ?yr hszs.out; (case yo => exact rfl); (case yw => rfl); (case ye => rfl); (case yS => exact fun w hSw => hSw.2.2); (case yu => exact Try.underlying74); (case yr => rfl))); (try simp only [Act.put, List.setIfInBounds_toArray, List.set_cons_zero, List.set_cons_succ]))
        (refine wpAnyH_take (i := 8) (oi := ?oi_S9) (v := ?v_S9) ?ho_S9 ?hs_S9 ?hf_S9 ?hr_S9 ?hQ_S9 ?hy_S9 ?hS_S9 ?rest_S9; (case hr_S9 => kernel_rfl); (case hf_S9 => kernel_rfl); (case hs_S9 => kernel_rfl); (case ho_S9 => (simp only [List.getElem?_toArray, List.getElem?_cons_succ, List.getElem?_cons_zero]; rfl)); (case hS_S9 => assumption); (case hQ_S9 => exact fun _ _ _ h => h); (case hy_S9 => (refine Or.inl ⟨by rfl, ?_⟩; (intro w hSw; obtain ⟨s0, s1, s2⟩ := hSw; go_simp) <;> with_reducible rfl)); (try simp only [Act.put, List.setIfInBounds_toArray, List.set_cons_zero, List.set_cons_succ]))
        refine wpAnyH_ready (rs := [9]) (by kernel_rfl) (by simp) ?_
        refine (AllReadyH.cons (o := ?ooS10_0) ?hoS10_0 ?hsS10_0 AllReadyH.nil)
        case hoS10_0 => (simp only [List.getElem?_toArray, List.getElem?_cons_succ, List.getElem?_cons_zero]; rfl)
        case hsS10_0 =>
          intro K hK
          rw [if_pos (by rfl)]
          (refine wp_store_mid 74 ?zx ?zy ?zo g (t2 * 128) (bc t1).toArray ?ze ?zf hthg.out hszs'.out h1c.out ?zk; (case zo => exact rfl); (case ze => rfl); (case zf => rfl))
          case' zk => refine hK.out _ _ (by exact ⟨hug.cell y0 (fun h => hgD h.symm), hug.cell b8 (fun h => hBg h), range_upd hrgB hug hBg⟩) (fun hHeld => ?_)
          clear hK K
          try simp only [Act.put, List.setIfInBounds_toArray, List.set_cons_zero, List.set_cons_succ]
          refine wpAnyH_done (by kernel_rfl) ?_ _
          clear hHeld
          go_wp2_with fail
          go_roundw
          case rel =>
            refine ⟨k + 1, by go_num, by omega, hug.heap (show w3.drew.heap[D]? = _ from hX3.out) (fun h => hgD h.symm), ?_, hug.owns ((Upd.drew Non w3).owns hP3.out fun _ _ h => h) (fun j hj e => e3 (by rw [← e]; exact hj)), (hU3.out.then_drew).trans hug (fun j hj h => h), trivial⟩
            rw [keepK, hPk.out]
            simp only [hpk, if_true]
            have := own_setRow hK3d.out hkl.out hkn2 t2 ht2 (bc t1) (by rw [bc_length]; exact ht1) (g := g) rfl
            rw [← List.map_set] at this
            exact this
          case measure => simp [intOf]; omega
      | false =>
        replace hK3 := Lib.hid hK3
        clear hrow3
        go_wp2_with fail
        go_roundw
        case rel =>
          refine ⟨k + 1, by go_num, by omega, hX3.out, ?_, hP3.out, hU3.out, trivial⟩
          rw [keepK, hPk.out]
          simp only [hpk]
          exact hK3.out
        case measure => simp [intOf]; omega
    · obtain rfl : k = n := by omega
      have hkn' : ¬ (k : Int) < (k : Int) := by omega
      have r1 : wr.cell? ⟨D, 1, none⟩ = some (.slice pa k cp) := (cells_of hXr).1 1
      have q1 : wr.frozen? ⟨D, 1, none⟩ = false := (cells_of hXr).2 1
      replace hXr := Lib.hid hXr
      replace hKr := Lib.hid hKr
      replace hPr := Lib.hid hPr
      replace hUr := Lib.hid hUr
      go_wp2_with fail
      refine bodyPost_end (results_none rfl _ _ _) rfl ?_
      have hs : Upd (fun j => j = D) wr (wr.setCell ⟨D, 1, none⟩ (.slice none 0 0)) := Upd.setCell (S := fun k => k = D) wr (a := ⟨D, 1, none⟩) rfl _
      refine ⟨rfl, fun j => j = D ∨ j = g, ⟨hok.out.keep pick, g, ck, .slice none 0 0, ?_, ?_, ⟨by simp [Dk.keep], .inl ⟨rfl, rfl⟩⟩, e1, by simp [At, Value.ownBlock], by simp [At, Value.ownBlock], fun j => by simp [At, Value.ownBlock]⟩, ?_, ?_⟩
      · have := heap_setCell_same wr D 1 _ _ (.slice none 0 0) hXr.out
        have hkl : (d.keep pick).K.length = m := by unfold Dk.keep; rw [keepK_length, hmm]
        rw [hkl]
        exact this
      · have hkl : (d.keep pick).K.length = m := by unfold Dk.keep; rw [keepK_length, hmm]
        rw [hkl]
        have := hs.owns hKr.out (fun j hj e => e1 (by rw [← at_of hj]; exact e))
        unfold Dk.keep
        rw [hnn]
        exact this
      · exact (hUr.out.mono fun j _ e => by rw [e]; exact hFg).then_setCell (p := ⟨D, 1, none⟩) (fun _ => hFD) _
      · intro j hj
        rcases hj with rfl | rfl
        · exact .inl hFD
        · exact .inl hFg
end Go.Proofs.Ytmnoldikimcafaa

namespace Go.Proofs.Ytmnoldikimcafaa
open Go.RowKit Go.Amb Go.Shelf
set_option linter.unusedVariables false
set_option linter.unusedSimpArgs false
set_option maxRecDepth 100000
/-- A slice reads as integers. -/
abbrev Ints (w : World) (v : Value) (l : List Int) : Prop := Has w 1 v l.length (l.map (.int .i64))
theorem lIndex (v : Value) (l : List Int) (x : Int) (w : World) (hB : Ints w v l) : Calls Try.prog 55 #[v, .int .i64 x] w (fun en w' => (∃ r, en = .returned (.int .i64 r) ∧ (0 ≤ r ↔ x ∈ l)) ∧ Upd Non w w') := by
  obtain ⟨_, a, c, rfl, h1, h2, h3⟩ := hB
  have hl : l.length ≤ 9223372036854775807 := by unfold maxLen at h2; omega
  clear h1 h2
  replace h3 := Lib.hid h3
  generalize hn : l.length = n at *
  go_enter Try.func55, Try.ntmps55
  go_wp2_with fail
  go_loopw [8] (fun iv wr => ∃ i : Nat, iv = .int .i64 (i : Int) ∧ i ≤ n ∧ Hid (∀ j (hj : j < l.length), j < i → l[j] ≠ x) ∧ wr = w) (fun iv _ => n - (intOf iv).toNat)
  case atStart => exact ⟨0, rfl, by omega, Lib.hid (fun j hj h => by omega), rfl⟩
  case round =>
    obtain ⟨i, rfl, hi, hne, rfl⟩ := hrel
    by_cases hin : i < n
    · have hin' : (i : Int) < (n : Int) := by omega
      have hi0 : (0 : Int) ≤ (i : Int) := by omega
      obtain ⟨g, off, rfl, hc⟩ := h3.out.resolve_left (by omega)
      have hil : i < l.length := by omega
      have x0 := hc i (.int .i64 l[i]) (by rw [List.getElem?_map, List.getElem?_eq_getElem hil]; rfl)
      by_cases he : l[i] = x
      · rw [he] at x0
        have hmem : x ∈ l := he ▸ List.getElem_mem hil
        replace hmem := Lib.hid hmem
        clear hc he
        go_wp2_with fail
        go_ret
        exact ⟨⟨_, rfl, by constructor; intro _; exact hmem.out; intro _; exact hi0⟩, Upd.refl _ _⟩
      · obtain ⟨y, hy⟩ : ∃ y, l[i] = y := ⟨_, rfl⟩
        rw [hy] at x0 he
        have he1 : (x = y) = False := eq_false (fun h => he h.symm)
        have he2 : (y = x) = False := eq_false he
        have he3 : (x == y) = false := by simp [he1]
        clear hc
        replace he := Lib.hid he
        replace hy := Lib.hid hy
        go_wp2_with fail
        go_roundw
        case rel =>
          refine ⟨i + 1, by go_num, by omega, Lib.hid (fun j hj h => ?_), trivial⟩
          rcases Nat.lt_succ_iff_lt_or_eq.1 h with h | rfl
          · exact hne.out j hj h
          · rw [hy.out]; exact he.out
        case measure => simp [intOf]; omega
    · obtain rfl : i = n := by omega
      have hin' : ¬ (i : Int) < (i : Int) := by omega
      go_wp2_with fail
      go_ret
      refine ⟨⟨_, rfl, by simp; intro hx; obtain ⟨j, hj, rfl⟩ := List.mem_iff_getElem.1 hx; exact hne.out j hj (by omega) rfl⟩, Upd.refl _ _⟩
theorem lContains (v : Value) (l : List Int) (x : Int) (w : World) (hB : Ints w v l) : Calls Try.prog 34 #[v, .int .i64 x] w (Ret (.bool (decide (x ∈ l))) w) := by
  have cI := lIndex v l x w hB
  obtain ⟨_, a, c, rfl, -⟩ := hB
  by_cases hx : x ∈ l
  · rw [decide_eq_true hx]
    go_enter Try.func34, Try.ntmps34
    go_wp2_with fail
    refine cI.mono ?_
    rintro en w1 ⟨⟨r, rfl, hr⟩, hu⟩
    have h0 := hr.2 hx
    clear hr
    go_wp2_with fail
    go_ret
    exact ⟨by simp [h0], hu⟩
  · rw [decide_eq_false hx]
    go_enter Try.func34, Try.ntmps34
    go_wp2_with fail
    refine cI.mono ?_
    rintro en w1 ⟨⟨r, rfl, hr⟩, hu⟩
    have h0 : ¬ 0 ≤ r := fun h => hx (hr.1 h)
    have h1 : (0 ≤ r) = False := eq_false h0
    clear hr h0
    go_wp2_with fail
    go_ret
    exact ⟨by simp [h1], hu⟩
theorem lYes (x : Int) (w : World) : Calls Try.prog 54 #[.int .i64 x] w (Ret (.bool true) w) := by
  go_enter Try.func54, Try.ntmps54
  go_wp2_with fail
  go_ret
  exact ⟨rfl, Upd.refl _ _⟩
theorem lPick (v : Value) (l : List Int) (x : Int) (w : World) (bx : Nat) (hb : w.cell? ⟨bx, 0, none⟩ = some v) (hB : Ints w v l) : Calls Try.prog 33 #[.int .i64 x, .pointer (some ⟨bx, 0, none⟩)] w (Ret (.bool (decide (x ∈ l))) w) := by
  have cC := lContains v l x w hB
  obtain ⟨_, a, c, rfl, -⟩ := hB
  go_enter Try.func33, Try.ntmps33
  go_wp2_with fail
  refine cC.mono ?_
  rintro en w1 ⟨rfl, hu⟩
  go_wp2_with fail
  go_ret
  exact ⟨rfl, hu⟩
end Go.Proofs.Ytmnoldikimcafaa

namespace Go.Proofs.Ytmnoldikimcafaa
open Go.RowKit Go.Amb Go.Shelf
set_option linter.unusedVariables false
set_option linter.unusedSimpArgs false
set_option maxRecDepth 100000
theorem has_upd0 {S : Nat → Prop} {w w' : World} {size n : Nat} {v : Value} {xs : List Value} (h : Has w size v n xs) (hu : Upd S w w') (hn : 0 < n → ∀ k, At v k → ¬ S k) : Has w' size v n xs := by
  by_cases h0 : n = 0
  · obtain ⟨hl, a, c, hv, h1, h2, -⟩ := h
    exact ⟨hl, a, c, hv, h1, h2, .inl h0⟩
  · exact h.upd hu (hn (by omega))
theorem lFlush {w : World} {D : Nat} {F : Nat → Prop} {d : Dk} (h : DiskAt w D F d) (hn : d.P.length ≤ 1000000) : Calls Try.prog 30 #[.pointer (some ⟨D, 0, none⟩)] w (Stepped w D F d.flush.1 (.int .i64 d.flush.2)) := by
  have cM := lMay h
  unfold Dk.may at cM
  unfold Dk.flush
  cases hd : d.dd with
  | true =>
    rw [hd] at cM
    have hh := Lib.hid h
    clear h
    go_enter Try.func30, Try.ntmps30
    go_wp2_with fail
    refine cM.mono ?_
    rintro en w1 ⟨rfl, hu1⟩
    simp only []
    go_wp2_with fail
    go_ret
    exact ⟨rfl, F, hh.out.non hu1, hu1.non, fun k hk => .inl hk⟩
  | false =>
    rw [hd] at cM
    simp only [Bool.false_eq_true, if_false]
    simp only [Bool.false_eq_true, if_false] at cM
    have cB := Lib.hid (fun w' (hu : Upd Non w w') => lBurn (h.non hu))
    have hn' : d.burn.1.P.length ≤ 1000000 := by rw [Dk.burn_P]; exact hn
    rcases burn_cases d with hb | hb
    · rw [if_neg (by rw [hb]; simp)]
      rw [hb] at cB
      obtain ⟨d', hd'⟩ : ∃ d', d.burn.1 = d' := ⟨_, rfl⟩
      rw [hd'] at cB hn' ⊢
      clear h
      go_enter Try.func30, Try.ntmps30
      go_wp2_with fail
      refine cM.mono ?_
      rintro en w1 ⟨rfl, hu1⟩
      simp only []
      go_wp2_with fail
      refine (cB.out _ hu1).mono ?_
      rintro en w2 ⟨rfl, hD2, hu2⟩
      have hU2 : Upd F w w2 := (Upd.non hu1).trans hu2 fun _ _ h => h
      have hsz := hU2.size
      simp only []
      go_wp2_with fail
      refine (lKeepA hD2 hn' (fun _ => true) (fun k w' _ _ => lYes _ _)).mono ?_
      rintro en w3 ⟨rfl, F3, hD3, hu3, hf3⟩
      replace hD3 := Lib.hid hD3
      simp only []
      go_wp2_with fail
      go_ret
      exact ⟨rfl, F3, hD3.out, hU2.trans hu3 fun _ _ h => h, fun k hk => (hf3 k hk).imp id fun h => by omega⟩
    · rw [if_pos (by rw [hb]; simp)]
      rw [hb] at cB ⊢
      clear h
      go_enter Try.func30, Try.ntmps30
      go_wp2_with fail
      refine cM.mono ?_
      rintro en w1 ⟨rfl, hu1⟩
      simp only []
      go_wp2_with fail
      refine (cB.out _ hu1).mono ?_
      rintro en w2 ⟨rfl, hD2, hu2⟩
      replace hD2 := Lib.hid hD2
      simp only []
      go_wp2_with fail
      go_ret
      exact ⟨rfl, F, hD2.out, (Upd.non hu1).trans hu2 fun _ _ h => h, fun k hk => .inl hk⟩
theorem lCrash {w : World} {D : Nat} {F : Nat → Prop} {d : Dk} (h : DiskAt w D F d) (hn : d.P.length ≤ 1000000) (v : Value) (l : List Int) (hB : Ints w v l) (hv : 0 < l.length → ∀ k, At v k → ¬ F k) :
    Calls Try.prog 11 #[.pointer (some ⟨D, 0, none⟩), v] w (Stepped w D F (d.crash l) (.int .i64 0)) := by
  have cM := Lib.hid (fun w' (hu : Upd Non w w') => lMade (h.non hu))
  have hlt := h.lt
  have hh := Lib.hid h
  have hvs : ∃ a n c, v = .slice a n c := by obtain ⟨_, a, c, rfl, -⟩ := hB; exact ⟨_, _, _, rfl⟩
  obtain ⟨va, vn, vc, rfl⟩ := hvs
  replace hB := Lib.hid hB
  replace hv := Lib.hid hv
  clear h
  go_enter Try.func11, Try.ntmps11
  go_wp2_with fail
  refine (cM.out _ (Upd.alloc Non w _)).mono ?_
  rintro en w1 ⟨rfl, hu1⟩
  have hU1 := (Upd.alloc Non w (.cells #[.slice va vn vc] 23)).trans hu1 fun _ _ h => h
  have hbx : w1.cell? ⟨w.heap.size, 0, none⟩ = some (.slice va vn vc) := (cells_of (hu1.heap (heap_alloc_new w _) fun h => h)).1 0
  have hD1 := hh.out.non hU1
  have hsz := hU1.size
  clear hu1
  simp only []
  go_wp2_with fail
  refine (lKeepS hD1 hn (fun k => decide ((k : Int) ∈ l)) w.heap.size (fun k w' _ hu => lPick _ l _ w' w.heap.size (hu.cell hbx (fun hF => by have := hlt _ hF; simp at this)) (has_upd0 (hB.out.non hU1) hu hv.out))).mono ?_
  rintro en w2 ⟨rfl, F2, hD2, hu2, hf2⟩
  have hU2 : Upd F w w2 := hU1.non.trans hu2 fun _ _ h => h
  have hD3 := (hD2.setF (-1) (by omega) (by omega)).setD false
  have hDF : F D := hh.out.dF
  have hDF2 := hD2.dF
  obtain ⟨g, ck, pv, hX, -⟩ := hD2.ex
  have x2 : w2.cell? ⟨D, 2, none⟩ = some (.int .i64 _) := (cells_of hX).1 2
  have z2 := (cells_of hX).2 2
  have x3 : w2.cell? ⟨D, 3, none⟩ = some (.bool _) := (cells_of hX).1 3
  have z3 := (cells_of hX).2 3
  replace hD3 := Lib.hid hD3
  clear hX hD2
  simp only []
  go_wp2_with fail
  go_ret
  exact ⟨rfl, F2, hD3.out, (hU2.then_setCell (p := ⟨D, 2, none⟩) (fun _ => hDF) _).then_setCell (p := ⟨D, 3, none⟩) (fun _ => hDF) _, fun k hk => (hf2 k hk).imp id fun h => by omega⟩
end Go.Proofs.Ytmnoldikimcafaa
