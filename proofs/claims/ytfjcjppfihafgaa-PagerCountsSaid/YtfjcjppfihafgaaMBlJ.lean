/- Disk.keep. -/
import Derived.Test.YtfjcjppfihafgaaMBlI
namespace Go.Proofs.Ytfjcjppfihafgaa
open Go.RowKit Go.Amb Go.Shelf
set_option linter.unusedVariables false
set_option linter.unusedSimpArgs false
set_option maxRecDepth 100000
set_option maxHeartbeats 4000000 in
theorem lKeepS {w : World} {D : Nat} {F : Nat → Prop} {d : Dk} (h : DiskAt w D F d) (hn : d.P.length ≤ 1000000) (pick : Nat → Bool) (bx : Nat)
    (hpick : ∀ (k : Nat) w', k < d.P.length → Upd F w w' → Calls Try.prog 52 #[.int .i64 (k : Int), .pointer (some ⟨bx, 0, none⟩)] w' (Ret (.bool (pick k)) w')) :
    Calls Try.prog 51 #[.pointer (some ⟨D, 0, none⟩), .func (.func 52) #[] #[.pointer (some ⟨bx, 0, none⟩)]] w (fun en w' => en = .returned (.tuple #[]) ∧ ∃ F', DiskAt w' D F' (d.keep pick) ∧ Upd F w w' ∧ ∀ k, F' k → F k ∨ w.heap.size ≤ k) := by
  obtain ⟨g, ck, pv, hX, hK, hP, e1, e2, e3, hF⟩ := h.ex
  have hok := Lib.hid h.ok
  obtain ⟨_, pa, cp, rfl, hpc1, hpc2, -⟩ := has_of_owns hP
  obtain ⟨n, hnn⟩ : ∃ n, d.P.length = n := ⟨_, rfl⟩
  obtain ⟨m, hmm⟩ : ∃ m, d.K.length = m := ⟨_, rfl⟩
  rw [hnn] at hn hP hX hpick hF e2 e3
  rw [hmm] at hX hK
  have x1 : w.cell? ⟨D, 1, none⟩ = some (.slice pa n cp) := (cells_of hX).1 1
  have hgD : g ≠ D := e1
  have hFg : F g := (hF g).2 (.inr (.inl rfl))
  have hFD : F D := (hF D).2 (.inl rfl)
  replace hX := Lib.hid hX
  replace hK := Lib.hid hK
  replace hP := Lib.hid hP
  replace hF := Lib.hid hF
  replace hpick := Lib.hid hpick
  clear h
  go_enter Try.func51, Try.ntmps51
  go_wp2_with fail
  go_loopw [11] (fun iv wr => ∃ k : Nat, iv = .int .i64 (k : Int) ∧ k ≤ n ∧ wr.heap[D]? = some (.cells #[.slice (some ⟨g, 0, none⟩) m ck, .slice pa n cp, .int .i64 d.f, .bool d.dd] 73 (0, 0)) ∧
    wr.ownsRow 0 82 128 (.slice (some ⟨g, 0, none⟩) m ck) m ((keepK d.K d.P pick k).map bc).flatten ∧ wr.ownsRow 0 87 129 (.slice pa n cp) n (d.P.map pc).flatten ∧ Upd (fun j => j = g) w wr ∧ True) (fun iv _ => n - (intOf iv).toNat)
  case atStart => exact ⟨0, rfl, by omega, hX.out, hK.out, hP.out, Upd.refl _ _, trivial⟩
  case round =>
    obtain ⟨k, rfl, hk, hXr, hKr, hPr, hUr, -⟩ := hrel
    by_cases hkn : k < n
    · have hkn' : (k : Int) < (n : Int) := by omega
      obtain ⟨gp, cp', hgp, hat, -, -, hrg, -⟩ := own_range hPr hok.out.pl (by rw [List.length_map, hnn]) k hkn
      injection hgp with i1 i2 i3
      subst i1; subst i3
      clear i2 hat
      have hkP : k < d.P.length := by omega
      have hPk : d.P[k]? = some d.P[k] := List.getElem?_eq_getElem hkP
      obtain ⟨ht1, ht2⟩ := hok.out.p _ (List.getElem_mem hkP)
      have hgetp : (d.P.map pc)[k]'(by rw [List.length_map]; omega) = pc d.P[k] := List.getElem_map ..
      rw [hgetp] at hrg
      obtain ⟨p, hp⟩ : ∃ p, d.P[k] = p := ⟨_, rfl⟩
      rw [hp] at hrg ht1 ht2 hPk
      obtain ⟨t1, t2⟩ := p
      simp only at ht1 ht2
      rw [hmm] at ht2
      clear hgetp hp
      replace hPk := Lib.hid hPk
      have hpl9 : (pc (t1, t2)).length = 129 := pc_length ht1
      obtain ⟨Z9, hZ9⟩ : ∃ Z9, (Array.replicate 128 (Value.int .u8 0)).push (.int .i64 0) = Z9 := ⟨_, rfl⟩
      have hz9 := (zero_of_info (P := Try.prog) (t := 87) (v := .agg Z9) (n := 129) (by rw [← hZ9]; exact info_write)).1
      have hZ9s : Z9.size = 129 := by rw [← hZ9]; simp
      obtain ⟨hth9, hu9, hrw9⟩ := new_row wr Z9 87 (pc (t1, t2)) (by omega)
      have h9c : (pc (t1, t2)).toArray.all (·.oneCell') = true := all_oneCell_toArray (pc_one _)
      have hszl : (Try.prog.info? 87).map (·.size) = some (pc (t1, t2)).length := by rw [hpl9]; exact size_write
      have hsz9 : (Try.prog.info? 87).map (·.size) = some (pc (t1, t2)).toArray.size := by rw [List.size_toArray, hpl9]; exact size_write
      have hth9' : (wr.alloc (.cells Z9 87)).there wr.heap.size 0 (pc (t1, t2)).toArray.size := by rw [List.size_toArray]; exact hth9
      clear hZ9 hth9
      have hgl := own_lt hKr (k := g) rfl
      have hDl := heap_lt hXr
      have hpgl := fun j hj => own_lt hPr (k := j) hj
      have hwl := hUr.size
      obtain ⟨q, hq⟩ : ∃ q, pc (t1, t2) = q := ⟨_, rfl⟩
      rw [hq] at hrg hpl9 hu9 hrw9 h9c hszl hsz9 hth9'
      replace hrw9 := Lib.hid hrw9
      replace hu9 := Lib.hid hu9
      replace hXr := Lib.hid hXr
      replace hKr := Lib.hid hKr
      replace hPr := Lib.hid hPr
      replace hUr := Lib.hid hUr
      replace hq := Lib.hid hq
      replace hrg' := Lib.hid hrg
      clear hrg
      go_wp2_with (first | refine wpList_load_mid rfl 87 _ rfl gp (k * 129) rfl q _ hrg'.out Try.underlying87 rfl hszl ?_ | refine wpList_store_mid rfl 87 _ _ rfl wr.heap.size 0 q.toArray rfl rfl hth9' hsz9 h9c ?_)
      obtain ⟨B, hB⟩ : ∃ B, wr.heap.size = B := ⟨_, rfl⟩
      rw [hB] at hu9 hrw9 hgl hDl hpgl ⊢
      obtain ⟨W2, hW2⟩ : ∃ W2, (wr.alloc (.cells Z9 87)).setCells B 0 q = W2 := ⟨_, rfl⟩
      have hu9' := hu9.out
      rw [hW2] at hu9' hrw9 ⊢
      have hU2 : Upd (fun j => j = g) w W2 := hUr.out.trans hu9' fun j hj e => by omega
      refine (hpick.out k W2 hkn (hU2.mono fun j _ e => by rw [e]; exact hFg)).mono ?_
      rintro en w3 ⟨rfl, hu3⟩
      have hX3 := Lib.hid (hu3.heap (hu9'.heap hXr.out (by omega)) fun h => h)
      have hK3 := hu3.owns (hu9'.owns hKr.out fun j hj e => by have := at_of hj; omega) fun _ _ h => h
      have hP3 := Lib.hid (hu3.owns (hu9'.owns hPr.out fun j hj e => by have := hpgl j hj; omega) fun _ _ h => h)
      have hU3 := Lib.hid (hU2.trans hu3 fun _ _ h => h.elim)
      have hrow3 := hu3.heap hrw9.out fun h => h
      have hBl := heap_lt hrow3
      clear hu9' hu9 hrw9 hW2 hU2 hu3 hth9' hsz9 h9c hszl hz9 hXr hKr hPr hUr hrg'
      have hkl := Lib.hid (fun (s : List Value) (hs : s ∈ (keepK d.K d.P pick k).map bc) => show s.length = 128 by
        obtain ⟨x, hx, rfl⟩ := List.mem_map.1 hs
        rw [bc_length]; exact keepK_mem pick hok.out.k (fun p hp => (hok.out.p p hp).1) k x hx)
      have hkn2 : ((keepK d.K d.P pick k).map bc).length = m := by rw [List.length_map, keepK_length, hmm]
      have hBg : ¬ B = g := by omega
      cases hpk : pick k with
      | true =>
        have y0 : w3.drew.cell? ⟨D, 0, none⟩ = some (.slice (some ⟨g, 0, none⟩) m ck) := (cells_of hX3.out).1 0
        have b8 : w3.drew.cell? ⟨B, 128, none⟩ = some (.int .i64 (t2 : Int)) := by
          show w3.cell? _ = _
          rw [(cells_of hrow3).1 128, ← hq.out]
          simp [pc, bc_length, ht1]
        have hrgB : w3.drew.rangeAt B 0 (bc t1) := fun j v hv => by
          show w3.cell? _ = _
          have hj := (List.getElem?_eq_some_iff.1 hv).1
          rw [Nat.zero_add, (cells_of hrow3).1 j, ← hq.out]
          simp only [List.getElem?_toArray, pc]
          rw [List.getElem?_append_left hj]; exact hv
        have hK3d := (Upd.drew Non w3).owns hK3 fun _ _ h => h
        obtain ⟨g', c', hgc, -, -, -, -, hth⟩ := own_range hK3d hkl.out hkn2 t2 ht2
        injection hgc with i1 i2 i3
        injection i1 with i1
        injection i1 with i1
        subst i1
        have hthg : Hid (w3.drew.there g (t2 * 128) (bc t1).toArray.size) := Lib.hid (by rw [List.size_toArray, bc_length, ht1]; exact hth)
        have hszs : Hid ((Try.prog.info? 82).map (·.size) = some (bc t1).length) := Lib.hid (by rw [bc_length, ht1]; exact size_sector)
        have hszs' : Hid ((Try.prog.info? 82).map (·.size) = some (bc t1).toArray.size) := Lib.hid (by rw [List.size_toArray]; exact hszs.out)
        have h1c : Hid ((bc t1).toArray.all (·.oneCell') = true) := Lib.hid (all_oneCell_toArray (bc_one _))
        have hug : Upd (fun j => j = g) w3.drew (w3.drew.setCells g (t2 * 128) (bc t1).toArray.toList) := upd_setCells _ _ _ _
        have ht2m : (t2 : Int) < (m : Int) := by omega
        replace hK3d := Lib.hid hK3d
        clear hK3 hrow3 hth i2 i3
        go_wp2_with fail
        refine wp_region_held_drew (S := fun w' => w'.cell? ⟨D, 0, none⟩ = some (.slice (some ⟨g, 0, none⟩) m ck) ∧ w'.cell? ⟨B, 128, none⟩ = some (.int .i64 (t2 : Int)) ∧ w'.rangeAt B 0 (bc t1)) (by kernel_rfl) (by exact ⟨y0, b8, hrgB⟩) (fun hHeld => ?_)
        (refine wpAnyH_take (i := 0) (oi := ?oi_S1) (v := ?v_S1) ?ho_S1 ?hs_S1 ?hf_S1 ?hr_S1 ?hQ_S1 ?hy_S1 ?hS_S1 ?rest_S1; (case hr_S1 => kernel_rfl); (case hf_S1 => kernel_rfl); (case hs_S1 => kernel_rfl); (case ho_S1 => (simp only [List.getElem?_toArray, List.getElem?_cons_succ, List.getElem?_cons_zero]; rfl)); (case hS_S1 => assumption); (case hQ_S1 => exact fun _ _ _ h => h); (case hy_S1 => (refine Or.inl ⟨by rfl, ?_⟩; (intro w hSw; obtain ⟨s0, s1, s2⟩ := hSw; go_simp) <;> with_reducible rfl)); (try simp only [Act.put, List.setIfInBounds_toArray, List.set_cons_zero, List.set_cons_succ]))
        (refine wpAnyH_take (i := 1) (oi := ?oi_S2) (v := ?v_S2) ?ho_S2 ?hs_S2 ?hf_S2 ?hr_S2 ?hQ_S2 ?hy_S2 ?hS_S2 ?rest_S2; (case hr_S2 => kernel_rfl); (case hf_S2 => kernel_rfl); (case hs_S2 => kernel_rfl); (case ho_S2 => (simp only [List.getElem?_toArray, List.getElem?_cons_succ, List.getElem?_cons_zero]; rfl)); (case hS_S2 => assumption); (case hQ_S2 => exact fun _ _ _ h => h); (case hy_S2 => (refine Or.inl ⟨by rfl, ?_⟩; (intro w hSw; obtain ⟨s0, s1, s2⟩ := hSw; go_simp) <;> with_reducible rfl)); (try simp only [Act.put, List.setIfInBounds_toArray, List.set_cons_zero, List.set_cons_succ]))
        (refine wpAnyH_take (i := 2) (oi := ?oi_S3) (v := ?v_S3) ?ho_S3 ?hs_S3 ?hf_S3 ?hr_S3 ?hQ_S3 ?hy_S3 ?hS_S3 ?rest_S3; (case hr_S3 => kernel_rfl); (case hf_S3 => kernel_rfl); (case hs_S3 => kernel_rfl); (case ho_S3 => (simp only [List.getElem?_toArray, List.getElem?_cons_succ, List.getElem?_cons_zero]; rfl)); (case hS_S3 => assumption); (case hQ_S3 => exact fun _ _ _ h => h); (case hy_S3 => (refine Or.inl ⟨by rfl, ?_⟩; (intro w hSw; obtain ⟨s0, s1, s2⟩ := hSw; go_simp) <;> with_reducible rfl)); (try simp only [Act.put, List.setIfInBounds_toArray, List.set_cons_zero, List.set_cons_succ]))
        (refine wpAnyH_take (i := 3) (oi := ?oi_S4) (v := ?v_S4) ?ho_S4 ?hs_S4 ?hf_S4 ?hr_S4 ?hQ_S4 ?hy_S4 ?hS_S4 ?rest_S4; (case hr_S4 => kernel_rfl); (case hf_S4 => kernel_rfl); (case hs_S4 => kernel_rfl); (case ho_S4 => (simp only [List.getElem?_toArray, List.getElem?_cons_succ, List.getElem?_cons_zero]; rfl)); (case hS_S4 => assumption); (case hQ_S4 => exact fun _ _ _ h => h); (case hy_S4 => (refine Or.inl ⟨by rfl, ?_⟩; (intro w hSw; obtain ⟨s0, s1, s2⟩ := hSw; go_simp) <;> with_reducible rfl)); (try simp only [Act.put, List.setIfInBounds_toArray, List.set_cons_zero, List.set_cons_succ]))
        (refine wpAnyH_take (i := 4) (oi := ?oi_S5) (v := ?v_S5) ?ho_S5 ?hs_S5 ?hf_S5 ?hr_S5 ?hQ_S5 ?hy_S5 ?hS_S5 ?rest_S5; (case hr_S5 => kernel_rfl); (case hf_S5 => kernel_rfl); (case hs_S5 => kernel_rfl); (case ho_S5 => (simp only [List.getElem?_toArray, List.getElem?_cons_succ, List.getElem?_cons_zero]; rfl)); (case hS_S5 => assumption); (case hQ_S5 => exact fun _ _ _ h => h); (case hy_S5 => (refine Or.inl ⟨by rfl, ?_⟩; (intro w hSw; obtain ⟨s0, s1, s2⟩ := hSw; go_simp) <;> with_reducible rfl)); (try simp only [Act.put, List.setIfInBounds_toArray, List.set_cons_zero, List.set_cons_succ]))
        (refine wpAnyH_take (i := 5) (oi := ?oi_S6) (v := ?v_S6) ?ho_S6 ?hs_S6 ?hf_S6 ?hr_S6 ?hQ_S6 ?hy_S6 ?hS_S6 ?rest_S6; (case hr_S6 => kernel_rfl); (case hf_S6 => kernel_rfl); (case hs_S6 => kernel_rfl); (case ho_S6 => (simp only [List.getElem?_toArray, List.getElem?_cons_succ, List.getElem?_cons_zero]; rfl)); (case hS_S6 => assumption); (case hQ_S6 => exact fun _ _ _ h => h); (case hy_S6 => (refine Or.inl ⟨by rfl, ?_⟩; (intro w hSw; obtain ⟨s0, s1, s2⟩ := hSw; go_simp) <;> with_reducible rfl)); (try simp only [Act.put, List.setIfInBounds_toArray, List.set_cons_zero, List.set_cons_succ]))
        (refine wpAnyH_take (i := 6) (oi := ?oi_S7) (v := ?v_S7) ?ho_S7 ?hs_S7 ?hf_S7 ?hr_S7 ?hQ_S7 ?hy_S7 ?hS_S7 ?rest_S7; (case hr_S7 => kernel_rfl); (case hf_S7 => kernel_rfl); (case hs_S7 => kernel_rfl); (case ho_S7 => (simp only [List.getElem?_toArray, List.getElem?_cons_succ, List.getElem?_cons_zero]; rfl)); (case hS_S7 => assumption); (case hQ_S7 => exact fun _ _ _ h => h); (case hy_S7 => (refine Or.inl ⟨by rfl, ?_⟩; (intro w hSw; obtain ⟨s0, s1, s2⟩ := hSw; go_simp) <;> with_reducible rfl)); (try simp only [Act.put, List.setIfInBounds_toArray, List.set_cons_zero, List.set_cons_succ]))
        (refine wpAnyH_take (i := 7) (oi := ?oi_S8) (v := ?v_S8) ?ho_S8 ?hs_S8 ?hf_S8 ?hr_S8 ?hQ_S8 ?hy_S8 ?hS_S8 ?rest_S8; (case hr_S8 => kernel_rfl); (case hf_S8 => kernel_rfl); (case hs_S8 => kernel_rfl); (case ho_S8 => (simp only [List.getElem?_toArray, List.getElem?_cons_succ, List.getElem?_cons_zero]; rfl)); (case hS_S8 => assumption); (case hQ_S8 => exact fun _ _ _ h => h); (case hy_S8 => (refine yieldsIf_load_mid ?yw 82 ?yx ?yo B 0 ?ye (bc t1) ?yd ?yS ?yu ?yr hszs.out; (case yo => exact rfl); (case yw => rfl); (case ye => rfl); (case yS => exact fun w hSw => hSw.2.2); (case yu => exact Try.underlying82); (case yr => rfl))); (try simp only [Act.put, List.setIfInBounds_toArray, List.set_cons_zero, List.set_cons_succ]))
        (refine wpAnyH_take (i := 8) (oi := ?oi_S9) (v := ?v_S9) ?ho_S9 ?hs_S9 ?hf_S9 ?hr_S9 ?hQ_S9 ?hy_S9 ?hS_S9 ?rest_S9; (case hr_S9 => kernel_rfl); (case hf_S9 => kernel_rfl); (case hs_S9 => kernel_rfl); (case ho_S9 => (simp only [List.getElem?_toArray, List.getElem?_cons_succ, List.getElem?_cons_zero]; rfl)); (case hS_S9 => assumption); (case hQ_S9 => exact fun _ _ _ h => h); (case hy_S9 => (refine Or.inl ⟨by rfl, ?_⟩; (intro w hSw; obtain ⟨s0, s1, s2⟩ := hSw; go_simp) <;> with_reducible rfl)); (try simp only [Act.put, List.setIfInBounds_toArray, List.set_cons_zero, List.set_cons_succ]))
        refine wpAnyH_ready (rs := [9]) (by kernel_rfl) (by simp) ?_
        refine (AllReadyH.cons (o := ?ooS10_0) ?hoS10_0 ?hsS10_0 AllReadyH.nil)
        case hoS10_0 => (simp only [List.getElem?_toArray, List.getElem?_cons_succ, List.getElem?_cons_zero]; rfl)
        case hsS10_0 =>
          intro K hK
          rw [if_pos (by rfl)]
          (refine wp_store_mid 82 ?zx ?zy ?zo g (t2 * 128) (bc t1).toArray ?ze ?zf hthg.out hszs'.out h1c.out ?zk; (case zo => exact rfl); (case ze => rfl); (case zf => rfl))
          case' zk => refine hK.out _ _ (by exact ⟨hug.cell y0 (fun h => hgD h.symm), hug.cell b8 (fun h => hBg h), range_upd hrgB hug hBg⟩) (fun hHeld => ?_)
          clear hK K
          try simp only [Act.put, List.setIfInBounds_toArray, List.set_cons_zero, List.set_cons_succ]
          refine wpAnyH_done (by kernel_rfl) ?_ _
          clear hHeld
          go_wp2_with fail
          go_roundw
          case rel =>
            refine ⟨k + 1, by go_num, by omega, hug.heap (show w3.drew.heap[D]? = _ from hX3.out) (fun h => hgD h.symm), ?_, hug.owns ((Upd.drew Non w3).owns hP3.out fun _ _ h => h) (fun j hj e => e3 (by rw [← e]; exact hj)), (hU3.out.then_drew).trans hug (fun j hj h => h), trivial⟩
            rw [keepK, hPk.out]
            simp only [hpk, if_true]
            have := own_setRow hK3d.out hkl.out hkn2 t2 ht2 (bc t1) (by rw [bc_length]; exact ht1) (g := g) rfl
            rw [← List.map_set] at this
            exact this
          case measure => simp [intOf]; omega
      | false =>
        replace hK3 := Lib.hid hK3
        clear hrow3
        go_wp2_with fail
        go_roundw
        case rel =>
          refine ⟨k + 1, by go_num, by omega, hX3.out, ?_, hP3.out, hU3.out, trivial⟩
          rw [keepK, hPk.out]
          simp only [hpk]
          exact hK3.out
        case measure => simp [intOf]; omega
    · obtain rfl : k = n := by omega
      have hkn' : ¬ (k : Int) < (k : Int) := by omega
      have r1 : wr.cell? ⟨D, 1, none⟩ = some (.slice pa k cp) := (cells_of hXr).1 1
      have q1 : wr.frozen? ⟨D, 1, none⟩ = false := (cells_of hXr).2 1
      replace hXr := Lib.hid hXr
      replace hKr := Lib.hid hKr
      replace hPr := Lib.hid hPr
      replace hUr := Lib.hid hUr
      go_wp2_with fail
      refine bodyPost_end (results_none rfl _ _ _) rfl ?_
      have hs : Upd (fun j => j = D) wr (wr.setCell ⟨D, 1, none⟩ (.slice none 0 0)) := Upd.setCell (S := fun k => k = D) wr (a := ⟨D, 1, none⟩) rfl _
      refine ⟨rfl, fun j => j = D ∨ j = g, ⟨hok.out.keep pick, g, ck, .slice none 0 0, ?_, ?_, ⟨by simp [Dk.keep], .inl ⟨rfl, rfl⟩⟩, e1, by simp [At, Value.ownBlock], by simp [At, Value.ownBlock], fun j => by simp [At, Value.ownBlock]⟩, ?_, ?_⟩
      · have := heap_setCell_same wr D 1 _ _ (.slice none 0 0) hXr.out
        have hkl : (d.keep pick).K.length = m := by unfold Dk.keep; rw [keepK_length, hmm]
        rw [hkl]
        exact this
      · have hkl : (d.keep pick).K.length = m := by unfold Dk.keep; rw [keepK_length, hmm]
        rw [hkl]
        have := hs.owns hKr.out (fun j hj e => e1 (by rw [← at_of hj]; exact e))
        unfold Dk.keep
        rw [hnn]
        exact this
      · exact (hUr.out.mono fun j _ e => by rw [e]; exact hFg).then_setCell (p := ⟨D, 1, none⟩) (fun _ => hFD) _
      · intro j hj
        rcases hj with rfl | rfl
        · exact .inl hFD
        · exact .inl hFg
end Go.Proofs.Ytfjcjppfihafgaa
