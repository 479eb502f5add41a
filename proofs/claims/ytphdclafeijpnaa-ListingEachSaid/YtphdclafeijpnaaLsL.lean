/- The reference's Page. -/
import Derived.Test.YtphdclafeijpnaaLsJ
import Derived.Test.YtphdclafeijpnaaLsK
import Derived.Deep.RegionHeld3
namespace Go.Proofs.Ytphdclafeijpnaa
open Go.RowKit Go.Amb Go.Shelf
set_option linter.unusedVariables false
set_option linter.unusedSimpArgs false
set_option maxRecDepth 100000
set_option maxHeartbeats 2000000 in
theorem rPageArg (nv : Value) (l : List Str) (p d a : Str) (m : Int) (w : World) (hT : Txts w nv l) (hm1 : -9223372036854775808 ≤ m) (hc : ¬ ckOk p d a m) : Calls Try.prog 10 #[nv, txtV p, txtV d, txtV a, .int .i64 m] w (PageRet w Pg.none 2) := by
  have cC := Lib.hid (fun w => rCheck p d a m w hm1)
  have e2 : ck p d a m = 2 := by unfold ck; rw [if_neg hc]
  rw [e2] at cC
  obtain ⟨va, vc, rfl, -⟩ := txts_at hT
  clear hT hc e2
  generalize l.length = n
  unfold txtV at *
  go_enter Try.func10, Try.ntmps10
  go_wp2_with fail
  refine (cC.out _).mono ?_
  rintro e w1 ⟨rfl, hu1⟩
  have hA := ((Upd.refl Non w).then_alloc (.cells #[.slice none 0 0, .slice none 0 0, .string ⟨#[]⟩, .bool false] 26)).trans hu1 fun _ _ h => h
  have hb := hu1.heap (heap_alloc_new w (.cells #[.slice none 0 0, .slice none 0 0, .string ⟨#[]⟩, .bool false] 26)) fun h => h
  have hs4 := size_listing
  clear hu1
  simp only []
  go_wp2_with (refine storeB_list rfl 26 _ _ rfl w.heap.size #[.slice none 0 0, .slice none 0 0, .string ⟨#[]⟩, .bool false] _ _ rfl rfl hb rfl hs4.out (by simp [Value.oneCell']) ?_)
  intro w2 hb2 hu2
  have hU2 := hA.trans hu2 (fun k hk e => by omega)
  have x0 := (cells_of hb2).1 0
  have x1 := (cells_of hb2).1 1
  have x2 := (cells_of hb2).1 2
  have x3 := (cells_of hb2).1 3
  clear hb hb2 hu2 hA
  go_wp2_with fail
  refine bodyPost_ret (v := .tuple #[.agg #[.slice none 0 0, .slice none 0 0, .string ⟨#[]⟩, .bool false], .int .i64 2]) (by simp [results, Try.results10, go_sem, x0, x1, x2, x3]; try rfl) rfl ⟨_, rfl, pg_none _, hU2⟩
set_option maxHeartbeats 4000000 in
theorem rPageOk (nv : Value) (l : List Str) (p d a : Str) (m : Int) (w : World) (hT : Txts w nv l) (hn : l.length ≤ 500) (hs : ∀ s ∈ l, s.length ≤ 140737488355328) (hc : ckOk p d a m) :
    Calls Try.prog 10 #[nv, txtV p, txtV d, txtV a, .int .i64 m] w (PageRet w (page p d a m l) (pageE p d a m l)) := by
  have cC := Lib.hid (fun w => rCheck p d a m w (by have := hc.2.2.2.1; omega))
  have e2 : ck p d a m = 0 := by unfold ck; rw [if_pos hc]
  rw [e2] at cC
  obtain ⟨R, hR⟩ : ∃ R, R = PageRet w (page p d a m l) (pageE p d a m l) := ⟨_, rfl⟩
  rw [← hR]
  replace hR := Lib.hid hR
  have cL := Lib.hid (fun w' (hu : Upd Non w w') => rList nv l p d a w' (hT.non hu) hn hs hc.2.1 hc.2.2.1)
  obtain ⟨va, vc, rfl, -⟩ := txts_at hT
  obtain ⟨n, hnn⟩ : ∃ n, l.length = n := ⟨_, rfl⟩
  have hT' : Txts w (.slice va n vc) l := by rw [← hnn]; exact hT
  rw [hnn] at hn cL ⊢
  replace hT' := Lib.hid hT'
  replace hc := Lib.hid hc
  replace hs := Lib.hid hs
  have hs4 := size_listing
  clear hT e2
  unfold txtV at *
  go_enter Try.func10, Try.ntmps10
  go_wp2_with fail
  refine (cC.out _).mono ?_
  rintro e w1 ⟨rfl, hu1⟩
  have hU1 := ((Upd.refl Non w).then_alloc (.cells #[.slice none 0 0, .slice none 0 0, .string ⟨#[]⟩, .bool false] 26)).trans hu1 fun _ _ h => h
  have hb1 := hu1.heap (heap_alloc_new w (.cells #[.slice none 0 0, .slice none 0 0, .string ⟨#[]⟩, .bool false] 26)) fun h => h
  replace hU1 := Lib.hid hU1
  replace hb1 := Lib.hid hb1
  clear hu1 cC
  simp only []
  go_wp2_with fail
  go_loopw [13] (fun iv wr => ∃ k : Nat, iv = .int .i64 ((k : Int) + 1) ∧ (k + 1 ≤ n ∨ n = 0 ∧ k = 0) ∧ Hid (risTo l (k + 1)) ∧ Upd Non w1 wr) (fun iv _ => n + 1 - (intOf iv).toNat)
  case atStart => exact ⟨0, rfl, by omega, Lib.hid (fun i h h' => by omega), Upd.refl _ _⟩
  case round =>
    obtain ⟨k, rfl, hk, hr, hu⟩ := hrel
    by_cases hkn : k + 1 < n
    · have hkn' : (k : Int) + 1 < (n : Int) := by omega
      have hk0 : (0 : Int) ≤ (k : Int) := by omega
      have hk1 : (0 : Int) ≤ (k : Int) + 1 := by omega
      have hkl : k + 1 < l.length := by omega
      obtain ⟨_, _, e, hat⟩ := txts_at ((hT'.out.non hU1.out).non hu)
      injection e with e1 e2 e3
      subst e1
      clear e2 e3
      obtain ⟨g, off, rfl, hx⟩ := hat (k + 1) hkl
      obtain ⟨g', off', e, hy⟩ := hat k (by omega)
      injection e with e
      injection e with e1 e2
      subst e1
      subst e2
      have hyl := hs.out _ (List.getElem_mem (show k < l.length by omega))
      have hxl := hs.out _ (List.getElem_mem hkl)
      obtain ⟨y, hye⟩ : ∃ y, l[k]'(by omega) = y := ⟨_, rfl⟩
      obtain ⟨x, hxe⟩ : ∃ x, l[k + 1] = x := ⟨_, rfl⟩
      rw [hye] at hy hyl
      rw [hxe] at hx hxl
      have cB := Lib.hid (fun w => rBelow y x w hyl hxl)
      unfold txtV at hx hy
      have hw1 := IntWalk.i64_in ((k : Int) + 1 - 1) ⟨by omega, by omega⟩
      rw [show (k : Int) + 1 - 1 = (k : Int) by omega] at hw1
      have hw3 : IntKind.i64.wrap ((k : Int) + 1 - 1) = (k : Int) := by rw [show (k : Int) + 1 - 1 = (k : Int) by omega]; exact hw1
      have hkk : (k : Int) < (n : Int) := by omega
      have hwn : ((k : Int) + 1).toNat = k + 1 := by omega
      clear hat
      by_cases hle : Op.bytesLess y x = true
      · have hr1 := Lib.hid (hr.out.next (fun _ _ => by rw [hxe]; show Op.bytesLess l[k] x = true; rw [hye]; exact hle))
        rw [hle] at cB
        replace hye := Lib.hid hye
        replace hxe := Lib.hid hxe
        replace hk := Lib.hid hk
        go_wp2_with fail
        (refine wp_tail 9 (by kernel_rfl) (by kernel_rfl) ?_; simp only [List.take_succ_cons, List.take_zero, List.drop_succ_cons, List.drop_zero]; (repeat still_step); refine wpStill_nil ?_)
        go_wp2_with fail
        refine (cB.out _).mono ?_
        rintro e w2 ⟨rfl, hu2⟩
        have hu2' := (hu.trans (Upd.drew Non wr) fun _ _ h => h).trans hu2 fun _ _ h => h
        clear hu2 hu hx hy cB
        simp only []
        go_wp2_with fail
        go_roundw
        case rel => exact ⟨k + 1, by go_num, by omega, Lib.hid hr1.out, hu2'⟩
        case measure => simp [intOf]; omega
      · have hle' : Op.bytesLess y x = false := by simpa using hle
        have hbad := rising_no (k + 1) (by omega) hkl (by rw [hxe]; show Op.bytesLess l[k] x = false; rw [hye]; exact hle')
        have hpE : pageE p d a m l = 4 := by unfold pageE; rw [if_pos hc.out, if_neg hbad]
        have hpP : page p d a m l = Pg.none := by unfold page; rw [if_neg (fun h => hbad h.2)]
        have hR' := hR.out
        rw [hpE, hpP] at hR'
        replace hR' := Lib.hid hR'
        rw [hle'] at cB
        replace hye := Lib.hid hye
        replace hxe := Lib.hid hxe
        replace hk := Lib.hid hk
        clear hpE hpP hbad hle hle'
        go_wp2_with fail
        (refine wp_tail 9 (by kernel_rfl) (by kernel_rfl) ?_; simp only [List.take_succ_cons, List.take_zero, List.drop_succ_cons, List.drop_zero]; (repeat still_step); refine wpStill_nil ?_)
        go_wp2_with fail
        refine (cB.out _).mono ?_
        rintro e w2 ⟨rfl, hu2⟩
        have hu2' := (hu.trans (Upd.drew Non wr) fun _ _ h => h).trans hu2 fun _ _ h => h
        have hU2 := hU1.out.trans hu2' fun _ _ h => h
        have hX := hu2'.heap hb1.out fun h => h
        clear hu2 hu hx hy cB hu2'
        simp only []
        go_wp2_with (refine storeB_list rfl 26 _ _ rfl w.heap.size #[.slice none 0 0, .slice none 0 0, .string ⟨#[]⟩, .bool false] _ _ rfl rfl hX rfl hs4.out (by simp [Value.oneCell']) ?_)
        intro w3 hb3 hu3
        have hU3 := hU2.trans hu3 (fun k hk e => by omega)
        have x0 := (cells_of hb3).1 0
        have x1 := (cells_of hb3).1 1
        have x2 := (cells_of hb3).1 2
        have x3 := (cells_of hb3).1 3
        clear hb3 hu3 hX
        go_wp2_with fail
        refine bodyPost_ret (v := .tuple #[.agg #[.slice none 0 0, .slice none 0 0, .string ⟨#[]⟩, .bool false], .int .i64 4]) (by simp [results, Try.results10, go_sem, x0, x1, x2, x3]; try rfl) rfl ?_
        rw [hR'.out]
        exact ⟨_, rfl, pg_none _, hU3⟩
    · have hkn' : ((k : Int) + 1 < (n : Int)) = False := eq_false (by omega)
      have hris : rising l := fun i hi => hr.out i hi (by omega)
      have hpE : pageE p d a m l = 0 := by unfold pageE; rw [if_pos hc.out, if_pos hris]
      have hpP : page p d a m l = pageOf (ents p d a l) m.toNat := by unfold page; rw [if_pos ⟨hc.out, hris⟩]
      have hR' := hR.out
      rw [hpE, hpP] at hR'
      replace hR' := Lib.hid hR'
      clear hpE hpP hris hr hR
      have hUw := Lib.hid (hU1.out.trans hu fun _ _ h => h)
      have hbw := Lib.hid (hu.heap hb1.out fun h => h)
      have hz0 : w.heap.size < wr.heap.size := heap_lt hbw.out
      clear hU1 hb1 hu
      obtain ⟨z, hz⟩ : ∃ z, wr.heap.size = z := ⟨_, rfl⟩
      have hu4 : Upd Non wr (wr.alloc (.cells #[.slice none 0 0, .slice none 0 0, .string ⟨#[]⟩, .bool false] 26)) := Upd.alloc _ _ _
      have hb4 := heap_alloc_new wr (.cells #[.slice none 0 0, .slice none 0 0, .string ⟨#[]⟩, .bool false] 26)
      rw [hz] at hb4
      replace hb4 := Lib.hid hb4
      have hz4 : (wr.alloc (.cells #[.slice none 0 0, .slice none 0 0, .string ⟨#[]⟩, .bool false] 26)).heap.size = z + 1 := by simp [hz]
      replace hu4 := Lib.hid hu4
      replace hz4 := Lib.hid hz4
      replace hk := Lib.hid hk
      replace hkn := Lib.hid hkn
      go_wp2_with fail
      refine (cL.out _ (hUw.out.trans hu4.out fun _ _ h => h)).mono ?_
      rintro en w5 ⟨v5, rfl, hE5, hu5, hv5⟩
      rw [hz4.out] at hv5
      have hz5 : z + 1 ≤ w5.heap.size := by have := hu5.size; rw [hz4.out] at this; exact this
      have hb5 := Lib.hid (hu5.heap hb4.out fun h => h)
      have hU5 := Lib.hid ((hUw.out.trans hu4.out fun _ _ h => h).trans hu5 fun _ _ h => h)
      have hbw5 := Lib.hid (hu5.heap (hu4.out.heap hbw.out fun h => h) fun h => h)
      clear hu5 hu4 hz4 hb4 hbw hUw cL
      obtain ⟨E, hE⟩ : ∃ E, ents p d a l = E := ⟨_, rfl⟩
      rw [hE] at hE5 hR'
      have hEl : E.length ≤ 500 := by rw [← hE]; exact Nat.le_trans (entsFrom_le _ _ _ _ _) (by omega)
      obtain ⟨ea, ec', rfl, hat⟩ := ents_at hE5
      obtain ⟨en, hen⟩ : ∃ en, E.length = en := ⟨_, rfl⟩
      rw [hen] at hv5
      replace hat := Lib.hid hat
      replace hE := Lib.hid hE
      obtain ⟨M, hM⟩ : ∃ M : Nat, m = (M : Int) := ⟨m.toNat, by have := hc.out.2.2.2.1; omega⟩
      subst hM
      have hM1 : 1 ≤ M := by have := hc.out.2.2.2.1; omega
      have hM50 : M ≤ 50 := by have := hc.out.2.2.2.2; omega
      have hinf := Lib.hid (show (Try.prog.info? 9).map (fun i => (i.zero, i.size, i.bytes)) = some (some (.string ⟨#[]⟩), 1, 16) from rfl)
      obtain ⟨B0, hB0⟩ : ∃ B0, w5.heap.size = B0 := ⟨_, rfl⟩
      clear hE5
      simp only [hen]
      go_wp2_with fail
      go_loopw [16] (fun iv wr => ∃ (i : Nat), iv = .int .i64 (i : Int) ∧ i ≤ M ∧ i ≤ en ∧ Upd (fun j => j = z) w5 wr ∧ ∃ nv pv, wr.heap[z]? = some (.cells #[nv, pv, .string ⟨#[]⟩, .bool false] 26 (0, 0)) ∧ PgO B0 wr nv pv (E.take i)) (fun iv _ => M - (intOf iv).toNat)
      case atStart => exact ⟨0, rfl, by omega, by omega, Upd.refl _ _, _, _, hb5.out, World.ownsRow_nil _ _ _ _, World.ownsRow_nil _ _ _ _, fun k hk => by simp [At, Value.ownBlock] at hk⟩
      case round =>
        obtain ⟨i, rfl, hiM, hie, hu, nv, pv, hout, hO⟩ := hrel
        by_cases hin : i < en ∧ i < M
        · obtain ⟨hin1, hin2⟩ := hin
          have hin1' : (i : Int) < (en : Int) := by omega
          have hin2' : (i : Int) < (M : Int) := by omega
          have hi0 : (0 : Int) ≤ (i : Int) := by omega
          have hil : i < E.length := by omega
          obtain ⟨g5, o5, e, en0, en1⟩ := hat.out i hil
          subst e
          have hgv := hv5 g5 (by simp [At, Value.ownBlock])
          obtain ⟨x, hx⟩ : ∃ x, E[i] = x := ⟨_, rfl⟩
          obtain ⟨xs, xb⟩ := x
          rw [hx] at en0 en1
          unfold txtV at en0
          simp only at en0 en1
          have hx' : E[i]? = some (xs, xb) := by rw [List.getElem?_eq_getElem hil, hx]
          have ets := Lib.hid (take_next hx')
          have en := hu.cell en0 (by dsimp only; omega)
          have enb := hu.cell en1 (by dsimp only; omega)
          have hg5 := Lib.hid (show g5 < B0 by omega)
          have hg5z := Lib.hid (show ¬ g5 = z by omega)
          have o0 : wr.cell? ⟨z, 0, none⟩ = some nv := (cells_of hout).1 0
          have o1 : wr.cell? ⟨z, 1, none⟩ = some pv := (cells_of hout).1 1
          obtain ⟨L, hL⟩ : ∃ L, E.take i = L := ⟨_, rfl⟩
          rw [hL] at hO ets
          have hLl : L.length ≤ 500 := by rw [← hL, List.length_take]; omega
          clear en0 en1 hx hx'
          cases xb with
          | false =>
            obtain ⟨ln, hln⟩ : ∃ ln, (namesOf L).length = ln := ⟨_, rfl⟩
            have hln5 : ln ≤ 500 := by have := namesOf_le L; omega
            have hown := hO.n
            rw [hln] at hown
            replace hown := Lib.hid hown
            have q1 : ln + 1 ≤ maxLen := by unfold maxLen; omega
            have q2 : (ln + 1) * 16 ≤ 140737488355328 := by omega
            have q3 : B0 ≤ wr.heap.size := by have := hu.size; omega
            go_wp2_with fail
            refine wp_region_held_drew (S := fun w' => w'.cell? ⟨g5, o5 + i * 2, none⟩ = some (.string ⟨xs.toArray⟩)) (by kernel_rfl) (by exact en) (fun hHeld => ?_)
            (refine wpAnyH_take (i := 0) (oi := ?oi_u01) (v := ?v_u01) ?ho_u01 ?hs_u01 ?hf_u01 ?hr_u01 ?hQ_u01 ?hy_u01 ?hS_u01 ?rest_u01; (case hr_u01 => kernel_rfl); (case hf_u01 => kernel_rfl); (case hs_u01 => kernel_rfl); (case ho_u01 => (simp only [List.getElem?_toArray, List.getElem?_cons_succ, List.getElem?_cons_zero]; rfl)); (case hS_u01 => assumption); (case hQ_u01 => exact fun _ _ _ h => h); (case hy_u01 => (refine Or.inl ⟨by rfl, ?_⟩; (intro w hSw; (try dsimp only at hSw); go_simp) <;> with_reducible rfl)); (try simp only [Act.put, List.setIfInBounds_toArray, List.set_cons_zero, List.set_cons_succ]))
            (refine wpAnyH_take (i := 2) (oi := ?oi_u02) (v := ?v_u02) ?ho_u02 ?hs_u02 ?hf_u02 ?hr_u02 ?hQ_u02 ?hy_u02 ?hS_u02 ?rest_u02; (case hr_u02 => kernel_rfl); (case hf_u02 => kernel_rfl); (case hs_u02 => kernel_rfl); (case ho_u02 => (simp only [List.getElem?_toArray, List.getElem?_cons_succ, List.getElem?_cons_zero]; rfl)); (case hS_u02 => assumption); (case hQ_u02 => exact fun _ _ _ h => h); (case hy_u02 => (refine Or.inl ⟨by rfl, ?_⟩; (intro w hSw; (try dsimp only at hSw); go_simp) <;> with_reducible rfl)); (try simp only [Act.put, List.setIfInBounds_toArray, List.set_cons_zero, List.set_cons_succ]))
            (refine wpAnyH_take (i := 3) (oi := ?oi_u03) (v := ?v_u03) ?ho_u03 ?hs_u03 ?hf_u03 ?hr_u03 ?hQ_u03 ?hy_u03 ?hS_u03 ?rest_u03; (case hr_u03 => kernel_rfl); (case hf_u03 => kernel_rfl); (case hs_u03 => kernel_rfl); (case ho_u03 => (simp only [List.getElem?_toArray, List.getElem?_cons_succ, List.getElem?_cons_zero]; rfl)); (case hS_u03 => assumption); (case hQ_u03 => exact fun _ _ _ h => h); (case hy_u03 => (refine Or.inl ⟨by rfl, ?_⟩; (intro w hSw; (try dsimp only at hSw); go_simp) <;> with_reducible rfl)); (try simp only [Act.put, List.setIfInBounds_toArray, List.set_cons_zero, List.set_cons_succ]))
            (refine wpAnyH_take (i := 4) (oi := ?oi_u04) (v := ?v_u04) ?ho_u04 ?hs_u04 ?hf_u04 ?hr_u04 ?hQ_u04 ?hy_u04 ?hS_u04 ?rest_u04; (case hr_u04 => kernel_rfl); (case hf_u04 => kernel_rfl); (case hs_u04 => kernel_rfl); (case ho_u04 => (simp only [List.getElem?_toArray, List.getElem?_cons_succ, List.getElem?_cons_zero]; rfl)); (case hS_u04 => assumption); (case hQ_u04 => exact fun _ _ _ h => h); (case hy_u04 => (refine Or.inl ⟨by rfl, ?_⟩; (intro w hSw; (try dsimp only at hSw); go_simp) <;> with_reducible rfl)); (try simp only [Act.put, List.setIfInBounds_toArray, List.set_cons_zero, List.set_cons_succ]))
            (refine wpAnyH_take (i := 5) (oi := ?oi_u05) (v := ?v_u05) ?ho_u05 ?hs_u05 ?hf_u05 ?hr_u05 ?hQ_u05 ?hy_u05 ?hS_u05 ?rest_u05; (case hr_u05 => kernel_rfl); (case hf_u05 => kernel_rfl); (case hs_u05 => kernel_rfl); (case ho_u05 => (simp only [List.getElem?_toArray, List.getElem?_cons_succ, List.getElem?_cons_zero]; rfl)); (case hS_u05 => assumption); (case hQ_u05 => exact fun _ _ _ h => h); (case hy_u05 => (refine Or.inl ⟨by rfl, ?_⟩; (intro w hSw; (try dsimp only at hSw); go_simp) <;> with_reducible rfl)); (try simp only [Act.put, List.setIfInBounds_toArray, List.set_cons_zero, List.set_cons_succ]))
            (refine wpAnyH_take (i := 6) (oi := ?oi_u06) (v := ?v_u06) ?ho_u06 ?hs_u06 ?hf_u06 ?hr_u06 ?hQ_u06 ?hy_u06 ?hS_u06 ?rest_u06; (case hr_u06 => kernel_rfl); (case hf_u06 => kernel_rfl); (case hs_u06 => kernel_rfl); (case ho_u06 => (simp only [List.getElem?_toArray, List.getElem?_cons_succ, List.getElem?_cons_zero]; rfl)); (case hS_u06 => assumption); (case hQ_u06 => exact fun _ _ _ h => h); (case hy_u06 => (refine Or.inl ⟨by rfl, ?_⟩; (intro w hSw; (try dsimp only at hSw); go_simp) <;> with_reducible rfl)); (try simp only [Act.put, List.setIfInBounds_toArray, List.set_cons_zero, List.set_cons_succ]))
            refine wpAnyH_ready (rs := [1, 7]) (by kernel_rfl) (by simp) ?_
            refine (AllReadyH.cons (o := ?oou07_0) ?hou07_0 ?hsu07_0 (AllReadyH.cons (o := ?oou07_1) ?hou07_1 ?hsu07_1 AllReadyH.nil))
            case hou07_0 => (simp only [List.getElem?_toArray, List.getElem?_cons_succ, List.getElem?_cons_zero]; rfl)
            case hou07_1 => (simp only [List.getElem?_toArray, List.getElem?_cons_succ, List.getElem?_cons_zero]; rfl)
            case hsu07_0 =>
              intro K hK
              go_simp
              try go_wp2_with fail
              refine hK.out _ _ (by exact en) (fun hHeld => ?_)
              clear hK K
              try simp only [Act.put, List.setIfInBounds_toArray, List.set_cons_zero, List.set_cons_succ]
              refine wpAnyH_ready (rs := [7]) (by kernel_rfl) (by simp) ?_
              refine (AllReadyH.cons (o := ?oou08_0) ?hou08_0 ?hsu08_0 AllReadyH.nil)
              case hou08_0 => (simp only [List.getElem?_toArray, List.getElem?_cons_succ, List.getElem?_cons_zero]; rfl)
              case hsu08_0 =>
                intro K hK
                go_simp
                try go_wp2_with fail
                refine hK.out _ _ (by exact (((Upd.refl Non _).then_alloc _).then_drew).cell en fun h => h) (fun hHeld => ?_)
                clear hK K
                try simp only [Act.put, List.setIfInBounds_toArray, List.set_cons_zero, List.set_cons_succ]
                refine wpAnyH_ready (rs := [8]) (by kernel_rfl) (by simp) ?_
                refine (AllReadyH.cons (o := ?oou09_0) ?hou09_0 ?hsu09_0 AllReadyH.nil)
                case hou09_0 => (simp only [List.getElem?_toArray, List.getElem?_cons_succ, List.getElem?_cons_zero]; rfl)
                case hsu09_0 =>
                  intro K hK
                  (refine step_app1 ?ygu0x12 ?ysu0x12 ?yxu0x12 22 ?you0x12 B0 9 (.string ⟨#[]⟩) 1 16 Try.underlying22 hinf.out rfl nv ln ((namesOf L).map txtV) ?yhu0x12 hown.out [.string ⟨xs.toArray⟩] wr.heap.size ?yiu0x12 rfl rfl (txt_one [xs]) q1 q2 q3 ?yku0x12; (case you0x12 => exact rfl); (case ygu0x12 => rfl); (case yhu0x12 => rfl); (case yiu0x12 => rfl))
                  case' yku0x12 => intro v7 w7 ho7 hu7 hf7
                  have hvB : ∀ j, At nv j → B0 ≤ j := fun j hj => own_ge hown.out hj
                  have en7 := hu7.cell (show (wr.drew).cell? _ = _ from en) (fun h => by have h1 : B0 ≤ g5 := hvB _ h; have h2 := hg5.out; omega)
                  have hout7 := hu7.heap (show (wr.drew).heap[z]? = _ from hout) (fun h => by have := hvB _ h; omega)
                  obtain ⟨n7, hn7⟩ : ∃ n7, ln + 1 = n7 := ⟨_, rfl⟩
                  rw [hn7] at ho7
                  obtain ⟨_, a7, c7, rfl, -⟩ := id (has_of_owns ho7)
                  have k0 := (cells_of hout7).1 0
                  have kf := (cells_of hout7).2 0
                  refine hK.out _ _ (by exact en7) (fun hHeld => ?_)
                  clear hK K
                  try simp only [Act.put, List.setIfInBounds_toArray, List.set_cons_zero, List.set_cons_succ]
                  refine wpAnyH_ready (rs := [9]) (by kernel_rfl) (by simp) ?_
                  refine (AllReadyH.cons (o := ?oou010_0) ?hou010_0 ?hsu010_0 AllReadyH.nil)
                  case hou010_0 => (simp only [List.getElem?_toArray, List.getElem?_cons_succ, List.getElem?_cons_zero]; rfl)
                  case hsu010_0 =>
                    intro K hK
                    go_simp
                    try go_wp2_with fail
                    refine hK.out _ _ (by exact en7) (fun hHeld => ?_)
                    clear hK K
                    try simp only [Act.put, List.setIfInBounds_toArray, List.set_cons_zero, List.set_cons_succ]
                    refine wpAnyH_ready (rs := [10]) (by kernel_rfl) (by simp) ?_
                    refine (AllReadyH.cons (o := ?oou011_0) ?hou011_0 ?hsu011_0 AllReadyH.nil)
                    case hou011_0 => (simp only [List.getElem?_toArray, List.getElem?_cons_succ, List.getElem?_cons_zero]; rfl)
                    case hsu011_0 =>
                      intro K hK
                      go_simp
                      try go_wp2_with fail
                      refine hK.out _ _ (by exact (Upd.setCell (S := fun j => j = z) w7 (a := ⟨z, 0, none⟩) rfl _).cell en7 hg5z.out) (fun hHeld => ?_)
                      clear hK K
                      try simp only [Act.put, List.setIfInBounds_toArray, List.set_cons_zero, List.set_cons_succ]
                      refine wpAnyH_done (by kernel_rfl) ?_ _
                      clear hHeld
                      have hu7' := hu7
                      have hupd : Upd (fun j => j = z) w5 (w7.setCell ⟨z, 0, none⟩ (.slice a7 n7 c7)) := (hu.trans hu7' fun j hj h => by have := hvB _ h; omega).then_setCell (p := ⟨z, 0, none⟩) (fun _ => rfl) _
                      have hset := set_blk (j := 0) hout7 (.slice a7 n7 c7)
                      have hPg : PgO B0 (w7.setCell ⟨z, 0, none⟩ (.slice a7 n7 c7)) (.slice a7 n7 c7) pv (E.take (i + 1)) := by
                        rw [ets.out]
                        refine PgO.same (W := w7) ⟨?_, ?_, ?_⟩ (fun j hB hj => Below.heap_setCell _ _ _ _ (by show j ≠ z; omega))
                        · rw [namesOf_snoc]
                          simp only [Bool.false_eq_true, if_false, List.length_append, List.map_append, List.length_cons, List.length_nil, Nat.zero_add, hln, hn7]
                          exact ho7
                        · rw [prefsOf_snoc]
                          simp only [Bool.false_eq_true, if_false, List.append_nil]
                          exact hu7'.owns hO.p fun j hj h => hO.a j h hj
                        · intro j h1 h2
                          rcases hf7 j h1 with h | h
                          · exact hO.a j h h2
                          · have h3 := own_lt hO.p h2; have h4 : wr.heap.size ≤ j := h; omega
                      clear hu7' hu7 hf7 ho7 hout7 k0 kf hown hO hout q1 q2 q3 en7 o0 o1
                      go_wp2_with fail
                      go_roundw
                      case rel => exact ⟨i + 1, by go_num, by omega, by omega, hupd, _, _, hset, hPg⟩
                      case measure => simp [intOf]; omega
            case hsu07_1 =>
              have en' : ((wr.alloc (.cells #[.string ⟨xs.toArray⟩] 9)).drew).cell? ⟨g5, o5 + i * 2, none⟩ = _ := (((Upd.refl Non wr).then_alloc _).then_drew).cell en fun h => h
              have oc' : ((wr.alloc (.cells #[.string ⟨xs.toArray⟩] 9)).drew).cell? ⟨z, 0, none⟩ = some nv := (((Upd.refl Non wr).then_alloc _).then_drew).cell o0 fun h => h
              intro K hK
              go_simp
              try go_wp2_with fail
              refine hK.out _ _ (by exact en') (fun hHeld => ?_)
              clear hK K
              try simp only [Act.put, List.setIfInBounds_toArray, List.set_cons_zero, List.set_cons_succ]
              refine wpAnyH_ready (rs := [1]) (by kernel_rfl) (by simp) ?_
              refine (AllReadyH.cons (o := ?oou013_0) ?hou013_0 ?hsu013_0 AllReadyH.nil)
              case hou013_0 => (simp only [List.getElem?_toArray, List.getElem?_cons_succ, List.getElem?_cons_zero]; rfl)
              case hsu013_0 =>
                intro K hK
                go_simp
                try go_wp2_with fail
                refine hK.out _ _ (by exact en') (fun hHeld => ?_)
                clear hK K
                try simp only [Act.put, List.setIfInBounds_toArray, List.set_cons_zero, List.set_cons_succ]
                refine wpAnyH_ready (rs := [8]) (by kernel_rfl) (by simp) ?_
                refine (AllReadyH.cons (o := ?oou014_0) ?hou014_0 ?hsu014_0 AllReadyH.nil)
                case hou014_0 => (simp only [List.getElem?_toArray, List.getElem?_cons_succ, List.getElem?_cons_zero]; rfl)
                case hsu014_0 =>
                  intro K hK
                  (refine step_app1 ?ygu0x17 ?ysu0x17 ?yxu0x17 22 ?you0x17 B0 9 (.string ⟨#[]⟩) 1 16 Try.underlying22 hinf.out rfl nv ln ((namesOf L).map txtV) ?yhu0x17 hown.out [.string ⟨xs.toArray⟩] wr.heap.size ?yiu0x17 rfl rfl (txt_one [xs]) q1 q2 q3 ?yku0x17; (case you0x17 => exact rfl); (case ygu0x17 => rfl); (case yhu0x17 => rfl); (case yiu0x17 => rfl))
                  case' yku0x17 => intro v7 w7 ho7 hu7 hf7
                  have hvB : ∀ j, At nv j → B0 ≤ j := fun j hj => own_ge hown.out hj
                  have en7 := hu7.cell (show (wr.drew).cell? _ = _ from en) (fun h => by have h1 : B0 ≤ g5 := hvB _ h; have h2 := hg5.out; omega)
                  have hout7 := hu7.heap (show (wr.drew).heap[z]? = _ from hout) (fun h => by have := hvB _ h; omega)
                  obtain ⟨n7, hn7⟩ : ∃ n7, ln + 1 = n7 := ⟨_, rfl⟩
                  rw [hn7] at ho7
                  obtain ⟨_, a7, c7, rfl, -⟩ := id (has_of_owns ho7)
                  have k0 := (cells_of hout7).1 0
                  have kf := (cells_of hout7).2 0
                  refine hK.out _ _ (by exact en7) (fun hHeld => ?_)
                  clear hK K
                  try simp only [Act.put, List.setIfInBounds_toArray, List.set_cons_zero, List.set_cons_succ]
                  refine wpAnyH_ready (rs := [9]) (by kernel_rfl) (by simp) ?_
                  refine (AllReadyH.cons (o := ?oou015_0) ?hou015_0 ?hsu015_0 AllReadyH.nil)
                  case hou015_0 => (simp only [List.getElem?_toArray, List.getElem?_cons_succ, List.getElem?_cons_zero]; rfl)
                  case hsu015_0 =>
                    intro K hK
                    go_simp
                    try go_wp2_with fail
                    refine hK.out _ _ (by exact en7) (fun hHeld => ?_)
                    clear hK K
                    try simp only [Act.put, List.setIfInBounds_toArray, List.set_cons_zero, List.set_cons_succ]
                    refine wpAnyH_ready (rs := [10]) (by kernel_rfl) (by simp) ?_
                    refine (AllReadyH.cons (o := ?oou016_0) ?hou016_0 ?hsu016_0 AllReadyH.nil)
                    case hou016_0 => (simp only [List.getElem?_toArray, List.getElem?_cons_succ, List.getElem?_cons_zero]; rfl)
                    case hsu016_0 =>
                      intro K hK
                      go_simp
                      try go_wp2_with fail
                      refine hK.out _ _ (by exact (Upd.setCell (S := fun j => j = z) w7 (a := ⟨z, 0, none⟩) rfl _).cell en7 hg5z.out) (fun hHeld => ?_)
                      clear hK K
                      try simp only [Act.put, List.setIfInBounds_toArray, List.set_cons_zero, List.set_cons_succ]
                      refine wpAnyH_done (by kernel_rfl) ?_ _
                      clear hHeld
                      have hu7' := hu7
                      have hupd : Upd (fun j => j = z) w5 (w7.setCell ⟨z, 0, none⟩ (.slice a7 n7 c7)) := (hu.trans hu7' fun j hj h => by have := hvB _ h; omega).then_setCell (p := ⟨z, 0, none⟩) (fun _ => rfl) _
                      have hset := set_blk (j := 0) hout7 (.slice a7 n7 c7)
                      have hPg : PgO B0 (w7.setCell ⟨z, 0, none⟩ (.slice a7 n7 c7)) (.slice a7 n7 c7) pv (E.take (i + 1)) := by
                        rw [ets.out]
                        refine PgO.same (W := w7) ⟨?_, ?_, ?_⟩ (fun j hB hj => Below.heap_setCell _ _ _ _ (by show j ≠ z; omega))
                        · rw [namesOf_snoc]
                          simp only [Bool.false_eq_true, if_false, List.length_append, List.map_append, List.length_cons, List.length_nil, Nat.zero_add, hln, hn7]
                          exact ho7
                        · rw [prefsOf_snoc]
                          simp only [Bool.false_eq_true, if_false, List.append_nil]
                          exact hu7'.owns hO.p fun j hj h => hO.a j h hj
                        · intro j h1 h2
                          rcases hf7 j h1 with h | h
                          · exact hO.a j h h2
                          · have h3 := own_lt hO.p h2; have h4 : wr.heap.size ≤ j := h; omega
                      clear hu7' hu7 hf7 ho7 hout7 k0 kf hown hO hout q1 q2 q3 en7 o0 o1
                      go_wp2_with fail
                      go_roundw
                      case rel => exact ⟨i + 1, by go_num, by omega, by omega, hupd, _, _, hset, hPg⟩
                      case measure => simp [intOf]; omega
          | true =>
            obtain ⟨ln, hln⟩ : ∃ ln, (prefsOf L).length = ln := ⟨_, rfl⟩
            have hln5 : ln ≤ 500 := by have := prefsOf_le L; omega
            have hown := hO.p
            rw [hln] at hown
            replace hown := Lib.hid hown
            have q1 : ln + 1 ≤ maxLen := by unfold maxLen; omega
            have q2 : (ln + 1) * 16 ≤ 140737488355328 := by omega
            have q3 : B0 ≤ wr.heap.size := by have := hu.size; omega
            go_wp2_with fail
            refine wp_region_held_drew (S := fun w' => w'.cell? ⟨g5, o5 + i * 2, none⟩ = some (.string ⟨xs.toArray⟩)) (by kernel_rfl) (by exact en) (fun hHeld => ?_)
            (refine wpAnyH_take (i := 0) (oi := ?oi_u11) (v := ?v_u11) ?ho_u11 ?hs_u11 ?hf_u11 ?hr_u11 ?hQ_u11 ?hy_u11 ?hS_u11 ?rest_u11; (case hr_u11 => kernel_rfl); (case hf_u11 => kernel_rfl); (case hs_u11 => kernel_rfl); (case ho_u11 => (simp only [List.getElem?_toArray, List.getElem?_cons_succ, List.getElem?_cons_zero]; rfl)); (case hS_u11 => assumption); (case hQ_u11 => exact fun _ _ _ h => h); (case hy_u11 => (refine Or.inl ⟨by rfl, ?_⟩; (intro w hSw; (try dsimp only at hSw); go_simp) <;> with_reducible rfl)); (try simp only [Act.put, List.setIfInBounds_toArray, List.set_cons_zero, List.set_cons_succ]))
            (refine wpAnyH_take (i := 2) (oi := ?oi_u12) (v := ?v_u12) ?ho_u12 ?hs_u12 ?hf_u12 ?hr_u12 ?hQ_u12 ?hy_u12 ?hS_u12 ?rest_u12; (case hr_u12 => kernel_rfl); (case hf_u12 => kernel_rfl); (case hs_u12 => kernel_rfl); (case ho_u12 => (simp only [List.getElem?_toArray, List.getElem?_cons_succ, List.getElem?_cons_zero]; rfl)); (case hS_u12 => assumption); (case hQ_u12 => exact fun _ _ _ h => h); (case hy_u12 => (refine Or.inl ⟨by rfl, ?_⟩; (intro w hSw; (try dsimp only at hSw); go_simp) <;> with_reducible rfl)); (try simp only [Act.put, List.setIfInBounds_toArray, List.set_cons_zero, List.set_cons_succ]))
            (refine wpAnyH_take (i := 3) (oi := ?oi_u13) (v := ?v_u13) ?ho_u13 ?hs_u13 ?hf_u13 ?hr_u13 ?hQ_u13 ?hy_u13 ?hS_u13 ?rest_u13; (case hr_u13 => kernel_rfl); (case hf_u13 => kernel_rfl); (case hs_u13 => kernel_rfl); (case ho_u13 => (simp only [List.getElem?_toArray, List.getElem?_cons_succ, List.getElem?_cons_zero]; rfl)); (case hS_u13 => assumption); (case hQ_u13 => exact fun _ _ _ h => h); (case hy_u13 => (refine Or.inl ⟨by rfl, ?_⟩; (intro w hSw; (try dsimp only at hSw); go_simp) <;> with_reducible rfl)); (try simp only [Act.put, List.setIfInBounds_toArray, List.set_cons_zero, List.set_cons_succ]))
            (refine wpAnyH_take (i := 4) (oi := ?oi_u14) (v := ?v_u14) ?ho_u14 ?hs_u14 ?hf_u14 ?hr_u14 ?hQ_u14 ?hy_u14 ?hS_u14 ?rest_u14; (case hr_u14 => kernel_rfl); (case hf_u14 => kernel_rfl); (case hs_u14 => kernel_rfl); (case ho_u14 => (simp only [List.getElem?_toArray, List.getElem?_cons_succ, List.getElem?_cons_zero]; rfl)); (case hS_u14 => assumption); (case hQ_u14 => exact fun _ _ _ h => h); (case hy_u14 => (refine Or.inl ⟨by rfl, ?_⟩; (intro w hSw; (try dsimp only at hSw); go_simp) <;> with_reducible rfl)); (try simp only [Act.put, List.setIfInBounds_toArray, List.set_cons_zero, List.set_cons_succ]))
            (refine wpAnyH_take (i := 5) (oi := ?oi_u15) (v := ?v_u15) ?ho_u15 ?hs_u15 ?hf_u15 ?hr_u15 ?hQ_u15 ?hy_u15 ?hS_u15 ?rest_u15; (case hr_u15 => kernel_rfl); (case hf_u15 => kernel_rfl); (case hs_u15 => kernel_rfl); (case ho_u15 => (simp only [List.getElem?_toArray, List.getElem?_cons_succ, List.getElem?_cons_zero]; rfl)); (case hS_u15 => assumption); (case hQ_u15 => exact fun _ _ _ h => h); (case hy_u15 => (refine Or.inl ⟨by rfl, ?_⟩; (intro w hSw; (try dsimp only at hSw); go_simp) <;> with_reducible rfl)); (try simp only [Act.put, List.setIfInBounds_toArray, List.set_cons_zero, List.set_cons_succ]))
            (refine wpAnyH_take (i := 6) (oi := ?oi_u16) (v := ?v_u16) ?ho_u16 ?hs_u16 ?hf_u16 ?hr_u16 ?hQ_u16 ?hy_u16 ?hS_u16 ?rest_u16; (case hr_u16 => kernel_rfl); (case hf_u16 => kernel_rfl); (case hs_u16 => kernel_rfl); (case ho_u16 => (simp only [List.getElem?_toArray, List.getElem?_cons_succ, List.getElem?_cons_zero]; rfl)); (case hS_u16 => assumption); (case hQ_u16 => exact fun _ _ _ h => h); (case hy_u16 => (refine Or.inl ⟨by rfl, ?_⟩; (intro w hSw; (try dsimp only at hSw); go_simp) <;> with_reducible rfl)); (try simp only [Act.put, List.setIfInBounds_toArray, List.set_cons_zero, List.set_cons_succ]))
            refine wpAnyH_ready (rs := [1, 7]) (by kernel_rfl) (by simp) ?_
            refine (AllReadyH.cons (o := ?oou17_0) ?hou17_0 ?hsu17_0 (AllReadyH.cons (o := ?oou17_1) ?hou17_1 ?hsu17_1 AllReadyH.nil))
            case hou17_0 => (simp only [List.getElem?_toArray, List.getElem?_cons_succ, List.getElem?_cons_zero]; rfl)
            case hou17_1 => (simp only [List.getElem?_toArray, List.getElem?_cons_succ, List.getElem?_cons_zero]; rfl)
            case hsu17_0 =>
              intro K hK
              go_simp
              try go_wp2_with fail
              refine hK.out _ _ (by exact en) (fun hHeld => ?_)
              clear hK K
              try simp only [Act.put, List.setIfInBounds_toArray, List.set_cons_zero, List.set_cons_succ]
              refine wpAnyH_ready (rs := [7]) (by kernel_rfl) (by simp) ?_
              refine (AllReadyH.cons (o := ?oou18_0) ?hou18_0 ?hsu18_0 AllReadyH.nil)
              case hou18_0 => (simp only [List.getElem?_toArray, List.getElem?_cons_succ, List.getElem?_cons_zero]; rfl)
              case hsu18_0 =>
                intro K hK
                go_simp
                try go_wp2_with fail
                refine hK.out _ _ (by exact (((Upd.refl Non _).then_alloc _).then_drew).cell en fun h => h) (fun hHeld => ?_)
                clear hK K
                try simp only [Act.put, List.setIfInBounds_toArray, List.set_cons_zero, List.set_cons_succ]
                refine wpAnyH_ready (rs := [8]) (by kernel_rfl) (by simp) ?_
                refine (AllReadyH.cons (o := ?oou19_0) ?hou19_0 ?hsu19_0 AllReadyH.nil)
                case hou19_0 => (simp only [List.getElem?_toArray, List.getElem?_cons_succ, List.getElem?_cons_zero]; rfl)
                case hsu19_0 =>
                  intro K hK
                  (refine step_app1 ?ygu1x12 ?ysu1x12 ?yxu1x12 22 ?you1x12 B0 9 (.string ⟨#[]⟩) 1 16 Try.underlying22 hinf.out rfl pv ln ((prefsOf L).map txtV) ?yhu1x12 hown.out [.string ⟨xs.toArray⟩] wr.heap.size ?yiu1x12 rfl rfl (txt_one [xs]) q1 q2 q3 ?yku1x12; (case you1x12 => exact rfl); (case ygu1x12 => rfl); (case yhu1x12 => rfl); (case yiu1x12 => rfl))
                  case' yku1x12 => intro v7 w7 ho7 hu7 hf7
                  have hvB : ∀ j, At pv j → B0 ≤ j := fun j hj => own_ge hown.out hj
                  have en7 := hu7.cell (show (wr.drew).cell? _ = _ from en) (fun h => by have h1 : B0 ≤ g5 := hvB _ h; have h2 := hg5.out; omega)
                  have hout7 := hu7.heap (show (wr.drew).heap[z]? = _ from hout) (fun h => by have := hvB _ h; omega)
                  obtain ⟨n7, hn7⟩ : ∃ n7, ln + 1 = n7 := ⟨_, rfl⟩
                  rw [hn7] at ho7
                  obtain ⟨_, a7, c7, rfl, -⟩ := id (has_of_owns ho7)
                  have k0 := (cells_of hout7).1 1
                  have kf := (cells_of hout7).2 1
                  refine hK.out _ _ (by exact en7) (fun hHeld => ?_)
                  clear hK K
                  try simp only [Act.put, List.setIfInBounds_toArray, List.set_cons_zero, List.set_cons_succ]
                  refine wpAnyH_ready (rs := [9]) (by kernel_rfl) (by simp) ?_
                  refine (AllReadyH.cons (o := ?oou110_0) ?hou110_0 ?hsu110_0 AllReadyH.nil)
                  case hou110_0 => (simp only [List.getElem?_toArray, List.getElem?_cons_succ, List.getElem?_cons_zero]; rfl)
                  case hsu110_0 =>
                    intro K hK
                    go_simp
                    try go_wp2_with fail
                    refine hK.out _ _ (by exact en7) (fun hHeld => ?_)
                    clear hK K
                    try simp only [Act.put, List.setIfInBounds_toArray, List.set_cons_zero, List.set_cons_succ]
                    refine wpAnyH_ready (rs := [10]) (by kernel_rfl) (by simp) ?_
                    refine (AllReadyH.cons (o := ?oou111_0) ?hou111_0 ?hsu111_0 AllReadyH.nil)
                    case hou111_0 => (simp only [List.getElem?_toArray, List.getElem?_cons_succ, List.getElem?_cons_zero]; rfl)
                    case hsu111_0 =>
                      intro K hK
                      go_simp
                      try go_wp2_with fail
                      refine hK.out _ _ (by exact (Upd.setCell (S := fun j => j = z) w7 (a := ⟨z, 1, none⟩) rfl _).cell en7 hg5z.out) (fun hHeld => ?_)
                      clear hK K
                      try simp only [Act.put, List.setIfInBounds_toArray, List.set_cons_zero, List.set_cons_succ]
                      refine wpAnyH_done (by kernel_rfl) ?_ _
                      clear hHeld
                      have hu7' := hu7
                      have hupd : Upd (fun j => j = z) w5 (w7.setCell ⟨z, 1, none⟩ (.slice a7 n7 c7)) := (hu.trans hu7' fun j hj h => by have := hvB _ h; omega).then_setCell (p := ⟨z, 1, none⟩) (fun _ => rfl) _
                      have hset := set_blk (j := 1) hout7 (.slice a7 n7 c7)
                      have hPg : PgO B0 (w7.setCell ⟨z, 1, none⟩ (.slice a7 n7 c7)) nv (.slice a7 n7 c7) (E.take (i + 1)) := by
                        rw [ets.out]
                        refine PgO.same (W := w7) ⟨?_, ?_, ?_⟩ (fun j hB hj => Below.heap_setCell _ _ _ _ (by show j ≠ z; omega))
                        · rw [namesOf_snoc]
                          simp only [if_true, List.append_nil]
                          exact hu7'.owns hO.n fun j hj h => hO.a j hj h
                        · rw [prefsOf_snoc]
                          simp only [if_true, List.length_append, List.map_append, List.length_cons, List.length_nil, Nat.zero_add, hln, hn7]
                          exact ho7
                        · intro j h1 h2
                          rcases hf7 j h2 with h | h
                          · exact hO.a j h1 h
                          · have h3 := own_lt hO.n h1; have h4 : wr.heap.size ≤ j := h; omega
                      clear hu7' hu7 hf7 ho7 hout7 k0 kf hown hO hout q1 q2 q3 en7 o0 o1
                      go_wp2_with fail
                      go_roundw
                      case rel => exact ⟨i + 1, by go_num, by omega, by omega, hupd, _, _, hset, hPg⟩
                      case measure => simp [intOf]; omega
            case hsu17_1 =>
              have en' : ((wr.alloc (.cells #[.string ⟨xs.toArray⟩] 9)).drew).cell? ⟨g5, o5 + i * 2, none⟩ = _ := (((Upd.refl Non wr).then_alloc _).then_drew).cell en fun h => h
              have oc' : ((wr.alloc (.cells #[.string ⟨xs.toArray⟩] 9)).drew).cell? ⟨z, 1, none⟩ = some pv := (((Upd.refl Non wr).then_alloc _).then_drew).cell o1 fun h => h
              intro K hK
              go_simp
              try go_wp2_with fail
              refine hK.out _ _ (by exact en') (fun hHeld => ?_)
              clear hK K
              try simp only [Act.put, List.setIfInBounds_toArray, List.set_cons_zero, List.set_cons_succ]
              refine wpAnyH_ready (rs := [1]) (by kernel_rfl) (by simp) ?_
              refine (AllReadyH.cons (o := ?oou113_0) ?hou113_0 ?hsu113_0 AllReadyH.nil)
              case hou113_0 => (simp only [List.getElem?_toArray, List.getElem?_cons_succ, List.getElem?_cons_zero]; rfl)
              case hsu113_0 =>
                intro K hK
                go_simp
                try go_wp2_with fail
                refine hK.out _ _ (by exact en') (fun hHeld => ?_)
                clear hK K
                try simp only [Act.put, List.setIfInBounds_toArray, List.set_cons_zero, List.set_cons_succ]
                refine wpAnyH_ready (rs := [8]) (by kernel_rfl) (by simp) ?_
                refine (AllReadyH.cons (o := ?oou114_0) ?hou114_0 ?hsu114_0 AllReadyH.nil)
                case hou114_0 => (simp only [List.getElem?_toArray, List.getElem?_cons_succ, List.getElem?_cons_zero]; rfl)
                case hsu114_0 =>
                  intro K hK
                  (refine step_app1 ?ygu1x17 ?ysu1x17 ?yxu1x17 22 ?you1x17 B0 9 (.string ⟨#[]⟩) 1 16 Try.underlying22 hinf.out rfl pv ln ((prefsOf L).map txtV) ?yhu1x17 hown.out [.string ⟨xs.toArray⟩] wr.heap.size ?yiu1x17 rfl rfl (txt_one [xs]) q1 q2 q3 ?yku1x17; (case you1x17 => exact rfl); (case ygu1x17 => rfl); (case yhu1x17 => rfl); (case yiu1x17 => rfl))
                  case' yku1x17 => intro v7 w7 ho7 hu7 hf7
                  have hvB : ∀ j, At pv j → B0 ≤ j := fun j hj => own_ge hown.out hj
                  have en7 := hu7.cell (show (wr.drew).cell? _ = _ from en) (fun h => by have h1 : B0 ≤ g5 := hvB _ h; have h2 := hg5.out; omega)
                  have hout7 := hu7.heap (show (wr.drew).heap[z]? = _ from hout) (fun h => by have := hvB _ h; omega)
                  obtain ⟨n7, hn7⟩ : ∃ n7, ln + 1 = n7 := ⟨_, rfl⟩
                  rw [hn7] at ho7
                  obtain ⟨_, a7, c7, rfl, -⟩ := id (has_of_owns ho7)
                  have k0 := (cells_of hout7).1 1
                  have kf := (cells_of hout7).2 1
                  refine hK.out _ _ (by exact en7) (fun hHeld => ?_)
                  clear hK K
                  try simp only [Act.put, List.setIfInBounds_toArray, List.set_cons_zero, List.set_cons_succ]
                  refine wpAnyH_ready (rs := [9]) (by kernel_rfl) (by simp) ?_
                  refine (AllReadyH.cons (o := ?oou115_0) ?hou115_0 ?hsu115_0 AllReadyH.nil)
                  case hou115_0 => (simp only [List.getElem?_toArray, List.getElem?_cons_succ, List.getElem?_cons_zero]; rfl)
                  case hsu115_0 =>
                    intro K hK
                    go_simp
                    try go_wp2_with fail
                    refine hK.out _ _ (by exact en7) (fun hHeld => ?_)
                    clear hK K
                    try simp only [Act.put, List.setIfInBounds_toArray, List.set_cons_zero, List.set_cons_succ]
                    refine wpAnyH_ready (rs := [10]) (by kernel_rfl) (by simp) ?_
                    refine (AllReadyH.cons (o := ?oou116_0) ?hou116_0 ?hsu116_0 AllReadyH.nil)
                    case hou116_0 => (simp only [List.getElem?_toArray, List.getElem?_cons_succ, List.getElem?_cons_zero]; rfl)
                    case hsu116_0 =>
                      intro K hK
                      go_simp
                      try go_wp2_with fail
                      refine hK.out _ _ (by exact (Upd.setCell (S := fun j => j = z) w7 (a := ⟨z, 1, none⟩) rfl _).cell en7 hg5z.out) (fun hHeld => ?_)
                      clear hK K
                      try simp only [Act.put, List.setIfInBounds_toArray, List.set_cons_zero, List.set_cons_succ]
                      refine wpAnyH_done (by kernel_rfl) ?_ _
                      clear hHeld
                      have hu7' := hu7
                      have hupd : Upd (fun j => j = z) w5 (w7.setCell ⟨z, 1, none⟩ (.slice a7 n7 c7)) := (hu.trans hu7' fun j hj h => by have := hvB _ h; omega).then_setCell (p := ⟨z, 1, none⟩) (fun _ => rfl) _
                      have hset := set_blk (j := 1) hout7 (.slice a7 n7 c7)
                      have hPg : PgO B0 (w7.setCell ⟨z, 1, none⟩ (.slice a7 n7 c7)) nv (.slice a7 n7 c7) (E.take (i + 1)) := by
                        rw [ets.out]
                        refine PgO.same (W := w7) ⟨?_, ?_, ?_⟩ (fun j hB hj => Below.heap_setCell _ _ _ _ (by show j ≠ z; omega))
                        · rw [namesOf_snoc]
                          simp only [if_true, List.append_nil]
                          exact hu7'.owns hO.n fun j hj h => hO.a j hj h
                        · rw [prefsOf_snoc]
                          simp only [if_true, List.length_append, List.map_append, List.length_cons, List.length_nil, Nat.zero_add, hln, hn7]
                          exact ho7
                        · intro j h1 h2
                          rcases hf7 j h2 with h | h
                          · exact hO.a j h1 h
                          · have h3 := own_lt hO.n h1; have h4 : wr.heap.size ≤ j := h; omega
                      clear hu7' hu7 hf7 ho7 hout7 k0 kf hown hO hout q1 q2 q3 en7 o0 o1
                      go_wp2_with fail
                      go_roundw
                      case rel => exact ⟨i + 1, by go_num, by omega, by omega, hupd, _, _, hset, hPg⟩
                      case measure => simp [intOf]; omega
        · have hi0 : (0 : Int) ≤ (i : Int) := by omega
          by_cases hie2 : en ≤ M
          · obtain rfl : i = en := by omega
            have l1 : ((i : Int) < (i : Int)) = False := eq_false (by omega)
            have l2 : ((M : Int) < (i : Int)) = False := eq_false (by omega)
            have hpg := page_all (E := E) (M := M) (by omega)
            rw [hen] at hpg
            obtain ⟨n1, hn1⟩ : ∃ n1, (namesOf (E.take i)).length = n1 := ⟨_, rfl⟩
            obtain ⟨n2, hn2⟩ : ∃ n2, (prefsOf (E.take i)).length = n2 := ⟨_, rfl⟩
            have hON := hO.n
            have hOP := hO.p
            rw [hn1] at hON
            rw [hn2] at hOP
            obtain ⟨_, a1, d1, rfl, -⟩ := has_of_owns hON
            obtain ⟨_, a2, d2, rfl, -⟩ := has_of_owns hOP
            have hfin : ∀ (x : Str) (b : Bool) w8, w8.heap[w.heap.size]? = some (.cells #[.slice a1 n1 d1, .slice a2 n2 d2, .string ⟨x.toArray⟩, .bool b] 26 (0, 0)) → Upd (fun j => j = z ∨ j = w.heap.size) wr w8 → pageOf E M = ⟨namesOf (E.take i), prefsOf (E.take i), x, b⟩ →
                R (.returned (.tuple #[.agg #[.slice a1 n1 d1, .slice a2 n2 d2, .string ⟨x.toArray⟩, .bool b], .int .i64 0])) w8 := fun x b w8 h8 hu8 hpg => by
              rw [hR'.out, Int.toNat_natCast, hpg]
              refine ⟨_, rfl, ⟨_, _, rfl, ?_, ?_⟩, (hU5.out.trans hu fun j hj e => by omega).trans hu8 fun j hj e => by omega⟩
              · have := has_of_owns (hu8.owns hON fun j hj e => by have := own_ge hON hj; omega)
                show Txts _ _ _
                unfold Txts; rw [hn1]; exact this
              · have := has_of_owns (hu8.owns hOP fun j hj e => by have := own_ge hOP hj; omega)
                show Txts _ _ _
                unfold Txts; rw [hn2]; exact this
            have hbW := hu.heap hbw5.out (by omega)

            have hfn := Lib.hid (fun w8 h8 hu8 => hfin [] false w8 h8 hu8 hpg)
            have o0 := (cells_of hout).1 0
            have o1 := (cells_of hout).1 1
            have o2 := (cells_of hout).1 2
            have o3 := (cells_of hout).1 3
            clear hin hfin hpg hO hON hOP
            go_wp2_with (refine storeB_list rfl 26 _ _ rfl w.heap.size #[.slice a1 n1 d1, .slice a2 n2 d2, .string ⟨#[]⟩, .bool false] _ _ rfl rfl hbW rfl hs4.out (by simp [Value.oneCell']) ?_)
            intro w8 hb8 hu8
            have hF := hfn.out w8 hb8 (hu8.mono fun _ _ h => .inr h)
            have x0 := (cells_of hb8).1 0
            have x1 := (cells_of hb8).1 1
            have x2 := (cells_of hb8).1 2
            have x3 := (cells_of hb8).1 3
            clear hb8 hu8 hbW hfn o0 o1 o2 o3 hout
            go_wp2_with fail
            refine bodyPost_ret (v := .tuple #[.agg #[.slice a1 n1 d1, .slice a2 n2 d2, .string ⟨#[]⟩, .bool false], .int .i64 0]) (by simp [results, Try.results10, go_sem, x0, x1, x2, x3]; try rfl) rfl ?_
            exact hF
          · obtain rfl : i = M := by omega
            have l1 : (i : Int) < (en : Int) := by omega
            have l2 : ((i : Int) < (i : Int)) = False := eq_false (by omega)
            have l3 : (i : Int) < (en : Int) := by omega
            have hpg := page_more (E := E) (M := i) (by omega) hM1
            have hil : i - 1 < E.length := by omega
            have hls : lastS E i = (E[i - 1]).1 := by unfold lastS; rw [if_neg (by omega), List.getD_eq_getElem?_getD, List.getElem?_eq_getElem hil]; rfl
            obtain ⟨g5, o5, e, en0, en1⟩ := hat.out (i - 1) hil
            subst e
            have hgv := hv5 g5 (by simp [At, Value.ownBlock])
            rw [← hls] at en0
            obtain ⟨y, hy⟩ : ∃ y, lastS E i = y := ⟨_, rfl⟩
            rw [hy] at en0 hpg
            unfold txtV at en0
            have en2 := hu.cell en0 (by dsimp only; omega)
            have w1' := Lib.hid (IntWalk.i64_in ((i : Int) - 1) ⟨by omega, by omega⟩)
            have w3' : ((i : Int) - 1).toNat = i - 1 := by omega
            have w4' : (0 : Int) ≤ (i : Int) - 1 := by omega
            have w5' : (i : Int) - 1 < (en : Int) := by omega
            obtain ⟨n1, hn1⟩ : ∃ n1, (namesOf (E.take i)).length = n1 := ⟨_, rfl⟩
            obtain ⟨n2, hn2⟩ : ∃ n2, (prefsOf (E.take i)).length = n2 := ⟨_, rfl⟩
            have hON := hO.n
            have hOP := hO.p
            rw [hn1] at hON
            rw [hn2] at hOP
            obtain ⟨_, a1, d1, rfl, -⟩ := has_of_owns hON
            obtain ⟨_, a2, d2, rfl, -⟩ := has_of_owns hOP
            have hfin : ∀ (x : Str) (b : Bool) w8, w8.heap[w.heap.size]? = some (.cells #[.slice a1 n1 d1, .slice a2 n2 d2, .string ⟨x.toArray⟩, .bool b] 26 (0, 0)) → Upd (fun j => j = z ∨ j = w.heap.size) wr w8 → pageOf E i = ⟨namesOf (E.take i), prefsOf (E.take i), x, b⟩ →
                R (.returned (.tuple #[.agg #[.slice a1 n1 d1, .slice a2 n2 d2, .string ⟨x.toArray⟩, .bool b], .int .i64 0])) w8 := fun x b w8 h8 hu8 hpg => by
              rw [hR'.out, Int.toNat_natCast, hpg]
              refine ⟨_, rfl, ⟨_, _, rfl, ?_, ?_⟩, (hU5.out.trans hu fun j hj e => by omega).trans hu8 fun j hj e => by omega⟩
              · have := has_of_owns (hu8.owns hON fun j hj e => by have := own_ge hON hj; omega)
                show Txts _ _ _
                unfold Txts; rw [hn1]; exact this
              · have := has_of_owns (hu8.owns hOP fun j hj e => by have := own_ge hOP hj; omega)
                show Txts _ _ _
                unfold Txts; rw [hn2]; exact this
            have hbW := hu.heap hbw5.out (by omega)

            have hfn := Lib.hid (fun w8 h8 hu8 => hfin y true w8 h8 hu8 hpg)
            have o0 := (cells_of hout).1 0
            have o1 := (cells_of hout).1 1
            have o2 := (cells_of hout).1 2
            have o3 := (cells_of hout).1 3
            have gg := (cells_of hout).2
            have hus : Upd (fun j => j = z) wr ((wr.setCell ⟨z, 3, none⟩ (.bool true)).setCell ⟨z, 2, none⟩ (.string ⟨y.toArray⟩)) := (((Upd.refl (fun j => j = z) wr).then_setCell (p := ⟨z, 3, none⟩) (fun _ => rfl) _).then_setCell (p := ⟨z, 2, none⟩) (fun _ => rfl) _)
            have hbW2 := hus.heap hbW (by omega)
            have hset := set_blk (j := 2) (v := .string ⟨y.toArray⟩) (set_blk (j := 3) (v := .bool true) hout)
            have p0 := (cells_of hset).1 0
            have p1 := (cells_of hset).1 1
            have p2 := (cells_of hset).1 2
            have p3 := (cells_of hset).1 3
            have en3 := (((Upd.refl (fun j => j = z) wr).then_setCell (p := ⟨z, 3, none⟩) (fun _ => rfl) (.bool true))).cell en2 (by dsimp only; omega)
            replace hus := Lib.hid hus
            clear hin hfin hpg hO hON hOP hset hout en0 en1
            replace hbW2 := Lib.hid hbW2
            replace w1' := w1'.out
            go_wp2_with (refine storeB_list rfl 26 _ _ rfl w.heap.size #[.slice a1 n1 d1, .slice a2 n2 d2, .string ⟨y.toArray⟩, .bool true] _ _ rfl rfl hbW2.out rfl hs4.out (by simp [Value.oneCell']) ?_)
            intro w8 hb8 hu8
            have hF := hfn.out w8 hb8 ((hus.out.mono fun _ _ h => .inl h).trans hu8 fun _ _ h => .inr h)
            have x0 := (cells_of hb8).1 0
            have x1 := (cells_of hb8).1 1
            have x2 := (cells_of hb8).1 2
            have x3 := (cells_of hb8).1 3
            clear hb8 hu8 hbW hbW2 hfn o0 o1 o2 o3 p0 p1 p2 p3 hus gg w1' en3 en2
            go_wp2_with fail
            refine bodyPost_ret (v := .tuple #[.agg #[.slice a1 n1 d1, .slice a2 n2 d2, .string ⟨y.toArray⟩, .bool true], .int .i64 0]) (by simp [results, Try.results10, go_sem, x0, x1, x2, x3]; try rfl) rfl ?_
            exact hF
theorem rPage (nv : Value) (l : List Str) (p d a : Str) (m : Int) (w : World) (hT : Txts w nv l) (hn : l.length ≤ 500) (hs : ∀ s ∈ l, s.length ≤ 140737488355328) (hm : -9223372036854775808 ≤ m) :
    Calls Try.prog 10 #[nv, txtV p, txtV d, txtV a, .int .i64 m] w (PageRet w (page p d a m l) (pageE p d a m l)) := by
  by_cases hc : ckOk p d a m
  · exact rPageOk nv l p d a m w hT hn hs hc
  · have h := rPageArg nv l p d a m w hT hm hc
    have e1 : page p d a m l = Pg.none := by unfold page; rw [if_neg (fun h => hc h.1)]
    have e2 : pageE p d a m l = 2 := by unfold pageE; rw [if_neg hc]
    rw [e1, e2]; exact h
end Go.Proofs.Ytphdclafeijpnaa
