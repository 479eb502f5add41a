/- The walk over ambrylaw20.sorted. -/
import Derived.Test.YtphdclafeijpnaaLsS
import Derived.Test.YtphdclafeijpnaaLsM
import Derived.Test.YtphdclafeijpnaaLibB
import Derived.Test.YtphdclafeijpnaaLibH
namespace Go.Amb
theorem asc_ins {o : List Str} {x : Str} {j : Nat} (ha : Asc o) (hj : j ≤ o.length) (h1 : ∀ i (h : i < o.length), i < j → Op.bytesLess o[i] x = true) (h2 : j = o.length ∨ ∃ h : j < o.length, Op.bytesLess o[j] x = false ∧ o[j] ≠ x) :
    Asc ((o.take j ++ [x]) ++ o.drop j) := by
  have hb : ∀ y ∈ o.take j, Op.bytesLess y x = true := fun y hy => by
    obtain ⟨i, hi, rfl⟩ := List.mem_iff_getElem.1 hy
    rw [List.length_take] at hi
    rw [List.getElem_take]
    exact h1 i (by omega) (by omega)
  have hd : ∀ y ∈ o.drop j, Op.bytesLess x y = true := fun y hy => by
    rcases h2 with rfl | ⟨hj', h3, h4⟩
    · rw [List.drop_length] at hy; cases hy
    · have h5 : Op.bytesLess x o[j] = true := bl_trich h3 h4
      rw [List.drop_eq_getElem_cons hj'] at hy
      rcases List.mem_cons.1 hy with rfl | hy
      · exact h5
      · have h6 : (o.drop j).Pairwise (fun x y => Op.bytesLess x y = true) := ha.sublist (List.drop_sublist j o)
        rw [List.drop_eq_getElem_cons hj'] at h6
        exact bl_trans _ _ _ h5 ((List.pairwise_cons.1 h6).1 y hy)
  have hto : (o.take j).Pairwise (fun x y => Op.bytesLess x y = true) := ha.sublist (List.take_sublist j o)
  have hdo : (o.drop j).Pairwise (fun x y => Op.bytesLess x y = true) := ha.sublist (List.drop_sublist j o)
  unfold Asc
  rw [List.append_assoc, List.pairwise_append]
  refine ⟨hto, List.pairwise_cons.2 ⟨hd, hdo⟩, fun a ha' b hb' => ?_⟩
  rcases List.mem_cons.1 hb' with rfl | hb'
  · exact hb a ha'
  · exact bl_trans _ _ _ (hb a ha') (hd b hb')
end Go.Amb
namespace Go.Proofs.Ytphdclafeijpnaa
open Go.RowKit Go.Amb Go.Shelf
set_option linter.unusedVariables false
set_option linter.unusedSimpArgs false
set_option maxRecDepth 100000
theorem txts_take {w : World} {g off c : Nat} {o : List Str} (h : Txts w (.slice (some ⟨g, off, none⟩) o.length c) o) (j : Nat) (hj : j ≤ o.length) : Has w 1 (.slice (some ⟨g, off, none⟩) j c) j ((o.take j).map txtV) := by
  obtain ⟨_, a, c', e, h1, h2, h3⟩ := h
  injection e with e1 e2 e3
  subst e1 e3
  refine ⟨by simp; omega, _, _, rfl, by omega, h2, ?_⟩
  by_cases h0 : j = 0
  · exact .inl h0
  · obtain ⟨g', off', e, hc⟩ := h3.resolve_left (by omega)
    injection e with e
    injection e with e1 e2
    subst e1 e2
    refine .inr ⟨_, _, rfl, fun i u hu => hc i u ?_⟩
    rw [List.map_take] at hu
    rw [List.getElem?_take] at hu
    split at hu
    · exact hu
    · cases hu
theorem txts_drop {w : World} {g off c : Nat} {o : List Str} (h : Txts w (.slice (some ⟨g, off, none⟩) o.length c) o) (j : Nat) (hj : j ≤ o.length) : Has w 1 (.slice (some ⟨g, off + j, none⟩) (o.length - j) (c - j)) (o.length - j) ((o.drop j).map txtV) := by
  obtain ⟨_, a, c', e, h1, h2, h3⟩ := h
  injection e with e1 e2 e3
  subst e1 e3
  refine ⟨by simp, _, _, rfl, by omega, by omega, ?_⟩
  by_cases h0 : o.length - j = 0
  · exact .inl h0
  · obtain ⟨g', off', e, hc⟩ := h3.resolve_left (by omega)
    injection e with e
    injection e with e1 e2
    subst e1 e2
    refine .inr ⟨_, _, rfl, fun i u hu => ?_⟩
    rw [List.map_drop, List.getElem?_drop] at hu
    rw [Nat.add_assoc]
    exact hc (j + i) u hu
def SortRet (w : World) (l : List Str) (en : Ending) (w' : World) : Prop := ∃ v o, en = .returned v ∧ Txts w' v o ∧ (∀ k, At v k → w.heap.size ≤ k ∧ k < w'.heap.size) ∧ Asc o ∧ (∀ s ∈ o, s ∈ l) ∧ o.length ≤ l.length ∧ Upd Non w w'
set_option maxHeartbeats 4000000 in
theorem lSorted (nv : Value) (l : List Str) (w : World) (hT : Txts w nv l) (hl : l.length ≤ 500) : Calls Try.prog 12 #[nv] w (SortRet w l) := by
  obtain ⟨R, hR⟩ : ∃ R, R = SortRet w l := ⟨_, rfl⟩
  rw [← hR]
  replace hR := Lib.hid hR
  obtain ⟨va, vc, rfl, -⟩ := txts_at hT
  obtain ⟨ln, hln⟩ : ∃ ln, l.length = ln := ⟨_, rfl⟩
  have hT' : Hid (Txts w (.slice va ln vc) l) := Lib.hid (by rw [← hln]; exact hT)
  rw [hln] at hl ⊢
  have hinf := Lib.hid (show (Try.prog.info? 9).map (fun i => (i.zero, i.size, i.bytes)) = some (some (.string ⟨#[]⟩), 1, 16) from rfl)
  clear hT
  go_enter Try.func12, Try.ntmps12
  go_wp2_with fail
  go_loopw [3, 4] (fun ov iv wr => ∃ (i : Nat) (o : List Str), iv = .int .i64 (i : Int) ∧ i ≤ ln ∧ o.length ≤ i ∧ wr.ownsRow w.heap.size 9 1 ov o.length (o.map txtV) ∧ Hid (Asc o ∧ ∀ s ∈ o, s ∈ l) ∧ Upd Non w wr) (fun _ iv _ => ln - (intOf iv).toNat)
  case atStart => exact ⟨0, [], rfl, by omega, Nat.le_refl _, World.ownsRow_nil _ _ _ _, Lib.hid ⟨.nil, fun s h => by cases h⟩, Upd.refl _ _⟩
  case round =>
    obtain ⟨i, o, rfl, hi, hoi, hO, hA, hu⟩ := hrel
    obtain ⟨w1, hw1⟩ : ∃ w1, w1 = wr := ⟨_, rfl⟩
    subst hw1
    obtain ⟨_, oa, oc, rfl, hcap, hcm, -⟩ := id (has_of_owns hO)
    obtain ⟨n, hn⟩ : ∃ n, o.length = n := ⟨_, rfl⟩
    rw [hn] at hcap
    replace hcap := Lib.hid hcap
    replace hcm := Lib.hid hcm
    rw [hn] at hO hoi ⊢
    by_cases hil : i < ln
    · have hil' : (i : Int) < (ln : Int) := by omega
      have hi0 : (0 : Int) ≤ (i : Int) := by omega
      obtain ⟨_, _, e, hat⟩ := txts_at (hT'.out.non hu)
      injection e with e1 e2 e3
      subst e1
      clear e2 e3
      obtain ⟨g, off, rfl, hx⟩ := hat i (by omega)
      obtain ⟨x, hxe⟩ : ∃ x, l[i]'(by omega) = x := ⟨_, rfl⟩
      rw [hxe] at hx
      have hxm : Hid (x ∈ l) := Lib.hid (hxe ▸ List.getElem_mem _)
      replace hxe := Lib.hid hxe
      have x0 : w1.cell? ⟨g, off + i, none⟩ = some (.string ⟨x.toArray⟩) := hx
      have hOT : Hid (Txts w1 (.slice oa n oc) o) := Lib.hid (by have := has_of_owns hO; unfold Txts; rw [hn]; exact this)
      clear hat hx
      replace hO := Lib.hid hO
      replace hu := Lib.hid hu
      go_wp2_with fail
      go_loopw [5] (fun jv wx => ∃ (j : Nat), jv = .int .i64 (j : Int) ∧ j ≤ n ∧ Hid (∀ a (h : a < o.length), a < j → Op.bytesLess o[a] x = true) ∧ Upd Non w1 wx) (fun jv _ => n - (intOf jv).toNat)
      case atStart => exact ⟨0, rfl, by omega, Lib.hid (fun a h h' => by omega), Upd.refl _ _⟩
      case round =>
        obtain ⟨j, rfl, hj, hless, hux⟩ := hrel
        have x1 := hux.cell x0 fun h => h
        have hj0 : (0 : Int) ≤ (j : Int) := by omega
        by_cases hjn : j < n
        · have hjn' : (j : Int) < (n : Int) := by omega
          obtain ⟨_, _, e, hat⟩ := txts_at (hOT.out.non hux)
          injection e with e1 e2 e3
          subst e1
          clear e2 e3
          obtain ⟨g5, o5, rfl, hy⟩ := hat j (by omega)
          obtain ⟨y, hye⟩ : ∃ y, o[j]'(by omega) = y := ⟨_, rfl⟩
          rw [hye] at hy
          unfold txtV at hy
          clear hat
          by_cases hlt : Op.bytesLess y x = true
          · have hnx := Lib.hid (show ∀ a (h : a < o.length), a < j + 1 → Op.bytesLess o[a] x = true from fun a h h' => by
              rcases Nat.lt_succ_iff_lt_or_eq.1 h' with h' | rfl
              · exact hless.out a h h'
              · rw [hye]; exact hlt)
            replace hye := Lib.hid hye
            go_wp2_with fail
            go_quiet (fail)
            go_wp2_with fail
            go_roundw
            case rel => exact ⟨j + 1, by go_num, by omega, Lib.hid hnx.out, hux.then_drewN _⟩
            case measure => simp [intOf]; omega
          · have hlt' : Op.bytesLess y x = false := by simpa using hlt
            clear hlt
            by_cases hyx : y = x
            · subst hyx
              have q1 : Op.bytesLess y y = false := hlt'
              replace hye := Lib.hid hye
              go_wp2_with fail
              go_quiet (fail)
              go_wp2_with fail
              go_quiet (fail)
              go_wp2_with fail
              go_roundw
              case rel =>
                refine ⟨i + 1, o, by go_num, by omega, by omega, ?_, hA, (hu.out.trans hux fun _ _ h => h).then_drewN _⟩
                rw [hn]; exact (Upd.drewN Non _ _).owns (hux.owns hO.out fun _ _ h => h) fun _ _ h => h
              case measure => simp [intOf]; omega
            · have q1 : (y = x) = False := eq_false hyx
              have q2 : (y == x) = false := by simp [hyx]
              have q3 : (x = y) = False := eq_false (fun e => hyx e.symm)
              have q4 : (x == y) = false := by simp; exact fun e => hyx e.symm
              have hins := Lib.hid (asc_ins hA.out.1 (by omega) hless.out (.inr ⟨by omega, by rw [hye]; exact hlt', by rw [hye]; exact hyx⟩))
              replace hye := Lib.hid hye
              replace hyx := Lib.hid hyx
              go_wp2_with fail
              go_quiet (fail)
              obtain ⟨m1, hm1⟩ : ∃ m1, m1 = nq := ⟨_, rfl⟩
              subst hm1
              go_wp2_with fail
              go_quiet (fail)
              go_wp2_with fail
              obtain ⟨w8, hw8⟩ : ∃ w8, (wr.drewN m1).drewN nq = w8 := ⟨_, rfl⟩
              have hu8 : Upd Non w1 w8 := by rw [← hw8]; exact (hux.then_drewN _).then_drewN _
              rw [hw8]
              clear hw8 hux hy x1
              have x8 := hu8.cell x0 fun h => h
              have hOT8 := hOT.out.non hu8
              have hjc : j ≤ oc := by have := hcap.out; omega
              have hjl : j ≤ o.length := by omega
              have hout1 := txts_take (by rw [hn]; exact hOT8) j hjl
              have hout2 := txts_drop (by rw [hn]; exact hOT8) j hjl
              rw [hn] at hout2
              replace hout1 := Lib.hid hout1
              replace hout2 := Lib.hid hout2
              clear hOT8
              have z1 : (oc - j = 0) = False := eq_false (by have := hcap.out; omega)
              have z2 : (oc = j) = False := eq_false (by have := hcap.out; omega)
              have z3 : (j = oc) = False := eq_false (by have := hcap.out; omega)
              refine wp_region_held_drew (S := fun w' => Upd Non w8 w') (by kernel_rfl) (by exact Upd.drew _ _) (fun hHeld => ?_)
              (refine wpAnyH_take (i := 1) (oi := ?oi_a1) (v := ?v_a1) ?ho_a1 ?hs_a1 ?hf_a1 ?hr_a1 ?hQ_a1 ?hy_a1 ?hS_a1 ?rest_a1; (case hr_a1 => kernel_rfl); (case hf_a1 => kernel_rfl); (case hs_a1 => kernel_rfl); (case ho_a1 => (simp only [List.getElem?_toArray, List.getElem?_cons_succ, List.getElem?_cons_zero]; rfl)); (case hS_a1 => assumption); (case hQ_a1 => exact fun _ _ _ h => h); (case hy_a1 => (refine Or.inl ⟨by rfl, ?_⟩; (intro w hSw; (try dsimp only at hSw); go_simp) <;> with_reducible rfl)); (try simp only [Act.put, List.setIfInBounds_toArray, List.set_cons_zero, List.set_cons_succ]))
              (refine wpAnyH_take (i := 2) (oi := ?oi_a2) (v := ?v_a2) ?ho_a2 ?hs_a2 ?hf_a2 ?hr_a2 ?hQ_a2 ?hy_a2 ?hS_a2 ?rest_a2; (case hr_a2 => kernel_rfl); (case hf_a2 => kernel_rfl); (case hs_a2 => kernel_rfl); (case ho_a2 => (simp only [List.getElem?_toArray, List.getElem?_cons_succ, List.getElem?_cons_zero]; rfl)); (case hS_a2 => assumption); (case hQ_a2 => exact fun _ _ _ h => h); (case hy_a2 => (refine Or.inl ⟨by rfl, ?_⟩; (intro w hSw; (try dsimp only at hSw); go_simp) <;> with_reducible rfl)); (try simp only [Act.put, List.setIfInBounds_toArray, List.set_cons_zero, List.set_cons_succ]))
              (refine wpAnyH_take (i := 3) (oi := ?oi_a3) (v := ?v_a3) ?ho_a3 ?hs_a3 ?hf_a3 ?hr_a3 ?hQ_a3 ?hy_a3 ?hS_a3 ?rest_a3; (case hr_a3 => kernel_rfl); (case hf_a3 => kernel_rfl); (case hs_a3 => kernel_rfl); (case ho_a3 => (simp only [List.getElem?_toArray, List.getElem?_cons_succ, List.getElem?_cons_zero]; rfl)); (case hS_a3 => assumption); (case hQ_a3 => exact fun _ _ _ h => h); (case hy_a3 => (refine Or.inl ⟨by rfl, ?_⟩; (intro w hSw; (try dsimp only at hSw); go_simp) <;> with_reducible rfl)); (try simp only [Act.put, List.setIfInBounds_toArray, List.set_cons_zero, List.set_cons_succ]))
              (refine wpAnyH_take (i := 5) (oi := ?oi_a4) (v := ?v_a4) ?ho_a4 ?hs_a4 ?hf_a4 ?hr_a4 ?hQ_a4 ?hy_a4 ?hS_a4 ?rest_a4; (case hr_a4 => kernel_rfl); (case hf_a4 => kernel_rfl); (case hs_a4 => kernel_rfl); (case ho_a4 => (simp only [List.getElem?_toArray, List.getElem?_cons_succ, List.getElem?_cons_zero]; rfl)); (case hS_a4 => assumption); (case hQ_a4 => exact fun _ _ _ h => h); (case hy_a4 => (refine Or.inl ⟨by rfl, ?_⟩; (intro w hSw; (try dsimp only at hSw); go_simp) <;> with_reducible rfl)); (try simp only [Act.put, List.setIfInBounds_toArray, List.set_cons_zero, List.set_cons_succ]))
              (refine wpAnyH_take (i := 6) (oi := ?oi_a5) (v := ?v_a5) ?ho_a5 ?hs_a5 ?hf_a5 ?hr_a5 ?hQ_a5 ?hy_a5 ?hS_a5 ?rest_a5; (case hr_a5 => kernel_rfl); (case hf_a5 => kernel_rfl); (case hs_a5 => kernel_rfl); (case ho_a5 => (simp only [List.getElem?_toArray, List.getElem?_cons_succ, List.getElem?_cons_zero]; rfl)); (case hS_a5 => assumption); (case hQ_a5 => exact fun _ _ _ h => h); (case hy_a5 => (refine Or.inl ⟨by rfl, ?_⟩; (intro w hSw; (try dsimp only at hSw); go_simp) <;> with_reducible rfl)); (try simp only [Act.put, List.setIfInBounds_toArray, List.set_cons_zero, List.set_cons_succ]))
              (refine wpAnyH_take (i := 7) (oi := ?oi_a6) (v := ?v_a6) ?ho_a6 ?hs_a6 ?hf_a6 ?hr_a6 ?hQ_a6 ?hy_a6 ?hS_a6 ?rest_a6; (case hr_a6 => kernel_rfl); (case hf_a6 => kernel_rfl); (case hs_a6 => kernel_rfl); (case ho_a6 => (simp only [List.getElem?_toArray, List.getElem?_cons_succ, List.getElem?_cons_zero]; rfl)); (case hS_a6 => assumption); (case hQ_a6 => exact fun _ _ _ h => h); (case hy_a6 => (refine Or.inl ⟨by rfl, ?_⟩; (intro w hSw; (try dsimp only at hSw); go_simp) <;> with_reducible rfl)); (try simp only [Act.put, List.setIfInBounds_toArray, List.set_cons_zero, List.set_cons_succ]))
              (refine wpAnyH_take (i := 11) (oi := ?oi_a7) (v := ?v_a7) ?ho_a7 ?hs_a7 ?hf_a7 ?hr_a7 ?hQ_a7 ?hy_a7 ?hS_a7 ?rest_a7; (case hr_a7 => kernel_rfl); (case hf_a7 => kernel_rfl); (case hs_a7 => kernel_rfl); (case ho_a7 => (simp only [List.getElem?_toArray, List.getElem?_cons_succ, List.getElem?_cons_zero]; rfl)); (case hS_a7 => assumption); (case hQ_a7 => exact fun _ _ _ h => h); (case hy_a7 => (refine Or.inl ⟨by rfl, ?_⟩; (intro w hSw; (try dsimp only at hSw); go_simp) <;> with_reducible rfl)); (try simp only [Act.put, List.setIfInBounds_toArray, List.set_cons_zero, List.set_cons_succ]))
              (refine wpAnyH_take (i := 12) (oi := ?oi_a8) (v := ?v_a8) ?ho_a8 ?hs_a8 ?hf_a8 ?hr_a8 ?hQ_a8 ?hy_a8 ?hS_a8 ?rest_a8; (case hr_a8 => kernel_rfl); (case hf_a8 => kernel_rfl); (case hs_a8 => kernel_rfl); (case ho_a8 => (simp only [List.getElem?_toArray, List.getElem?_cons_succ, List.getElem?_cons_zero]; rfl)); (case hS_a8 => assumption); (case hQ_a8 => exact fun _ _ _ h => h); (case hy_a8 => (refine Or.inl ⟨by rfl, ?_⟩; (intro w hSw; (try dsimp only at hSw); go_simp) <;> with_reducible rfl)); (try simp only [Act.put, List.setIfInBounds_toArray, List.set_cons_zero, List.set_cons_succ]))
              (refine wpAnyH_take (i := 13) (oi := ?oi_a9) (v := ?v_a9) ?ho_a9 ?hs_a9 ?hf_a9 ?hr_a9 ?hQ_a9 ?hy_a9 ?hS_a9 ?rest_a9; (case hr_a9 => kernel_rfl); (case hf_a9 => kernel_rfl); (case hs_a9 => kernel_rfl); (case ho_a9 => (simp only [List.getElem?_toArray, List.getElem?_cons_succ, List.getElem?_cons_zero]; rfl)); (case hS_a9 => assumption); (case hQ_a9 => exact fun _ _ _ h => h); (case hy_a9 => (refine Or.inl ⟨by rfl, ?_⟩; (intro w hSw; (try dsimp only at hSw); go_simp) <;> with_reducible rfl)); (try simp only [Act.put, List.setIfInBounds_toArray, List.set_cons_zero, List.set_cons_succ]))
              (refine wpAnyH_take (i := 8) (oi := ?oi_a10) (v := ?v_a10) ?ho_a10 ?hs_a10 ?hf_a10 ?hr_a10 ?hQ_a10 ?hy_a10 ?hS_a10 ?rest_a10; (case hr_a10 => kernel_rfl); (case hf_a10 => kernel_rfl); (case hs_a10 => kernel_rfl); (case ho_a10 => (simp only [List.getElem?_toArray, List.getElem?_cons_succ, List.getElem?_cons_zero]; rfl)); (case hS_a10 => assumption); (case hQ_a10 => exact fun _ _ _ h => h); (case hy_a10 => (refine Or.inl ⟨by rfl, ?_⟩; (intro w hSw; have x1 := Upd.cell hSw x8 (fun h => h); go_simp) <;> with_reducible rfl)); (try simp only [Act.put, List.setIfInBounds_toArray, List.set_cons_zero, List.set_cons_succ]))
              have U := Upd.drew Non w8
              refine wpAnyH_ready (rs := [0, 9]) (by kernel_rfl) (by simp) ?_
              refine (AllReadyH.cons (o := ?ooa11_0) ?hoa11_0 ?hsa11_0 (AllReadyH.cons (o := ?ooa11_1) ?hoa11_1 ?hsa11_1 AllReadyH.nil))
              case hoa11_0 => (simp only [List.getElem?_toArray, List.getElem?_cons_succ, List.getElem?_cons_zero]; rfl)
              case hoa11_1 => (simp only [List.getElem?_toArray, List.getElem?_cons_succ, List.getElem?_cons_zero]; rfl)
              case hsa11_0 =>
                intro K hK
                go_simp
                try go_wp2_with fail
                refine hK.out _ _ (by exact U.then_alloc _) (fun hHeld => ?_)
                clear hK K hHeld
                try simp only [Act.put, List.setIfInBounds_toArray, List.set_cons_zero, List.set_cons_succ]
                refine anyH_opaque (fun w' => Upd Non w8 w' ∧ w'.ownsRow w8.heap.size 9 1 (.slice (some ⟨w8.heap.size, 0, none⟩) 0 0) 0 [] ∧ w8.heap.size < w'.heap.size) (by exact ⟨U.then_alloc _, World.ownsRow_lit (size := 1) w8 #[] 0 U.size (Nat.zero_le _) rfl, by simp⟩) ?_
                rintro v1 ⟨U, L, l0⟩
                refine wpAnyH_ready (rs := [4, 9]) (by kernel_rfl) (by simp) ?_
                refine (AllReadyH.cons (o := ?ooa12_0) ?hoa12_0 ?hsa12_0 (AllReadyH.cons (o := ?ooa12_1) ?hoa12_1 ?hsa12_1 AllReadyH.nil))
                case hoa12_0 => (simp only [List.getElem?_toArray, List.getElem?_cons_succ, List.getElem?_cons_zero]; rfl)
                case hoa12_1 => (simp only [List.getElem?_toArray, List.getElem?_cons_succ, List.getElem?_cons_zero]; rfl)
                case hsa12_0 =>
                  intro K hK
                  have hs4 := Src.ofHas (P := Try.prog) (tx := 22) Try.underlying22 (hout1.out.non U) (txt_one _)
                  (refine step_app ?ygasx13 ?ysasx13 ?yxasx13 22 22 ?yoasx13 w8.heap.size 9 (.string ⟨#[]⟩) 1 16 Try.underlying22 hinf.out rfl (.slice (some ⟨w8.heap.size, 0, none⟩) 0 0) 0 [] ?yhasx13 L (.slice (some ⟨g5, o5, none⟩) j oc) j ((o.take j).map txtV) ?yiasx13 hs4 (by unfold maxLen; omega) (by omega) U.size ?ykasx13; (case yoasx13 => exact rfl); (case ygasx13 => rfl); (case yhasx13 => rfl); (case yiasx13 => rfl))
                  case' ykasx13 => intro v w5 ho5 hu5 hf5
                  rw [Nat.zero_add, List.nil_append] at ho5
                  have U5 : Upd Non w8 w5 := U.trans hu5 (fun b hb h => by have := own_ge L h; omega)
                  refine hK.out _ _ (by exact U5) (fun hHeld => ?_)
                  clear hK K hHeld
                  try simp only [Act.put, List.setIfInBounds_toArray, List.set_cons_zero, List.set_cons_succ]
                  refine anyH_opaque (fun w' => Upd Non w8 w' ∧ w'.ownsRow w8.heap.size 9 1 v j ((o.take j).map txtV)) (by exact ⟨U5, ho5⟩) ?_
                  rintro v2 ⟨U, L⟩
                  clear hs4 ho5 hu5 hf5 U5
                  refine wpAnyH_ready (rs := [9]) (by kernel_rfl) (by simp) ?_
                  refine (AllReadyH.cons (o := ?ooa14_0) ?hoa14_0 ?hsa14_0 AllReadyH.nil)
                  case hoa14_0 => (simp only [List.getElem?_toArray, List.getElem?_cons_succ, List.getElem?_cons_zero]; rfl)
                  case hsa14_0 =>
                    intro K hK
                    go_simp
                    try go_wp2_with fail
                    refine hK.out _ _ (by exact U.then_alloc _) (fun hHeld => ?_)
                    clear hK K hHeld
                    try simp only [Act.put, List.setIfInBounds_toArray, List.set_cons_zero, List.set_cons_succ]
                    refine anyH_opaque (fun w' => Upd Non w8 w' ∧ w'.ownsRow w8.heap.size 9 1 v j ((o.take j).map txtV) ∧ Has w' 1 (.slice (some ⟨v2.heap.size, 0, none⟩) 1 1) 1 [txtV x] ∧ v2.heap.size < w'.heap.size) (by exact ⟨U.then_alloc _, L.alloc _, (by first | exact has_new v2 [txtV x] _ 1 1 rfl (by decide) | exact (has_new v2 [txtV x] _ 1 1 rfl (by decide)).non (Upd.drew _ _)), by simp⟩) ?_
                    rintro v3 ⟨U, L, B, lB⟩
                    refine wpAnyH_ready (rs := [10]) (by kernel_rfl) (by simp) ?_
                    refine (AllReadyH.cons (o := ?ooa15_0) ?hoa15_0 ?hsa15_0 AllReadyH.nil)
                    case hoa15_0 => (simp only [List.getElem?_toArray, List.getElem?_cons_succ, List.getElem?_cons_zero]; rfl)
                    case hsa15_0 =>
                      intro K hK
                      have hs5 := Src.ofHas (P := Try.prog) (tx := 22) Try.underlying22 B (txt_one [x])
                      (refine step_app ?ygasx16 ?ysasx16 ?yxasx16 22 22 ?yoasx16 w8.heap.size 9 (.string ⟨#[]⟩) 1 16 Try.underlying22 hinf.out rfl v j ((o.take j).map txtV) ?yhasx16 L (.slice (some ⟨v2.heap.size, 0, none⟩) 1 1) 1 [txtV x] ?yiasx16 hs5 (by unfold maxLen; omega) (by omega) U.size ?ykasx16; (case yoasx16 => exact rfl); (case ygasx16 => rfl); (case yhasx16 => rfl); (case yiasx16 => rfl))
                      case' ykasx16 => intro u w6 ho6 hu6 hf6
                      have U6 : Upd Non w8 w6 := U.trans hu6 (fun b hb h => by have := own_ge L h; omega)
                      refine hK.out _ _ (by exact U6) (fun hHeld => ?_)
                      clear hK K hHeld
                      try simp only [Act.put, List.setIfInBounds_toArray, List.set_cons_zero, List.set_cons_succ]
                      clear hs5 hu6 hf6 L U B
                      refine wpAnyH_ready (rs := [14]) (by kernel_rfl) (by simp) ?_
                      refine (AllReadyH.cons (o := ?ooa17_0) ?hoa17_0 ?hsa17_0 AllReadyH.nil)
                      case hoa17_0 => (simp only [List.getElem?_toArray, List.getElem?_cons_succ, List.getElem?_cons_zero]; rfl)
                      case hsa17_0 =>
                        intro K hK
                        have hs6 := Src.ofHas (P := Try.prog) (tx := 22) Try.underlying22 (hout2.out.non U6) (txt_one _)
                        (refine step_app ?ygasx18 ?ysasx18 ?yxasx18 22 22 ?yoasx18 w8.heap.size 9 (.string ⟨#[]⟩) 1 16 Try.underlying22 hinf.out rfl u (j + 1) ((o.take j).map txtV ++ [txtV x]) ?yhasx18 ho6 (.slice (some ⟨g5, o5 + j, none⟩) (n - j) (oc - j)) (n - j) ((o.drop j).map txtV) ?yiasx18 hs6 (by unfold maxLen; omega) (by omega) U6.size ?ykasx18; (case yoasx18 => exact rfl); (case ygasx18 => rfl); (case yhasx18 => rfl); (case yiasx18 => rfl))
                        case' ykasx18 => intro z w7 ho7 hu7 hf7
                        have U7 : Upd Non w8 w7 := U6.trans hu7 (fun b hb h => by have := own_ge ho6 h; omega)
                        refine hK.out _ _ (by exact U7) (fun hHeld => ?_)
                        clear hK K hHeld
                        try simp only [Act.put, List.setIfInBounds_toArray, List.set_cons_zero, List.set_cons_succ]
                        clear hs6 hu7 hf7 ho6 U6
                        (refine wpAnyH_take (i := 15) (oi := ?oi_a19) (v := ?v_a19) ?ho_a19 ?hs_a19 ?hf_a19 ?hr_a19 ?hQ_a19 ?hy_a19 ?hS_a19 ?rest_a19; (case hr_a19 => kernel_rfl); (case hf_a19 => kernel_rfl); (case hs_a19 => kernel_rfl); (case ho_a19 => (simp only [List.getElem?_toArray, List.getElem?_cons_succ, List.getElem?_cons_zero]; rfl)); (case hS_a19 => assumption); (case hQ_a19 => exact fun _ _ _ h => h); (case hy_a19 => (refine Or.inl ⟨by rfl, ?_⟩; (intro w hSw; (try dsimp only at hSw); go_simp) <;> with_reducible rfl)); (try simp only [Act.put, List.setIfInBounds_toArray, List.set_cons_zero, List.set_cons_succ]))
                        refine wpAnyH_done (by kernel_rfl) ?_ _
                        have hol : ((o.take j ++ [x]) ++ o.drop j).length = n + 1 := by (simp <;> omega)
                        have ho9 : w7.ownsRow w.heap.size 9 1 z ((o.take j ++ [x]) ++ o.drop j).length (((o.take j ++ [x]) ++ o.drop j).map txtV) := by
                          rw [show j + 1 + (n - j) = n + 1 by omega, show (o.take j).map txtV ++ [txtV x] ++ (o.drop j).map txtV = ((o.take j ++ [x]) ++ o.drop j).map txtV by simp] at ho7
                          rw [hol]
                          exact owns_mono ho7 fun b hb => Nat.le_trans (hu.out.trans hu8 fun _ _ h => h).size (own_ge ho7 hb)
                        have hu9 := (hu.out.trans hu8 fun _ _ h => h).trans U7 fun _ _ h => h
                        have hA9 := Lib.hid (show Asc ((o.take j ++ [x]) ++ o.drop j) ∧ ∀ s ∈ (o.take j ++ [x]) ++ o.drop j, s ∈ l from ⟨hins.out, fun s hs => by
                          rw [List.append_assoc, List.mem_append] at hs
                          rcases hs with hs | hs
                          · exact hA.out.2 s (List.mem_of_mem_take hs)
                          · rcases List.mem_cons.1 hs with rfl | hs
                            · exact hxm.out
                            · exact hA.out.2 s (List.mem_of_mem_drop hs)⟩)
                        clear ho7 U7 hout1 hout2 hO hOT hu8 x8 x0 hu
                        go_wp2_with fail
                        go_roundw
                        case rel => exact ⟨i + 1, _, by go_num, by omega, by rw [hol]; omega, ho9, hA9, hu9⟩
                        case measure => simp [intOf]; omega
                case hsa12_1 =>
                  intro K hK
                  go_simp
                  try go_wp2_with fail
                  refine hK.out _ _ (by exact U.then_alloc _) (fun hHeld => ?_)
                  clear hK K hHeld
                  try simp only [Act.put, List.setIfInBounds_toArray, List.set_cons_zero, List.set_cons_succ]
                  refine anyH_opaque (fun w' => Upd Non w8 w' ∧ w'.ownsRow w8.heap.size 9 1 (.slice (some ⟨w8.heap.size, 0, none⟩) 0 0) 0 [] ∧ v1.heap.size ≠ w8.heap.size ∧ Has w' 1 (.slice (some ⟨v1.heap.size, 0, none⟩) 1 1) 1 [txtV x] ∧ v1.heap.size < w'.heap.size) (by exact ⟨U.then_alloc _, L.alloc _, Nat.ne_of_gt l0, (by first | exact has_new v1 [txtV x] _ 1 1 rfl (by decide) | exact (has_new v1 [txtV x] _ 1 1 rfl (by decide)).non (Upd.drew _ _)), by simp⟩) ?_
                  rintro v4 ⟨U, L, ne, B, lB⟩
                  refine wpAnyH_ready (rs := [4]) (by kernel_rfl) (by simp) ?_
                  refine (AllReadyH.cons (o := ?ooa20_0) ?hoa20_0 ?hsa20_0 AllReadyH.nil)
                  case hoa20_0 => (simp only [List.getElem?_toArray, List.getElem?_cons_succ, List.getElem?_cons_zero]; rfl)
                  case hsa20_0 =>
                    intro K hK
                    have hs4 := Src.ofHas (P := Try.prog) (tx := 22) Try.underlying22 (hout1.out.non U) (txt_one _)
                    (refine step_app ?ygasx21 ?ysasx21 ?yxasx21 22 22 ?yoasx21 w8.heap.size 9 (.string ⟨#[]⟩) 1 16 Try.underlying22 hinf.out rfl (.slice (some ⟨w8.heap.size, 0, none⟩) 0 0) 0 [] ?yhasx21 L (.slice (some ⟨g5, o5, none⟩) j oc) j ((o.take j).map txtV) ?yiasx21 hs4 (by unfold maxLen; omega) (by omega) U.size ?ykasx21; (case yoasx21 => exact rfl); (case ygasx21 => rfl); (case yhasx21 => rfl); (case yiasx21 => rfl))
                    case' ykasx21 => intro v w5 ho5 hu5 hf5
                    rw [Nat.zero_add, List.nil_append] at ho5
                    have U5 : Upd Non w8 w5 := U.trans hu5 (fun b hb h => by have := own_ge L h; omega)
                    refine hK.out _ _ (by exact U5) (fun hHeld => ?_)
                    clear hK K hHeld
                    try simp only [Act.put, List.setIfInBounds_toArray, List.set_cons_zero, List.set_cons_succ]
                    refine anyH_opaque (fun w' => Upd Non w8 w' ∧ w'.ownsRow w8.heap.size 9 1 v j ((o.take j).map txtV) ∧ Has w' 1 (.slice (some ⟨v1.heap.size, 0, none⟩) 1 1) 1 [txtV x]) (by exact ⟨U5, ho5, B.upd hu5 (fun b h1 h2 => ne (by simp [At, Value.ownBlock] at h1 h2; omega))⟩) ?_
                    rintro v5 ⟨U, L, B⟩
                    clear hs4 ho5 hu5 hf5 U5
                    refine wpAnyH_ready (rs := [10]) (by kernel_rfl) (by simp) ?_
                    refine (AllReadyH.cons (o := ?ooa22_0) ?hoa22_0 ?hsa22_0 AllReadyH.nil)
                    case hoa22_0 => (simp only [List.getElem?_toArray, List.getElem?_cons_succ, List.getElem?_cons_zero]; rfl)
                    case hsa22_0 =>
                      intro K hK
                      have hs5 := Src.ofHas (P := Try.prog) (tx := 22) Try.underlying22 B (txt_one [x])
                      (refine step_app ?ygasx23 ?ysasx23 ?yxasx23 22 22 ?yoasx23 w8.heap.size 9 (.string ⟨#[]⟩) 1 16 Try.underlying22 hinf.out rfl v j ((o.take j).map txtV) ?yhasx23 L (.slice (some ⟨v1.heap.size, 0, none⟩) 1 1) 1 [txtV x] ?yiasx23 hs5 (by unfold maxLen; omega) (by omega) U.size ?ykasx23; (case yoasx23 => exact rfl); (case ygasx23 => rfl); (case yhasx23 => rfl); (case yiasx23 => rfl))
                      case' ykasx23 => intro u w6 ho6 hu6 hf6
                      have U6 : Upd Non w8 w6 := U.trans hu6 (fun b hb h => by have := own_ge L h; omega)
                      refine hK.out _ _ (by exact U6) (fun hHeld => ?_)
                      clear hK K hHeld
                      try simp only [Act.put, List.setIfInBounds_toArray, List.set_cons_zero, List.set_cons_succ]
                      clear hs5 hu6 hf6 L U B
                      refine wpAnyH_ready (rs := [14]) (by kernel_rfl) (by simp) ?_
                      refine (AllReadyH.cons (o := ?ooa24_0) ?hoa24_0 ?hsa24_0 AllReadyH.nil)
                      case hoa24_0 => (simp only [List.getElem?_toArray, List.getElem?_cons_succ, List.getElem?_cons_zero]; rfl)
                      case hsa24_0 =>
                        intro K hK
                        have hs6 := Src.ofHas (P := Try.prog) (tx := 22) Try.underlying22 (hout2.out.non U6) (txt_one _)
                        (refine step_app ?ygasx25 ?ysasx25 ?yxasx25 22 22 ?yoasx25 w8.heap.size 9 (.string ⟨#[]⟩) 1 16 Try.underlying22 hinf.out rfl u (j + 1) ((o.take j).map txtV ++ [txtV x]) ?yhasx25 ho6 (.slice (some ⟨g5, o5 + j, none⟩) (n - j) (oc - j)) (n - j) ((o.drop j).map txtV) ?yiasx25 hs6 (by unfold maxLen; omega) (by omega) U6.size ?ykasx25; (case yoasx25 => exact rfl); (case ygasx25 => rfl); (case yhasx25 => rfl); (case yiasx25 => rfl))
                        case' ykasx25 => intro z w7 ho7 hu7 hf7
                        have U7 : Upd Non w8 w7 := U6.trans hu7 (fun b hb h => by have := own_ge ho6 h; omega)
                        refine hK.out _ _ (by exact U7) (fun hHeld => ?_)
                        clear hK K hHeld
                        try simp only [Act.put, List.setIfInBounds_toArray, List.set_cons_zero, List.set_cons_succ]
                        clear hs6 hu7 hf7 ho6 U6
                        (refine wpAnyH_take (i := 15) (oi := ?oi_a26) (v := ?v_a26) ?ho_a26 ?hs_a26 ?hf_a26 ?hr_a26 ?hQ_a26 ?hy_a26 ?hS_a26 ?rest_a26; (case hr_a26 => kernel_rfl); (case hf_a26 => kernel_rfl); (case hs_a26 => kernel_rfl); (case ho_a26 => (simp only [List.getElem?_toArray, List.getElem?_cons_succ, List.getElem?_cons_zero]; rfl)); (case hS_a26 => assumption); (case hQ_a26 => exact fun _ _ _ h => h); (case hy_a26 => (refine Or.inl ⟨by rfl, ?_⟩; (intro w hSw; (try dsimp only at hSw); go_simp) <;> with_reducible rfl)); (try simp only [Act.put, List.setIfInBounds_toArray, List.set_cons_zero, List.set_cons_succ]))
                        refine wpAnyH_done (by kernel_rfl) ?_ _
                        have hol : ((o.take j ++ [x]) ++ o.drop j).length = n + 1 := by (simp <;> omega)
                        have ho9 : w7.ownsRow w.heap.size 9 1 z ((o.take j ++ [x]) ++ o.drop j).length (((o.take j ++ [x]) ++ o.drop j).map txtV) := by
                          rw [show j + 1 + (n - j) = n + 1 by omega, show (o.take j).map txtV ++ [txtV x] ++ (o.drop j).map txtV = ((o.take j ++ [x]) ++ o.drop j).map txtV by simp] at ho7
                          rw [hol]
                          exact owns_mono ho7 fun b hb => Nat.le_trans (hu.out.trans hu8 fun _ _ h => h).size (own_ge ho7 hb)
                        have hu9 := (hu.out.trans hu8 fun _ _ h => h).trans U7 fun _ _ h => h
                        have hA9 := Lib.hid (show Asc ((o.take j ++ [x]) ++ o.drop j) ∧ ∀ s ∈ (o.take j ++ [x]) ++ o.drop j, s ∈ l from ⟨hins.out, fun s hs => by
                          rw [List.append_assoc, List.mem_append] at hs
                          rcases hs with hs | hs
                          · exact hA.out.2 s (List.mem_of_mem_take hs)
                          · rcases List.mem_cons.1 hs with rfl | hs
                            · exact hxm.out
                            · exact hA.out.2 s (List.mem_of_mem_drop hs)⟩)
                        clear ho7 U7 hout1 hout2 hO hOT hu8 x8 x0 hu
                        go_wp2_with fail
                        go_roundw
                        case rel => exact ⟨i + 1, _, by go_num, by omega, by rw [hol]; omega, ho9, hA9, hu9⟩
                        case measure => simp [intOf]; omega
              case hsa11_1 =>
                intro K hK
                go_simp
                try go_wp2_with fail
                refine hK.out _ _ (by exact U.then_alloc _) (fun hHeld => ?_)
                clear hK K hHeld
                try simp only [Act.put, List.setIfInBounds_toArray, List.set_cons_zero, List.set_cons_succ]
                refine anyH_opaque (fun w' => Upd Non w8 w' ∧ Has w' 1 (.slice (some ⟨w8.heap.size, 0, none⟩) 1 1) 1 [txtV x] ∧ w8.heap.size < w'.heap.size) (by exact ⟨U.then_alloc _, (by first | exact has_new w8 [txtV x] _ 1 1 rfl (by decide) | exact (has_new w8 [txtV x] _ 1 1 rfl (by decide)).non (Upd.drew _ _)), by simp⟩) ?_
                rintro v6 ⟨U, B, lB⟩
                refine wpAnyH_ready (rs := [0]) (by kernel_rfl) (by simp) ?_
                refine (AllReadyH.cons (o := ?ooa27_0) ?hoa27_0 ?hsa27_0 AllReadyH.nil)
                case hoa27_0 => (simp only [List.getElem?_toArray, List.getElem?_cons_succ, List.getElem?_cons_zero]; rfl)
                case hsa27_0 =>
                  intro K hK
                  go_simp
                  try go_wp2_with fail
                  refine hK.out _ _ (by exact U.then_alloc _) (fun hHeld => ?_)
                  clear hK K hHeld
                  try simp only [Act.put, List.setIfInBounds_toArray, List.set_cons_zero, List.set_cons_succ]
                  refine anyH_opaque (fun w' => Upd Non w8 w' ∧ w'.ownsRow w8.heap.size 9 1 (.slice (some ⟨v6.heap.size, 0, none⟩) 0 0) 0 [] ∧ Has w' 1 (.slice (some ⟨w8.heap.size, 0, none⟩) 1 1) 1 [txtV x] ∧ w8.heap.size ≠ v6.heap.size) (by exact ⟨U.then_alloc _, World.ownsRow_lit (size := 1) v6 #[] 0 U.size (Nat.zero_le _) rfl, (by first | exact B.non (Upd.alloc _ _ _) | exact (B.non (Upd.alloc _ _ _)).non (Upd.drew _ _)), Nat.ne_of_lt lB⟩) ?_
                  rintro v7 ⟨U, L, B, ne⟩
                  refine wpAnyH_ready (rs := [4]) (by kernel_rfl) (by simp) ?_
                  refine (AllReadyH.cons (o := ?ooa28_0) ?hoa28_0 ?hsa28_0 AllReadyH.nil)
                  case hoa28_0 => (simp only [List.getElem?_toArray, List.getElem?_cons_succ, List.getElem?_cons_zero]; rfl)
                  case hsa28_0 =>
                    intro K hK
                    have hs4 := Src.ofHas (P := Try.prog) (tx := 22) Try.underlying22 (hout1.out.non U) (txt_one _)
                    (refine step_app ?ygasx29 ?ysasx29 ?yxasx29 22 22 ?yoasx29 w8.heap.size 9 (.string ⟨#[]⟩) 1 16 Try.underlying22 hinf.out rfl (.slice (some ⟨v6.heap.size, 0, none⟩) 0 0) 0 [] ?yhasx29 L (.slice (some ⟨g5, o5, none⟩) j oc) j ((o.take j).map txtV) ?yiasx29 hs4 (by unfold maxLen; omega) (by omega) U.size ?ykasx29; (case yoasx29 => exact rfl); (case ygasx29 => rfl); (case yhasx29 => rfl); (case yiasx29 => rfl))
                    case' ykasx29 => intro v w5 ho5 hu5 hf5
                    rw [Nat.zero_add, List.nil_append] at ho5
                    have U5 : Upd Non w8 w5 := U.trans hu5 (fun b hb h => by have := own_ge L h; omega)
                    refine hK.out _ _ (by exact U5) (fun hHeld => ?_)
                    clear hK K hHeld
                    try simp only [Act.put, List.setIfInBounds_toArray, List.set_cons_zero, List.set_cons_succ]
                    refine anyH_opaque (fun w' => Upd Non w8 w' ∧ w'.ownsRow w8.heap.size 9 1 v j ((o.take j).map txtV) ∧ Has w' 1 (.slice (some ⟨w8.heap.size, 0, none⟩) 1 1) 1 [txtV x]) (by exact ⟨U5, ho5, B.upd hu5 (fun b h1 h2 => ne (by simp [At, Value.ownBlock] at h1 h2; omega))⟩) ?_
                    rintro v8 ⟨U, L, B⟩
                    clear hs4 ho5 hu5 hf5 U5
                    refine wpAnyH_ready (rs := [10]) (by kernel_rfl) (by simp) ?_
                    refine (AllReadyH.cons (o := ?ooa30_0) ?hoa30_0 ?hsa30_0 AllReadyH.nil)
                    case hoa30_0 => (simp only [List.getElem?_toArray, List.getElem?_cons_succ, List.getElem?_cons_zero]; rfl)
                    case hsa30_0 =>
                      intro K hK
                      have hs5 := Src.ofHas (P := Try.prog) (tx := 22) Try.underlying22 B (txt_one [x])
                      (refine step_app ?ygasx31 ?ysasx31 ?yxasx31 22 22 ?yoasx31 w8.heap.size 9 (.string ⟨#[]⟩) 1 16 Try.underlying22 hinf.out rfl v j ((o.take j).map txtV) ?yhasx31 L (.slice (some ⟨w8.heap.size, 0, none⟩) 1 1) 1 [txtV x] ?yiasx31 hs5 (by unfold maxLen; omega) (by omega) U.size ?ykasx31; (case yoasx31 => exact rfl); (case ygasx31 => rfl); (case yhasx31 => rfl); (case yiasx31 => rfl))
                      case' ykasx31 => intro u w6 ho6 hu6 hf6
                      have U6 : Upd Non w8 w6 := U.trans hu6 (fun b hb h => by have := own_ge L h; omega)
                      refine hK.out _ _ (by exact U6) (fun hHeld => ?_)
                      clear hK K hHeld
                      try simp only [Act.put, List.setIfInBounds_toArray, List.set_cons_zero, List.set_cons_succ]
                      clear hs5 hu6 hf6 L U B
                      refine wpAnyH_ready (rs := [14]) (by kernel_rfl) (by simp) ?_
                      refine (AllReadyH.cons (o := ?ooa32_0) ?hoa32_0 ?hsa32_0 AllReadyH.nil)
                      case hoa32_0 => (simp only [List.getElem?_toArray, List.getElem?_cons_succ, List.getElem?_cons_zero]; rfl)
                      case hsa32_0 =>
                        intro K hK
                        have hs6 := Src.ofHas (P := Try.prog) (tx := 22) Try.underlying22 (hout2.out.non U6) (txt_one _)
                        (refine step_app ?ygasx33 ?ysasx33 ?yxasx33 22 22 ?yoasx33 w8.heap.size 9 (.string ⟨#[]⟩) 1 16 Try.underlying22 hinf.out rfl u (j + 1) ((o.take j).map txtV ++ [txtV x]) ?yhasx33 ho6 (.slice (some ⟨g5, o5 + j, none⟩) (n - j) (oc - j)) (n - j) ((o.drop j).map txtV) ?yiasx33 hs6 (by unfold maxLen; omega) (by omega) U6.size ?ykasx33; (case yoasx33 => exact rfl); (case ygasx33 => rfl); (case yhasx33 => rfl); (case yiasx33 => rfl))
                        case' ykasx33 => intro z w7 ho7 hu7 hf7
                        have U7 : Upd Non w8 w7 := U6.trans hu7 (fun b hb h => by have := own_ge ho6 h; omega)
                        refine hK.out _ _ (by exact U7) (fun hHeld => ?_)
                        clear hK K hHeld
                        try simp only [Act.put, List.setIfInBounds_toArray, List.set_cons_zero, List.set_cons_succ]
                        clear hs6 hu7 hf7 ho6 U6
                        (refine wpAnyH_take (i := 15) (oi := ?oi_a34) (v := ?v_a34) ?ho_a34 ?hs_a34 ?hf_a34 ?hr_a34 ?hQ_a34 ?hy_a34 ?hS_a34 ?rest_a34; (case hr_a34 => kernel_rfl); (case hf_a34 => kernel_rfl); (case hs_a34 => kernel_rfl); (case ho_a34 => (simp only [List.getElem?_toArray, List.getElem?_cons_succ, List.getElem?_cons_zero]; rfl)); (case hS_a34 => assumption); (case hQ_a34 => exact fun _ _ _ h => h); (case hy_a34 => (refine Or.inl ⟨by rfl, ?_⟩; (intro w hSw; (try dsimp only at hSw); go_simp) <;> with_reducible rfl)); (try simp only [Act.put, List.setIfInBounds_toArray, List.set_cons_zero, List.set_cons_succ]))
                        refine wpAnyH_done (by kernel_rfl) ?_ _
                        have hol : ((o.take j ++ [x]) ++ o.drop j).length = n + 1 := by (simp <;> omega)
                        have ho9 : w7.ownsRow w.heap.size 9 1 z ((o.take j ++ [x]) ++ o.drop j).length (((o.take j ++ [x]) ++ o.drop j).map txtV) := by
                          rw [show j + 1 + (n - j) = n + 1 by omega, show (o.take j).map txtV ++ [txtV x] ++ (o.drop j).map txtV = ((o.take j ++ [x]) ++ o.drop j).map txtV by simp] at ho7
                          rw [hol]
                          exact owns_mono ho7 fun b hb => Nat.le_trans (hu.out.trans hu8 fun _ _ h => h).size (own_ge ho7 hb)
                        have hu9 := (hu.out.trans hu8 fun _ _ h => h).trans U7 fun _ _ h => h
                        have hA9 := Lib.hid (show Asc ((o.take j ++ [x]) ++ o.drop j) ∧ ∀ s ∈ (o.take j ++ [x]) ++ o.drop j, s ∈ l from ⟨hins.out, fun s hs => by
                          rw [List.append_assoc, List.mem_append] at hs
                          rcases hs with hs | hs
                          · exact hA.out.2 s (List.mem_of_mem_take hs)
                          · rcases List.mem_cons.1 hs with rfl | hs
                            · exact hxm.out
                            · exact hA.out.2 s (List.mem_of_mem_drop hs)⟩)
                        clear ho7 U7 hout1 hout2 hO hOT hu8 x8 x0 hu
                        go_wp2_with fail
                        go_roundw
                        case rel => exact ⟨i + 1, _, by go_num, by omega, by rw [hol]; omega, ho9, hA9, hu9⟩
                        case measure => simp [intOf]; omega
        · obtain rfl : j = n := by omega
          have hjn' : ((j : Int) < (j : Int)) = False := eq_false (by omega)
          have hins := Lib.hid (asc_ins hA.out.1 (by omega) hless.out (.inl hn.symm))
          have hcap' := hcap.out
          rcases hO.out.2 with ⟨hnil, -⟩ | ⟨g5, cap5, cur5, hsl, -, -, hc1, -⟩
          · injection hnil with e1 e2 e3
            subst e1 e2 e3
            obtain rfl : o = [] := List.length_eq_zero_iff.1 hn
            go_wp2_with fail
            go_quiet (fail)
            obtain ⟨m1, hm1⟩ : ∃ m1, m1 = nq := ⟨_, rfl⟩
            subst hm1
            go_wp2_with fail
            go_quiet (fail)
            go_wp2_with fail
            obtain ⟨w8, hw8⟩ : ∃ w8, (wr.drewN m1).drewN nq = w8 := ⟨_, rfl⟩
            have hu8 : Upd Non w1 w8 := by rw [← hw8]; exact (hux.then_drewN _).then_drewN _
            rw [hw8]
            clear hw8 hux x1
            have x8 := hu8.cell x0 fun h => h
            have hout1 : Hid (Has w8 1 (.slice none 0 0) 0 ((([] : List Str).take 0).map txtV)) := Lib.hid (Has.nil w8 1)
            have hout2 : Hid (Has w8 1 (.slice none 0 0) 0 ((([] : List Str).drop 0).map txtV)) := Lib.hid (Has.nil w8 1)
            refine wp_region_held_drew (S := fun w' => Upd Non w8 w') (by kernel_rfl) (by exact Upd.drew _ _) (fun hHeld => ?_)
            (refine wpAnyH_take (i := 1) (oi := ?oi_b1) (v := ?v_b1) ?ho_b1 ?hs_b1 ?hf_b1 ?hr_b1 ?hQ_b1 ?hy_b1 ?hS_b1 ?rest_b1; (case hr_b1 => kernel_rfl); (case hf_b1 => kernel_rfl); (case hs_b1 => kernel_rfl); (case ho_b1 => (simp only [List.getElem?_toArray, List.getElem?_cons_succ, List.getElem?_cons_zero]; rfl)); (case hS_b1 => assumption); (case hQ_b1 => exact fun _ _ _ h => h); (case hy_b1 => (refine Or.inl ⟨by rfl, ?_⟩; (intro w hSw; (try dsimp only at hSw); go_simp) <;> with_reducible rfl)); (try simp only [Act.put, List.setIfInBounds_toArray, List.set_cons_zero, List.set_cons_succ]))
            (refine wpAnyH_take (i := 2) (oi := ?oi_b2) (v := ?v_b2) ?ho_b2 ?hs_b2 ?hf_b2 ?hr_b2 ?hQ_b2 ?hy_b2 ?hS_b2 ?rest_b2; (case hr_b2 => kernel_rfl); (case hf_b2 => kernel_rfl); (case hs_b2 => kernel_rfl); (case ho_b2 => (simp only [List.getElem?_toArray, List.getElem?_cons_succ, List.getElem?_cons_zero]; rfl)); (case hS_b2 => assumption); (case hQ_b2 => exact fun _ _ _ h => h); (case hy_b2 => (refine Or.inl ⟨by rfl, ?_⟩; (intro w hSw; (try dsimp only at hSw); go_simp) <;> with_reducible rfl)); (try simp only [Act.put, List.setIfInBounds_toArray, List.set_cons_zero, List.set_cons_succ]))
            (refine wpAnyH_take (i := 3) (oi := ?oi_b3) (v := ?v_b3) ?ho_b3 ?hs_b3 ?hf_b3 ?hr_b3 ?hQ_b3 ?hy_b3 ?hS_b3 ?rest_b3; (case hr_b3 => kernel_rfl); (case hf_b3 => kernel_rfl); (case hs_b3 => kernel_rfl); (case ho_b3 => (simp only [List.getElem?_toArray, List.getElem?_cons_succ, List.getElem?_cons_zero]; rfl)); (case hS_b3 => assumption); (case hQ_b3 => exact fun _ _ _ h => h); (case hy_b3 => (refine Or.inl ⟨by rfl, ?_⟩; (intro w hSw; (try dsimp only at hSw); go_simp) <;> with_reducible rfl)); (try simp only [Act.put, List.setIfInBounds_toArray, List.set_cons_zero, List.set_cons_succ]))
            (refine wpAnyH_take (i := 5) (oi := ?oi_b4) (v := ?v_b4) ?ho_b4 ?hs_b4 ?hf_b4 ?hr_b4 ?hQ_b4 ?hy_b4 ?hS_b4 ?rest_b4; (case hr_b4 => kernel_rfl); (case hf_b4 => kernel_rfl); (case hs_b4 => kernel_rfl); (case ho_b4 => (simp only [List.getElem?_toArray, List.getElem?_cons_succ, List.getElem?_cons_zero]; rfl)); (case hS_b4 => assumption); (case hQ_b4 => exact fun _ _ _ h => h); (case hy_b4 => (refine Or.inl ⟨by rfl, ?_⟩; (intro w hSw; (try dsimp only at hSw); go_simp) <;> with_reducible rfl)); (try simp only [Act.put, List.setIfInBounds_toArray, List.set_cons_zero, List.set_cons_succ]))
            (refine wpAnyH_take (i := 6) (oi := ?oi_b5) (v := ?v_b5) ?ho_b5 ?hs_b5 ?hf_b5 ?hr_b5 ?hQ_b5 ?hy_b5 ?hS_b5 ?rest_b5; (case hr_b5 => kernel_rfl); (case hf_b5 => kernel_rfl); (case hs_b5 => kernel_rfl); (case ho_b5 => (simp only [List.getElem?_toArray, List.getElem?_cons_succ, List.getElem?_cons_zero]; rfl)); (case hS_b5 => assumption); (case hQ_b5 => exact fun _ _ _ h => h); (case hy_b5 => (refine Or.inl ⟨by rfl, ?_⟩; (intro w hSw; (try dsimp only at hSw); go_simp) <;> with_reducible rfl)); (try simp only [Act.put, List.setIfInBounds_toArray, List.set_cons_zero, List.set_cons_succ]))
            (refine wpAnyH_take (i := 7) (oi := ?oi_b6) (v := ?v_b6) ?ho_b6 ?hs_b6 ?hf_b6 ?hr_b6 ?hQ_b6 ?hy_b6 ?hS_b6 ?rest_b6; (case hr_b6 => kernel_rfl); (case hf_b6 => kernel_rfl); (case hs_b6 => kernel_rfl); (case ho_b6 => (simp only [List.getElem?_toArray, List.getElem?_cons_succ, List.getElem?_cons_zero]; rfl)); (case hS_b6 => assumption); (case hQ_b6 => exact fun _ _ _ h => h); (case hy_b6 => (refine Or.inl ⟨by rfl, ?_⟩; (intro w hSw; (try dsimp only at hSw); go_simp) <;> with_reducible rfl)); (try simp only [Act.put, List.setIfInBounds_toArray, List.set_cons_zero, List.set_cons_succ]))
            (refine wpAnyH_take (i := 11) (oi := ?oi_b7) (v := ?v_b7) ?ho_b7 ?hs_b7 ?hf_b7 ?hr_b7 ?hQ_b7 ?hy_b7 ?hS_b7 ?rest_b7; (case hr_b7 => kernel_rfl); (case hf_b7 => kernel_rfl); (case hs_b7 => kernel_rfl); (case ho_b7 => (simp only [List.getElem?_toArray, List.getElem?_cons_succ, List.getElem?_cons_zero]; rfl)); (case hS_b7 => assumption); (case hQ_b7 => exact fun _ _ _ h => h); (case hy_b7 => (refine Or.inl ⟨by rfl, ?_⟩; (intro w hSw; (try dsimp only at hSw); go_simp) <;> with_reducible rfl)); (try simp only [Act.put, List.setIfInBounds_toArray, List.set_cons_zero, List.set_cons_succ]))
            (refine wpAnyH_take (i := 12) (oi := ?oi_b8) (v := ?v_b8) ?ho_b8 ?hs_b8 ?hf_b8 ?hr_b8 ?hQ_b8 ?hy_b8 ?hS_b8 ?rest_b8; (case hr_b8 => kernel_rfl); (case hf_b8 => kernel_rfl); (case hs_b8 => kernel_rfl); (case ho_b8 => (simp only [List.getElem?_toArray, List.getElem?_cons_succ, List.getElem?_cons_zero]; rfl)); (case hS_b8 => assumption); (case hQ_b8 => exact fun _ _ _ h => h); (case hy_b8 => (refine Or.inl ⟨by rfl, ?_⟩; (intro w hSw; (try dsimp only at hSw); go_simp) <;> with_reducible rfl)); (try simp only [Act.put, List.setIfInBounds_toArray, List.set_cons_zero, List.set_cons_succ]))
            (refine wpAnyH_take (i := 13) (oi := ?oi_b9) (v := ?v_b9) ?ho_b9 ?hs_b9 ?hf_b9 ?hr_b9 ?hQ_b9 ?hy_b9 ?hS_b9 ?rest_b9; (case hr_b9 => kernel_rfl); (case hf_b9 => kernel_rfl); (case hs_b9 => kernel_rfl); (case ho_b9 => (simp only [List.getElem?_toArray, List.getElem?_cons_succ, List.getElem?_cons_zero]; rfl)); (case hS_b9 => assumption); (case hQ_b9 => exact fun _ _ _ h => h); (case hy_b9 => (refine Or.inl ⟨by rfl, ?_⟩; (intro w hSw; (try dsimp only at hSw); go_simp) <;> with_reducible rfl)); (try simp only [Act.put, List.setIfInBounds_toArray, List.set_cons_zero, List.set_cons_succ]))
            (refine wpAnyH_take (i := 8) (oi := ?oi_b10) (v := ?v_b10) ?ho_b10 ?hs_b10 ?hf_b10 ?hr_b10 ?hQ_b10 ?hy_b10 ?hS_b10 ?rest_b10; (case hr_b10 => kernel_rfl); (case hf_b10 => kernel_rfl); (case hs_b10 => kernel_rfl); (case ho_b10 => (simp only [List.getElem?_toArray, List.getElem?_cons_succ, List.getElem?_cons_zero]; rfl)); (case hS_b10 => assumption); (case hQ_b10 => exact fun _ _ _ h => h); (case hy_b10 => (refine Or.inl ⟨by rfl, ?_⟩; (intro w hSw; have x1 := Upd.cell hSw x8 (fun h => h); go_simp) <;> with_reducible rfl)); (try simp only [Act.put, List.setIfInBounds_toArray, List.set_cons_zero, List.set_cons_succ]))
            have U := Upd.drew Non w8
            refine wpAnyH_ready (rs := [0, 9]) (by kernel_rfl) (by simp) ?_
            refine (AllReadyH.cons (o := ?oob11_0) ?hob11_0 ?hsb11_0 (AllReadyH.cons (o := ?oob11_1) ?hob11_1 ?hsb11_1 AllReadyH.nil))
            case hob11_0 => (simp only [List.getElem?_toArray, List.getElem?_cons_succ, List.getElem?_cons_zero]; rfl)
            case hob11_1 => (simp only [List.getElem?_toArray, List.getElem?_cons_succ, List.getElem?_cons_zero]; rfl)
            case hsb11_0 =>
              intro K hK
              go_simp
              try go_wp2_with fail
              refine hK.out _ _ (by exact U.then_alloc _) (fun hHeld => ?_)
              clear hK K hHeld
              try simp only [Act.put, List.setIfInBounds_toArray, List.set_cons_zero, List.set_cons_succ]
              refine anyH_opaque (fun w' => Upd Non w8 w' ∧ w'.ownsRow w8.heap.size 9 1 (.slice (some ⟨w8.heap.size, 0, none⟩) 0 0) 0 [] ∧ w8.heap.size < w'.heap.size) (by exact ⟨U.then_alloc _, World.ownsRow_lit (size := 1) w8 #[] 0 U.size (Nat.zero_le _) rfl, by simp⟩) ?_
              rintro v1 ⟨U, L, l0⟩
              refine wpAnyH_ready (rs := [4, 9]) (by kernel_rfl) (by simp) ?_
              refine (AllReadyH.cons (o := ?oob12_0) ?hob12_0 ?hsb12_0 (AllReadyH.cons (o := ?oob12_1) ?hob12_1 ?hsb12_1 AllReadyH.nil))
              case hob12_0 => (simp only [List.getElem?_toArray, List.getElem?_cons_succ, List.getElem?_cons_zero]; rfl)
              case hob12_1 => (simp only [List.getElem?_toArray, List.getElem?_cons_succ, List.getElem?_cons_zero]; rfl)
              case hsb12_0 =>
                intro K hK
                have hs4 := Src.ofHas (P := Try.prog) (tx := 22) Try.underlying22 (hout1.out.non U) (txt_one _)
                (refine step_app ?ygbsx13 ?ysbsx13 ?yxbsx13 22 22 ?yobsx13 w8.heap.size 9 (.string ⟨#[]⟩) 1 16 Try.underlying22 hinf.out rfl (.slice (some ⟨w8.heap.size, 0, none⟩) 0 0) 0 [] ?yhbsx13 L (.slice none 0 0) 0 ((([] : List Str).take 0).map txtV) ?yibsx13 hs4 (by unfold maxLen; omega) (by omega) U.size ?ykbsx13; (case yobsx13 => exact rfl); (case ygbsx13 => rfl); (case yhbsx13 => rfl); (case yibsx13 => rfl))
                case' ykbsx13 => intro v w5 ho5 hu5 hf5
                rw [Nat.zero_add, List.nil_append] at ho5
                have U5 : Upd Non w8 w5 := U.trans hu5 (fun b hb h => by have := own_ge L h; omega)
                refine hK.out _ _ (by exact U5) (fun hHeld => ?_)
                clear hK K hHeld
                try simp only [Act.put, List.setIfInBounds_toArray, List.set_cons_zero, List.set_cons_succ]
                refine anyH_opaque (fun w' => Upd Non w8 w' ∧ w'.ownsRow w8.heap.size 9 1 v 0 ((([] : List Str).take 0).map txtV)) (by exact ⟨U5, ho5⟩) ?_
                rintro v2 ⟨U, L⟩
                clear hs4 ho5 hu5 hf5 U5
                refine wpAnyH_ready (rs := [9]) (by kernel_rfl) (by simp) ?_
                refine (AllReadyH.cons (o := ?oob14_0) ?hob14_0 ?hsb14_0 AllReadyH.nil)
                case hob14_0 => (simp only [List.getElem?_toArray, List.getElem?_cons_succ, List.getElem?_cons_zero]; rfl)
                case hsb14_0 =>
                  intro K hK
                  go_simp
                  try go_wp2_with fail
                  refine hK.out _ _ (by exact U.then_alloc _) (fun hHeld => ?_)
                  clear hK K hHeld
                  try simp only [Act.put, List.setIfInBounds_toArray, List.set_cons_zero, List.set_cons_succ]
                  refine anyH_opaque (fun w' => Upd Non w8 w' ∧ w'.ownsRow w8.heap.size 9 1 v 0 ((([] : List Str).take 0).map txtV) ∧ Has w' 1 (.slice (some ⟨v2.heap.size, 0, none⟩) 1 1) 1 [txtV x] ∧ v2.heap.size < w'.heap.size) (by exact ⟨U.then_alloc _, L.alloc _, (by first | exact has_new v2 [txtV x] _ 1 1 rfl (by decide) | exact (has_new v2 [txtV x] _ 1 1 rfl (by decide)).non (Upd.drew _ _)), by simp⟩) ?_
                  rintro v3 ⟨U, L, B, lB⟩
                  refine wpAnyH_ready (rs := [10]) (by kernel_rfl) (by simp) ?_
                  refine (AllReadyH.cons (o := ?oob15_0) ?hob15_0 ?hsb15_0 AllReadyH.nil)
                  case hob15_0 => (simp only [List.getElem?_toArray, List.getElem?_cons_succ, List.getElem?_cons_zero]; rfl)
                  case hsb15_0 =>
                    intro K hK
                    have hs5 := Src.ofHas (P := Try.prog) (tx := 22) Try.underlying22 B (txt_one [x])
                    (refine step_app ?ygbsx16 ?ysbsx16 ?yxbsx16 22 22 ?yobsx16 w8.heap.size 9 (.string ⟨#[]⟩) 1 16 Try.underlying22 hinf.out rfl v 0 ((([] : List Str).take 0).map txtV) ?yhbsx16 L (.slice (some ⟨v2.heap.size, 0, none⟩) 1 1) 1 [txtV x] ?yibsx16 hs5 (by unfold maxLen; omega) (by omega) U.size ?ykbsx16; (case yobsx16 => exact rfl); (case ygbsx16 => rfl); (case yhbsx16 => rfl); (case yibsx16 => rfl))
                    case' ykbsx16 => intro u w6 ho6 hu6 hf6
                    have U6 : Upd Non w8 w6 := U.trans hu6 (fun b hb h => by have := own_ge L h; omega)
                    refine hK.out _ _ (by exact U6) (fun hHeld => ?_)
                    clear hK K hHeld
                    try simp only [Act.put, List.setIfInBounds_toArray, List.set_cons_zero, List.set_cons_succ]
                    clear hs5 hu6 hf6 L U B
                    refine wpAnyH_ready (rs := [14]) (by kernel_rfl) (by simp) ?_
                    refine (AllReadyH.cons (o := ?oob17_0) ?hob17_0 ?hsb17_0 AllReadyH.nil)
                    case hob17_0 => (simp only [List.getElem?_toArray, List.getElem?_cons_succ, List.getElem?_cons_zero]; rfl)
                    case hsb17_0 =>
                      intro K hK
                      have hs6 := Src.ofHas (P := Try.prog) (tx := 22) Try.underlying22 (hout2.out.non U6) (txt_one _)
                      (refine step_app ?ygbsx18 ?ysbsx18 ?yxbsx18 22 22 ?yobsx18 w8.heap.size 9 (.string ⟨#[]⟩) 1 16 Try.underlying22 hinf.out rfl u (0 + 1) ((([] : List Str).take 0).map txtV ++ [txtV x]) ?yhbsx18 ho6 (.slice none 0 0) (0) ((([] : List Str).drop 0).map txtV) ?yibsx18 hs6 (by unfold maxLen; omega) (by omega) U6.size ?ykbsx18; (case yobsx18 => exact rfl); (case ygbsx18 => rfl); (case yhbsx18 => rfl); (case yibsx18 => rfl))
                      case' ykbsx18 => intro z w7 ho7 hu7 hf7
                      have U7 : Upd Non w8 w7 := U6.trans hu7 (fun b hb h => by have := own_ge ho6 h; omega)
                      refine hK.out _ _ (by exact U7) (fun hHeld => ?_)
                      clear hK K hHeld
                      try simp only [Act.put, List.setIfInBounds_toArray, List.set_cons_zero, List.set_cons_succ]
                      clear hs6 hu7 hf7 ho6 U6
                      (refine wpAnyH_take (i := 15) (oi := ?oi_b19) (v := ?v_b19) ?ho_b19 ?hs_b19 ?hf_b19 ?hr_b19 ?hQ_b19 ?hy_b19 ?hS_b19 ?rest_b19; (case hr_b19 => kernel_rfl); (case hf_b19 => kernel_rfl); (case hs_b19 => kernel_rfl); (case ho_b19 => (simp only [List.getElem?_toArray, List.getElem?_cons_succ, List.getElem?_cons_zero]; rfl)); (case hS_b19 => assumption); (case hQ_b19 => exact fun _ _ _ h => h); (case hy_b19 => (refine Or.inl ⟨by rfl, ?_⟩; (intro w hSw; (try dsimp only at hSw); go_simp) <;> with_reducible rfl)); (try simp only [Act.put, List.setIfInBounds_toArray, List.set_cons_zero, List.set_cons_succ]))
                      refine wpAnyH_done (by kernel_rfl) ?_ _
                      have hol : ((([] : List Str).take 0 ++ [x]) ++ ([] : List Str).drop 0).length = 0 + 1 := by (simp <;> omega)
                      have ho9 : w7.ownsRow w.heap.size 9 1 z ((([] : List Str).take 0 ++ [x]) ++ ([] : List Str).drop 0).length (((([] : List Str).take 0 ++ [x]) ++ ([] : List Str).drop 0).map txtV) := by
                        rw [show 0 + 1 + (0) = 0 + 1 by omega, show (([] : List Str).take 0).map txtV ++ [txtV x] ++ (([] : List Str).drop 0).map txtV = ((([] : List Str).take 0 ++ [x]) ++ ([] : List Str).drop 0).map txtV by simp] at ho7
                        rw [hol]
                        exact owns_mono ho7 fun b hb => Nat.le_trans (hu.out.trans hu8 fun _ _ h => h).size (own_ge ho7 hb)
                      have hu9 := (hu.out.trans hu8 fun _ _ h => h).trans U7 fun _ _ h => h
                      have hA9 := Lib.hid (show Asc ((([] : List Str).take 0 ++ [x]) ++ ([] : List Str).drop 0) ∧ ∀ s ∈ (([] : List Str).take 0 ++ [x]) ++ ([] : List Str).drop 0, s ∈ l from ⟨hins.out, fun s hs => by
                        rw [List.append_assoc, List.mem_append] at hs
                        rcases hs with hs | hs
                        · exact hA.out.2 s (List.mem_of_mem_take hs)
                        · rcases List.mem_cons.1 hs with rfl | hs
                          · exact hxm.out
                          · exact hA.out.2 s (List.mem_of_mem_drop hs)⟩)
                      clear ho7 U7 hout1 hout2 hO hOT hu8 x8 x0 hu
                      go_wp2_with fail
                      go_roundw
                      case rel => exact ⟨i + 1, _, by go_num, by omega, by rw [hol]; omega, ho9, hA9, hu9⟩
                      case measure => simp [intOf]; omega
              case hsb12_1 =>
                intro K hK
                go_simp
                try go_wp2_with fail
                refine hK.out _ _ (by exact U.then_alloc _) (fun hHeld => ?_)
                clear hK K hHeld
                try simp only [Act.put, List.setIfInBounds_toArray, List.set_cons_zero, List.set_cons_succ]
                refine anyH_opaque (fun w' => Upd Non w8 w' ∧ w'.ownsRow w8.heap.size 9 1 (.slice (some ⟨w8.heap.size, 0, none⟩) 0 0) 0 [] ∧ v1.heap.size ≠ w8.heap.size ∧ Has w' 1 (.slice (some ⟨v1.heap.size, 0, none⟩) 1 1) 1 [txtV x] ∧ v1.heap.size < w'.heap.size) (by exact ⟨U.then_alloc _, L.alloc _, Nat.ne_of_gt l0, (by first | exact has_new v1 [txtV x] _ 1 1 rfl (by decide) | exact (has_new v1 [txtV x] _ 1 1 rfl (by decide)).non (Upd.drew _ _)), by simp⟩) ?_
                rintro v4 ⟨U, L, ne, B, lB⟩
                refine wpAnyH_ready (rs := [4]) (by kernel_rfl) (by simp) ?_
                refine (AllReadyH.cons (o := ?oob20_0) ?hob20_0 ?hsb20_0 AllReadyH.nil)
                case hob20_0 => (simp only [List.getElem?_toArray, List.getElem?_cons_succ, List.getElem?_cons_zero]; rfl)
                case hsb20_0 =>
                  intro K hK
                  have hs4 := Src.ofHas (P := Try.prog) (tx := 22) Try.underlying22 (hout1.out.non U) (txt_one _)
                  (refine step_app ?ygbsx21 ?ysbsx21 ?yxbsx21 22 22 ?yobsx21 w8.heap.size 9 (.string ⟨#[]⟩) 1 16 Try.underlying22 hinf.out rfl (.slice (some ⟨w8.heap.size, 0, none⟩) 0 0) 0 [] ?yhbsx21 L (.slice none 0 0) 0 ((([] : List Str).take 0).map txtV) ?yibsx21 hs4 (by unfold maxLen; omega) (by omega) U.size ?ykbsx21; (case yobsx21 => exact rfl); (case ygbsx21 => rfl); (case yhbsx21 => rfl); (case yibsx21 => rfl))
                  case' ykbsx21 => intro v w5 ho5 hu5 hf5
                  rw [Nat.zero_add, List.nil_append] at ho5
                  have U5 : Upd Non w8 w5 := U.trans hu5 (fun b hb h => by have := own_ge L h; omega)
                  refine hK.out _ _ (by exact U5) (fun hHeld => ?_)
                  clear hK K hHeld
                  try simp only [Act.put, List.setIfInBounds_toArray, List.set_cons_zero, List.set_cons_succ]
                  refine anyH_opaque (fun w' => Upd Non w8 w' ∧ w'.ownsRow w8.heap.size 9 1 v 0 ((([] : List Str).take 0).map txtV) ∧ Has w' 1 (.slice (some ⟨v1.heap.size, 0, none⟩) 1 1) 1 [txtV x]) (by exact ⟨U5, ho5, B.upd hu5 (fun b h1 h2 => ne (by simp [At, Value.ownBlock] at h1 h2; omega))⟩) ?_
                  rintro v5 ⟨U, L, B⟩
                  clear hs4 ho5 hu5 hf5 U5
                  refine wpAnyH_ready (rs := [10]) (by kernel_rfl) (by simp) ?_
                  refine (AllReadyH.cons (o := ?oob22_0) ?hob22_0 ?hsb22_0 AllReadyH.nil)
                  case hob22_0 => (simp only [List.getElem?_toArray, List.getElem?_cons_succ, List.getElem?_cons_zero]; rfl)
                  case hsb22_0 =>
                    intro K hK
                    have hs5 := Src.ofHas (P := Try.prog) (tx := 22) Try.underlying22 B (txt_one [x])
                    (refine step_app ?ygbsx23 ?ysbsx23 ?yxbsx23 22 22 ?yobsx23 w8.heap.size 9 (.string ⟨#[]⟩) 1 16 Try.underlying22 hinf.out rfl v 0 ((([] : List Str).take 0).map txtV) ?yhbsx23 L (.slice (some ⟨v1.heap.size, 0, none⟩) 1 1) 1 [txtV x] ?yibsx23 hs5 (by unfold maxLen; omega) (by omega) U.size ?ykbsx23; (case yobsx23 => exact rfl); (case ygbsx23 => rfl); (case yhbsx23 => rfl); (case yibsx23 => rfl))
                    case' ykbsx23 => intro u w6 ho6 hu6 hf6
                    have U6 : Upd Non w8 w6 := U.trans hu6 (fun b hb h => by have := own_ge L h; omega)
                    refine hK.out _ _ (by exact U6) (fun hHeld => ?_)
                    clear hK K hHeld
                    try simp only [Act.put, List.setIfInBounds_toArray, List.set_cons_zero, List.set_cons_succ]
                    clear hs5 hu6 hf6 L U B
                    refine wpAnyH_ready (rs := [14]) (by kernel_rfl) (by simp) ?_
                    refine (AllReadyH.cons (o := ?oob24_0) ?hob24_0 ?hsb24_0 AllReadyH.nil)
                    case hob24_0 => (simp only [List.getElem?_toArray, List.getElem?_cons_succ, List.getElem?_cons_zero]; rfl)
                    case hsb24_0 =>
                      intro K hK
                      have hs6 := Src.ofHas (P := Try.prog) (tx := 22) Try.underlying22 (hout2.out.non U6) (txt_one _)
                      (refine step_app ?ygbsx25 ?ysbsx25 ?yxbsx25 22 22 ?yobsx25 w8.heap.size 9 (.string ⟨#[]⟩) 1 16 Try.underlying22 hinf.out rfl u (0 + 1) ((([] : List Str).take 0).map txtV ++ [txtV x]) ?yhbsx25 ho6 (.slice none 0 0) (0) ((([] : List Str).drop 0).map txtV) ?yibsx25 hs6 (by unfold maxLen; omega) (by omega) U6.size ?ykbsx25; (case yobsx25 => exact rfl); (case ygbsx25 => rfl); (case yhbsx25 => rfl); (case yibsx25 => rfl))
                      case' ykbsx25 => intro z w7 ho7 hu7 hf7
                      have U7 : Upd Non w8 w7 := U6.trans hu7 (fun b hb h => by have := own_ge ho6 h; omega)
                      refine hK.out _ _ (by exact U7) (fun hHeld => ?_)
                      clear hK K hHeld
                      try simp only [Act.put, List.setIfInBounds_toArray, List.set_cons_zero, List.set_cons_succ]
                      clear hs6 hu7 hf7 ho6 U6
                      (refine wpAnyH_take (i := 15) (oi := ?oi_b26) (v := ?v_b26) ?ho_b26 ?hs_b26 ?hf_b26 ?hr_b26 ?hQ_b26 ?hy_b26 ?hS_b26 ?rest_b26; (case hr_b26 => kernel_rfl); (case hf_b26 => kernel_rfl); (case hs_b26 => kernel_rfl); (case ho_b26 => (simp only [List.getElem?_toArray, List.getElem?_cons_succ, List.getElem?_cons_zero]; rfl)); (case hS_b26 => assumption); (case hQ_b26 => exact fun _ _ _ h => h); (case hy_b26 => (refine Or.inl ⟨by rfl, ?_⟩; (intro w hSw; (try dsimp only at hSw); go_simp) <;> with_reducible rfl)); (try simp only [Act.put, List.setIfInBounds_toArray, List.set_cons_zero, List.set_cons_succ]))
                      refine wpAnyH_done (by kernel_rfl) ?_ _
                      have hol : ((([] : List Str).take 0 ++ [x]) ++ ([] : List Str).drop 0).length = 0 + 1 := by (simp <;> omega)
                      have ho9 : w7.ownsRow w.heap.size 9 1 z ((([] : List Str).take 0 ++ [x]) ++ ([] : List Str).drop 0).length (((([] : List Str).take 0 ++ [x]) ++ ([] : List Str).drop 0).map txtV) := by
                        rw [show 0 + 1 + (0) = 0 + 1 by omega, show (([] : List Str).take 0).map txtV ++ [txtV x] ++ (([] : List Str).drop 0).map txtV = ((([] : List Str).take 0 ++ [x]) ++ ([] : List Str).drop 0).map txtV by simp] at ho7
                        rw [hol]
                        exact owns_mono ho7 fun b hb => Nat.le_trans (hu.out.trans hu8 fun _ _ h => h).size (own_ge ho7 hb)
                      have hu9 := (hu.out.trans hu8 fun _ _ h => h).trans U7 fun _ _ h => h
                      have hA9 := Lib.hid (show Asc ((([] : List Str).take 0 ++ [x]) ++ ([] : List Str).drop 0) ∧ ∀ s ∈ (([] : List Str).take 0 ++ [x]) ++ ([] : List Str).drop 0, s ∈ l from ⟨hins.out, fun s hs => by
                        rw [List.append_assoc, List.mem_append] at hs
                        rcases hs with hs | hs
                        · exact hA.out.2 s (List.mem_of_mem_take hs)
                        · rcases List.mem_cons.1 hs with rfl | hs
                          · exact hxm.out
                          · exact hA.out.2 s (List.mem_of_mem_drop hs)⟩)
                      clear ho7 U7 hout1 hout2 hO hOT hu8 x8 x0 hu
                      go_wp2_with fail
                      go_roundw
                      case rel => exact ⟨i + 1, _, by go_num, by omega, by rw [hol]; omega, ho9, hA9, hu9⟩
                      case measure => simp [intOf]; omega
            case hsb11_1 =>
              intro K hK
              go_simp
              try go_wp2_with fail
              refine hK.out _ _ (by exact U.then_alloc _) (fun hHeld => ?_)
              clear hK K hHeld
              try simp only [Act.put, List.setIfInBounds_toArray, List.set_cons_zero, List.set_cons_succ]
              refine anyH_opaque (fun w' => Upd Non w8 w' ∧ Has w' 1 (.slice (some ⟨w8.heap.size, 0, none⟩) 1 1) 1 [txtV x] ∧ w8.heap.size < w'.heap.size) (by exact ⟨U.then_alloc _, (by first | exact has_new w8 [txtV x] _ 1 1 rfl (by decide) | exact (has_new w8 [txtV x] _ 1 1 rfl (by decide)).non (Upd.drew _ _)), by simp⟩) ?_
              rintro v6 ⟨U, B, lB⟩
              refine wpAnyH_ready (rs := [0]) (by kernel_rfl) (by simp) ?_
              refine (AllReadyH.cons (o := ?oob27_0) ?hob27_0 ?hsb27_0 AllReadyH.nil)
              case hob27_0 => (simp only [List.getElem?_toArray, List.getElem?_cons_succ, List.getElem?_cons_zero]; rfl)
              case hsb27_0 =>
                intro K hK
                go_simp
                try go_wp2_with fail
                refine hK.out _ _ (by exact U.then_alloc _) (fun hHeld => ?_)
                clear hK K hHeld
                try simp only [Act.put, List.setIfInBounds_toArray, List.set_cons_zero, List.set_cons_succ]
                refine anyH_opaque (fun w' => Upd Non w8 w' ∧ w'.ownsRow w8.heap.size 9 1 (.slice (some ⟨v6.heap.size, 0, none⟩) 0 0) 0 [] ∧ Has w' 1 (.slice (some ⟨w8.heap.size, 0, none⟩) 1 1) 1 [txtV x] ∧ w8.heap.size ≠ v6.heap.size) (by exact ⟨U.then_alloc _, World.ownsRow_lit (size := 1) v6 #[] 0 U.size (Nat.zero_le _) rfl, (by first | exact B.non (Upd.alloc _ _ _) | exact (B.non (Upd.alloc _ _ _)).non (Upd.drew _ _)), Nat.ne_of_lt lB⟩) ?_
                rintro v7 ⟨U, L, B, ne⟩
                refine wpAnyH_ready (rs := [4]) (by kernel_rfl) (by simp) ?_
                refine (AllReadyH.cons (o := ?oob28_0) ?hob28_0 ?hsb28_0 AllReadyH.nil)
                case hob28_0 => (simp only [List.getElem?_toArray, List.getElem?_cons_succ, List.getElem?_cons_zero]; rfl)
                case hsb28_0 =>
                  intro K hK
                  have hs4 := Src.ofHas (P := Try.prog) (tx := 22) Try.underlying22 (hout1.out.non U) (txt_one _)
                  (refine step_app ?ygbsx29 ?ysbsx29 ?yxbsx29 22 22 ?yobsx29 w8.heap.size 9 (.string ⟨#[]⟩) 1 16 Try.underlying22 hinf.out rfl (.slice (some ⟨v6.heap.size, 0, none⟩) 0 0) 0 [] ?yhbsx29 L (.slice none 0 0) 0 ((([] : List Str).take 0).map txtV) ?yibsx29 hs4 (by unfold maxLen; omega) (by omega) U.size ?ykbsx29; (case yobsx29 => exact rfl); (case ygbsx29 => rfl); (case yhbsx29 => rfl); (case yibsx29 => rfl))
                  case' ykbsx29 => intro v w5 ho5 hu5 hf5
                  rw [Nat.zero_add, List.nil_append] at ho5
                  have U5 : Upd Non w8 w5 := U.trans hu5 (fun b hb h => by have := own_ge L h; omega)
                  refine hK.out _ _ (by exact U5) (fun hHeld => ?_)
                  clear hK K hHeld
                  try simp only [Act.put, List.setIfInBounds_toArray, List.set_cons_zero, List.set_cons_succ]
                  refine anyH_opaque (fun w' => Upd Non w8 w' ∧ w'.ownsRow w8.heap.size 9 1 v 0 ((([] : List Str).take 0).map txtV) ∧ Has w' 1 (.slice (some ⟨w8.heap.size, 0, none⟩) 1 1) 1 [txtV x]) (by exact ⟨U5, ho5, B.upd hu5 (fun b h1 h2 => ne (by simp [At, Value.ownBlock] at h1 h2; omega))⟩) ?_
                  rintro v8 ⟨U, L, B⟩
                  clear hs4 ho5 hu5 hf5 U5
                  refine wpAnyH_ready (rs := [10]) (by kernel_rfl) (by simp) ?_
                  refine (AllReadyH.cons (o := ?oob30_0) ?hob30_0 ?hsb30_0 AllReadyH.nil)
                  case hob30_0 => (simp only [List.getElem?_toArray, List.getElem?_cons_succ, List.getElem?_cons_zero]; rfl)
                  case hsb30_0 =>
                    intro K hK
                    have hs5 := Src.ofHas (P := Try.prog) (tx := 22) Try.underlying22 B (txt_one [x])
                    (refine step_app ?ygbsx31 ?ysbsx31 ?yxbsx31 22 22 ?yobsx31 w8.heap.size 9 (.string ⟨#[]⟩) 1 16 Try.underlying22 hinf.out rfl v 0 ((([] : List Str).take 0).map txtV) ?yhbsx31 L (.slice (some ⟨w8.heap.size, 0, none⟩) 1 1) 1 [txtV x] ?yibsx31 hs5 (by unfold maxLen; omega) (by omega) U.size ?ykbsx31; (case yobsx31 => exact rfl); (case ygbsx31 => rfl); (case yhbsx31 => rfl); (case yibsx31 => rfl))
                    case' ykbsx31 => intro u w6 ho6 hu6 hf6
                    have U6 : Upd Non w8 w6 := U.trans hu6 (fun b hb h => by have := own_ge L h; omega)
                    refine hK.out _ _ (by exact U6) (fun hHeld => ?_)
                    clear hK K hHeld
                    try simp only [Act.put, List.setIfInBounds_toArray, List.set_cons_zero, List.set_cons_succ]
                    clear hs5 hu6 hf6 L U B
                    refine wpAnyH_ready (rs := [14]) (by kernel_rfl) (by simp) ?_
                    refine (AllReadyH.cons (o := ?oob32_0) ?hob32_0 ?hsb32_0 AllReadyH.nil)
                    case hob32_0 => (simp only [List.getElem?_toArray, List.getElem?_cons_succ, List.getElem?_cons_zero]; rfl)
                    case hsb32_0 =>
                      intro K hK
                      have hs6 := Src.ofHas (P := Try.prog) (tx := 22) Try.underlying22 (hout2.out.non U6) (txt_one _)
                      (refine step_app ?ygbsx33 ?ysbsx33 ?yxbsx33 22 22 ?yobsx33 w8.heap.size 9 (.string ⟨#[]⟩) 1 16 Try.underlying22 hinf.out rfl u (0 + 1) ((([] : List Str).take 0).map txtV ++ [txtV x]) ?yhbsx33 ho6 (.slice none 0 0) (0) ((([] : List Str).drop 0).map txtV) ?yibsx33 hs6 (by unfold maxLen; omega) (by omega) U6.size ?ykbsx33; (case yobsx33 => exact rfl); (case ygbsx33 => rfl); (case yhbsx33 => rfl); (case yibsx33 => rfl))
                      case' ykbsx33 => intro z w7 ho7 hu7 hf7
                      have U7 : Upd Non w8 w7 := U6.trans hu7 (fun b hb h => by have := own_ge ho6 h; omega)
                      refine hK.out _ _ (by exact U7) (fun hHeld => ?_)
                      clear hK K hHeld
                      try simp only [Act.put, List.setIfInBounds_toArray, List.set_cons_zero, List.set_cons_succ]
                      clear hs6 hu7 hf7 ho6 U6
                      (refine wpAnyH_take (i := 15) (oi := ?oi_b34) (v := ?v_b34) ?ho_b34 ?hs_b34 ?hf_b34 ?hr_b34 ?hQ_b34 ?hy_b34 ?hS_b34 ?rest_b34; (case hr_b34 => kernel_rfl); (case hf_b34 => kernel_rfl); (case hs_b34 => kernel_rfl); (case ho_b34 => (simp only [List.getElem?_toArray, List.getElem?_cons_succ, List.getElem?_cons_zero]; rfl)); (case hS_b34 => assumption); (case hQ_b34 => exact fun _ _ _ h => h); (case hy_b34 => (refine Or.inl ⟨by rfl, ?_⟩; (intro w hSw; (try dsimp only at hSw); go_simp) <;> with_reducible rfl)); (try simp only [Act.put, List.setIfInBounds_toArray, List.set_cons_zero, List.set_cons_succ]))
                      refine wpAnyH_done (by kernel_rfl) ?_ _
                      have hol : ((([] : List Str).take 0 ++ [x]) ++ ([] : List Str).drop 0).length = 0 + 1 := by (simp <;> omega)
                      have ho9 : w7.ownsRow w.heap.size 9 1 z ((([] : List Str).take 0 ++ [x]) ++ ([] : List Str).drop 0).length (((([] : List Str).take 0 ++ [x]) ++ ([] : List Str).drop 0).map txtV) := by
                        rw [show 0 + 1 + (0) = 0 + 1 by omega, show (([] : List Str).take 0).map txtV ++ [txtV x] ++ (([] : List Str).drop 0).map txtV = ((([] : List Str).take 0 ++ [x]) ++ ([] : List Str).drop 0).map txtV by simp] at ho7
                        rw [hol]
                        exact owns_mono ho7 fun b hb => Nat.le_trans (hu.out.trans hu8 fun _ _ h => h).size (own_ge ho7 hb)
                      have hu9 := (hu.out.trans hu8 fun _ _ h => h).trans U7 fun _ _ h => h
                      have hA9 := Lib.hid (show Asc ((([] : List Str).take 0 ++ [x]) ++ ([] : List Str).drop 0) ∧ ∀ s ∈ (([] : List Str).take 0 ++ [x]) ++ ([] : List Str).drop 0, s ∈ l from ⟨hins.out, fun s hs => by
                        rw [List.append_assoc, List.mem_append] at hs
                        rcases hs with hs | hs
                        · exact hA.out.2 s (List.mem_of_mem_take hs)
                        · rcases List.mem_cons.1 hs with rfl | hs
                          · exact hxm.out
                          · exact hA.out.2 s (List.mem_of_mem_drop hs)⟩)
                      clear ho7 U7 hout1 hout2 hO hOT hu8 x8 x0 hu
                      go_wp2_with fail
                      go_roundw
                      case rel => exact ⟨i + 1, _, by go_num, by omega, by rw [hol]; omega, ho9, hA9, hu9⟩
                      case measure => simp [intOf]; omega
          · injection hsl with e1 e2 e3
            subst e1 e3
            have hjc : j ≤ oc := hcap'
            by_cases hoc : oc = j
            · subst hoc
              go_wp2_with fail
              go_quiet (fail)
              obtain ⟨m1, hm1⟩ : ∃ m1, m1 = nq := ⟨_, rfl⟩
              subst hm1
              go_wp2_with fail
              go_quiet (fail)
              go_wp2_with fail
              obtain ⟨w8, hw8⟩ : ∃ w8, (wr.drewN m1).drewN nq = w8 := ⟨_, rfl⟩
              have hu8 : Upd Non w1 w8 := by rw [← hw8]; exact (hux.then_drewN _).then_drewN _
              rw [hw8]
              clear hw8 hux x1
              have x8 := hu8.cell x0 fun h => h
              have hOT8 := hOT.out.non hu8
              have hout1 := Lib.hid (txts_take (by rw [hn]; exact hOT8) oc (by omega))
              have hout2 : Hid (Has w8 1 (.slice (some ⟨g5, 0, none⟩) 0 0) 0 ((o.drop oc).map txtV)) := Lib.hid ⟨by simp; omega, _, _, rfl, Nat.le_refl _, Nat.zero_le _, .inl rfl⟩
              clear hOT8
              refine wp_region_held_drew (S := fun w' => Upd Non w8 w') (by kernel_rfl) (by exact Upd.drew _ _) (fun hHeld => ?_)
              (refine wpAnyH_take (i := 1) (oi := ?oi_c1) (v := ?v_c1) ?ho_c1 ?hs_c1 ?hf_c1 ?hr_c1 ?hQ_c1 ?hy_c1 ?hS_c1 ?rest_c1; (case hr_c1 => kernel_rfl); (case hf_c1 => kernel_rfl); (case hs_c1 => kernel_rfl); (case ho_c1 => (simp only [List.getElem?_toArray, List.getElem?_cons_succ, List.getElem?_cons_zero]; rfl)); (case hS_c1 => assumption); (case hQ_c1 => exact fun _ _ _ h => h); (case hy_c1 => (refine Or.inl ⟨by rfl, ?_⟩; (intro w hSw; (try dsimp only at hSw); go_simp) <;> with_reducible rfl)); (try simp only [Act.put, List.setIfInBounds_toArray, List.set_cons_zero, List.set_cons_succ]))
              (refine wpAnyH_take (i := 2) (oi := ?oi_c2) (v := ?v_c2) ?ho_c2 ?hs_c2 ?hf_c2 ?hr_c2 ?hQ_c2 ?hy_c2 ?hS_c2 ?rest_c2; (case hr_c2 => kernel_rfl); (case hf_c2 => kernel_rfl); (case hs_c2 => kernel_rfl); (case ho_c2 => (simp only [List.getElem?_toArray, List.getElem?_cons_succ, List.getElem?_cons_zero]; rfl)); (case hS_c2 => assumption); (case hQ_c2 => exact fun _ _ _ h => h); (case hy_c2 => (refine Or.inl ⟨by rfl, ?_⟩; (intro w hSw; (try dsimp only at hSw); go_simp) <;> with_reducible rfl)); (try simp only [Act.put, List.setIfInBounds_toArray, List.set_cons_zero, List.set_cons_succ]))
              (refine wpAnyH_take (i := 3) (oi := ?oi_c3) (v := ?v_c3) ?ho_c3 ?hs_c3 ?hf_c3 ?hr_c3 ?hQ_c3 ?hy_c3 ?hS_c3 ?rest_c3; (case hr_c3 => kernel_rfl); (case hf_c3 => kernel_rfl); (case hs_c3 => kernel_rfl); (case ho_c3 => (simp only [List.getElem?_toArray, List.getElem?_cons_succ, List.getElem?_cons_zero]; rfl)); (case hS_c3 => assumption); (case hQ_c3 => exact fun _ _ _ h => h); (case hy_c3 => (refine Or.inl ⟨by rfl, ?_⟩; (intro w hSw; (try dsimp only at hSw); go_simp) <;> with_reducible rfl)); (try simp only [Act.put, List.setIfInBounds_toArray, List.set_cons_zero, List.set_cons_succ]))
              (refine wpAnyH_take (i := 5) (oi := ?oi_c4) (v := ?v_c4) ?ho_c4 ?hs_c4 ?hf_c4 ?hr_c4 ?hQ_c4 ?hy_c4 ?hS_c4 ?rest_c4; (case hr_c4 => kernel_rfl); (case hf_c4 => kernel_rfl); (case hs_c4 => kernel_rfl); (case ho_c4 => (simp only [List.getElem?_toArray, List.getElem?_cons_succ, List.getElem?_cons_zero]; rfl)); (case hS_c4 => assumption); (case hQ_c4 => exact fun _ _ _ h => h); (case hy_c4 => (refine Or.inl ⟨by rfl, ?_⟩; (intro w hSw; (try dsimp only at hSw); go_simp) <;> with_reducible rfl)); (try simp only [Act.put, List.setIfInBounds_toArray, List.set_cons_zero, List.set_cons_succ]))
              (refine wpAnyH_take (i := 6) (oi := ?oi_c5) (v := ?v_c5) ?ho_c5 ?hs_c5 ?hf_c5 ?hr_c5 ?hQ_c5 ?hy_c5 ?hS_c5 ?rest_c5; (case hr_c5 => kernel_rfl); (case hf_c5 => kernel_rfl); (case hs_c5 => kernel_rfl); (case ho_c5 => (simp only [List.getElem?_toArray, List.getElem?_cons_succ, List.getElem?_cons_zero]; rfl)); (case hS_c5 => assumption); (case hQ_c5 => exact fun _ _ _ h => h); (case hy_c5 => (refine Or.inl ⟨by rfl, ?_⟩; (intro w hSw; (try dsimp only at hSw); go_simp) <;> with_reducible rfl)); (try simp only [Act.put, List.setIfInBounds_toArray, List.set_cons_zero, List.set_cons_succ]))
              (refine wpAnyH_take (i := 7) (oi := ?oi_c6) (v := ?v_c6) ?ho_c6 ?hs_c6 ?hf_c6 ?hr_c6 ?hQ_c6 ?hy_c6 ?hS_c6 ?rest_c6; (case hr_c6 => kernel_rfl); (case hf_c6 => kernel_rfl); (case hs_c6 => kernel_rfl); (case ho_c6 => (simp only [List.getElem?_toArray, List.getElem?_cons_succ, List.getElem?_cons_zero]; rfl)); (case hS_c6 => assumption); (case hQ_c6 => exact fun _ _ _ h => h); (case hy_c6 => (refine Or.inl ⟨by rfl, ?_⟩; (intro w hSw; (try dsimp only at hSw); go_simp) <;> with_reducible rfl)); (try simp only [Act.put, List.setIfInBounds_toArray, List.set_cons_zero, List.set_cons_succ]))
              (refine wpAnyH_take (i := 11) (oi := ?oi_c7) (v := ?v_c7) ?ho_c7 ?hs_c7 ?hf_c7 ?hr_c7 ?hQ_c7 ?hy_c7 ?hS_c7 ?rest_c7; (case hr_c7 => kernel_rfl); (case hf_c7 => kernel_rfl); (case hs_c7 => kernel_rfl); (case ho_c7 => (simp only [List.getElem?_toArray, List.getElem?_cons_succ, List.getElem?_cons_zero]; rfl)); (case hS_c7 => assumption); (case hQ_c7 => exact fun _ _ _ h => h); (case hy_c7 => (refine Or.inl ⟨by rfl, ?_⟩; (intro w hSw; (try dsimp only at hSw); go_simp) <;> with_reducible rfl)); (try simp only [Act.put, List.setIfInBounds_toArray, List.set_cons_zero, List.set_cons_succ]))
              (refine wpAnyH_take (i := 12) (oi := ?oi_c8) (v := ?v_c8) ?ho_c8 ?hs_c8 ?hf_c8 ?hr_c8 ?hQ_c8 ?hy_c8 ?hS_c8 ?rest_c8; (case hr_c8 => kernel_rfl); (case hf_c8 => kernel_rfl); (case hs_c8 => kernel_rfl); (case ho_c8 => (simp only [List.getElem?_toArray, List.getElem?_cons_succ, List.getElem?_cons_zero]; rfl)); (case hS_c8 => assumption); (case hQ_c8 => exact fun _ _ _ h => h); (case hy_c8 => (refine Or.inl ⟨by rfl, ?_⟩; (intro w hSw; (try dsimp only at hSw); go_simp) <;> with_reducible rfl)); (try simp only [Act.put, List.setIfInBounds_toArray, List.set_cons_zero, List.set_cons_succ]))
              (refine wpAnyH_take (i := 13) (oi := ?oi_c9) (v := ?v_c9) ?ho_c9 ?hs_c9 ?hf_c9 ?hr_c9 ?hQ_c9 ?hy_c9 ?hS_c9 ?rest_c9; (case hr_c9 => kernel_rfl); (case hf_c9 => kernel_rfl); (case hs_c9 => kernel_rfl); (case ho_c9 => (simp only [List.getElem?_toArray, List.getElem?_cons_succ, List.getElem?_cons_zero]; rfl)); (case hS_c9 => assumption); (case hQ_c9 => exact fun _ _ _ h => h); (case hy_c9 => (refine Or.inl ⟨by rfl, ?_⟩; (intro w hSw; (try dsimp only at hSw); go_simp) <;> with_reducible rfl)); (try simp only [Act.put, List.setIfInBounds_toArray, List.set_cons_zero, List.set_cons_succ]))
              (refine wpAnyH_take (i := 8) (oi := ?oi_c10) (v := ?v_c10) ?ho_c10 ?hs_c10 ?hf_c10 ?hr_c10 ?hQ_c10 ?hy_c10 ?hS_c10 ?rest_c10; (case hr_c10 => kernel_rfl); (case hf_c10 => kernel_rfl); (case hs_c10 => kernel_rfl); (case ho_c10 => (simp only [List.getElem?_toArray, List.getElem?_cons_succ, List.getElem?_cons_zero]; rfl)); (case hS_c10 => assumption); (case hQ_c10 => exact fun _ _ _ h => h); (case hy_c10 => (refine Or.inl ⟨by rfl, ?_⟩; (intro w hSw; have x1 := Upd.cell hSw x8 (fun h => h); go_simp) <;> with_reducible rfl)); (try simp only [Act.put, List.setIfInBounds_toArray, List.set_cons_zero, List.set_cons_succ]))
              have U := Upd.drew Non w8
              refine wpAnyH_ready (rs := [0, 9]) (by kernel_rfl) (by simp) ?_
              refine (AllReadyH.cons (o := ?ooc11_0) ?hoc11_0 ?hsc11_0 (AllReadyH.cons (o := ?ooc11_1) ?hoc11_1 ?hsc11_1 AllReadyH.nil))
              case hoc11_0 => (simp only [List.getElem?_toArray, List.getElem?_cons_succ, List.getElem?_cons_zero]; rfl)
              case hoc11_1 => (simp only [List.getElem?_toArray, List.getElem?_cons_succ, List.getElem?_cons_zero]; rfl)
              case hsc11_0 =>
                intro K hK
                go_simp
                try go_wp2_with fail
                refine hK.out _ _ (by exact U.then_alloc _) (fun hHeld => ?_)
                clear hK K hHeld
                try simp only [Act.put, List.setIfInBounds_toArray, List.set_cons_zero, List.set_cons_succ]
                refine anyH_opaque (fun w' => Upd Non w8 w' ∧ w'.ownsRow w8.heap.size 9 1 (.slice (some ⟨w8.heap.size, 0, none⟩) 0 0) 0 [] ∧ w8.heap.size < w'.heap.size) (by exact ⟨U.then_alloc _, World.ownsRow_lit (size := 1) w8 #[] 0 U.size (Nat.zero_le _) rfl, by simp⟩) ?_
                rintro v1 ⟨U, L, l0⟩
                refine wpAnyH_ready (rs := [4, 9]) (by kernel_rfl) (by simp) ?_
                refine (AllReadyH.cons (o := ?ooc12_0) ?hoc12_0 ?hsc12_0 (AllReadyH.cons (o := ?ooc12_1) ?hoc12_1 ?hsc12_1 AllReadyH.nil))
                case hoc12_0 => (simp only [List.getElem?_toArray, List.getElem?_cons_succ, List.getElem?_cons_zero]; rfl)
                case hoc12_1 => (simp only [List.getElem?_toArray, List.getElem?_cons_succ, List.getElem?_cons_zero]; rfl)
                case hsc12_0 =>
                  intro K hK
                  have hs4 := Src.ofHas (P := Try.prog) (tx := 22) Try.underlying22 (hout1.out.non U) (txt_one _)
                  (refine step_app ?ygcsx13 ?yscsx13 ?yxcsx13 22 22 ?yocsx13 w8.heap.size 9 (.string ⟨#[]⟩) 1 16 Try.underlying22 hinf.out rfl (.slice (some ⟨w8.heap.size, 0, none⟩) 0 0) 0 [] ?yhcsx13 L (.slice (some ⟨g5, 0, none⟩) oc oc) oc ((o.take oc).map txtV) ?yicsx13 hs4 (by unfold maxLen; omega) (by omega) U.size ?ykcsx13; (case yocsx13 => exact rfl); (case ygcsx13 => rfl); (case yhcsx13 => rfl); (case yicsx13 => rfl))
                  case' ykcsx13 => intro v w5 ho5 hu5 hf5
                  rw [Nat.zero_add, List.nil_append] at ho5
                  have U5 : Upd Non w8 w5 := U.trans hu5 (fun b hb h => by have := own_ge L h; omega)
                  refine hK.out _ _ (by exact U5) (fun hHeld => ?_)
                  clear hK K hHeld
                  try simp only [Act.put, List.setIfInBounds_toArray, List.set_cons_zero, List.set_cons_succ]
                  refine anyH_opaque (fun w' => Upd Non w8 w' ∧ w'.ownsRow w8.heap.size 9 1 v oc ((o.take oc).map txtV)) (by exact ⟨U5, ho5⟩) ?_
                  rintro v2 ⟨U, L⟩
                  clear hs4 ho5 hu5 hf5 U5
                  refine wpAnyH_ready (rs := [9]) (by kernel_rfl) (by simp) ?_
                  refine (AllReadyH.cons (o := ?ooc14_0) ?hoc14_0 ?hsc14_0 AllReadyH.nil)
                  case hoc14_0 => (simp only [List.getElem?_toArray, List.getElem?_cons_succ, List.getElem?_cons_zero]; rfl)
                  case hsc14_0 =>
                    intro K hK
                    go_simp
                    try go_wp2_with fail
                    refine hK.out _ _ (by exact U.then_alloc _) (fun hHeld => ?_)
                    clear hK K hHeld
                    try simp only [Act.put, List.setIfInBounds_toArray, List.set_cons_zero, List.set_cons_succ]
                    refine anyH_opaque (fun w' => Upd Non w8 w' ∧ w'.ownsRow w8.heap.size 9 1 v oc ((o.take oc).map txtV) ∧ Has w' 1 (.slice (some ⟨v2.heap.size, 0, none⟩) 1 1) 1 [txtV x] ∧ v2.heap.size < w'.heap.size) (by exact ⟨U.then_alloc _, L.alloc _, (by first | exact has_new v2 [txtV x] _ 1 1 rfl (by decide) | exact (has_new v2 [txtV x] _ 1 1 rfl (by decide)).non (Upd.drew _ _)), by simp⟩) ?_
                    rintro v3 ⟨U, L, B, lB⟩
                    refine wpAnyH_ready (rs := [10]) (by kernel_rfl) (by simp) ?_
                    refine (AllReadyH.cons (o := ?ooc15_0) ?hoc15_0 ?hsc15_0 AllReadyH.nil)
                    case hoc15_0 => (simp only [List.getElem?_toArray, List.getElem?_cons_succ, List.getElem?_cons_zero]; rfl)
                    case hsc15_0 =>
                      intro K hK
                      have hs5 := Src.ofHas (P := Try.prog) (tx := 22) Try.underlying22 B (txt_one [x])
                      (refine step_app ?ygcsx16 ?yscsx16 ?yxcsx16 22 22 ?yocsx16 w8.heap.size 9 (.string ⟨#[]⟩) 1 16 Try.underlying22 hinf.out rfl v oc ((o.take oc).map txtV) ?yhcsx16 L (.slice (some ⟨v2.heap.size, 0, none⟩) 1 1) 1 [txtV x] ?yicsx16 hs5 (by unfold maxLen; omega) (by omega) U.size ?ykcsx16; (case yocsx16 => exact rfl); (case ygcsx16 => rfl); (case yhcsx16 => rfl); (case yicsx16 => rfl))
                      case' ykcsx16 => intro u w6 ho6 hu6 hf6
                      have U6 : Upd Non w8 w6 := U.trans hu6 (fun b hb h => by have := own_ge L h; omega)
                      refine hK.out _ _ (by exact U6) (fun hHeld => ?_)
                      clear hK K hHeld
                      try simp only [Act.put, List.setIfInBounds_toArray, List.set_cons_zero, List.set_cons_succ]
                      clear hs5 hu6 hf6 L U B
                      refine wpAnyH_ready (rs := [14]) (by kernel_rfl) (by simp) ?_
                      refine (AllReadyH.cons (o := ?ooc17_0) ?hoc17_0 ?hsc17_0 AllReadyH.nil)
                      case hoc17_0 => (simp only [List.getElem?_toArray, List.getElem?_cons_succ, List.getElem?_cons_zero]; rfl)
                      case hsc17_0 =>
                        intro K hK
                        have hs6 := Src.ofHas (P := Try.prog) (tx := 22) Try.underlying22 (hout2.out.non U6) (txt_one _)
                        (refine step_app ?ygcsx18 ?yscsx18 ?yxcsx18 22 22 ?yocsx18 w8.heap.size 9 (.string ⟨#[]⟩) 1 16 Try.underlying22 hinf.out rfl u (oc + 1) ((o.take oc).map txtV ++ [txtV x]) ?yhcsx18 ho6 (.slice (some ⟨g5, 0, none⟩) 0 0) (0) ((o.drop oc).map txtV) ?yicsx18 hs6 (by unfold maxLen; omega) (by omega) U6.size ?ykcsx18; (case yocsx18 => exact rfl); (case ygcsx18 => rfl); (case yhcsx18 => rfl); (case yicsx18 => rfl))
                        case' ykcsx18 => intro z w7 ho7 hu7 hf7
                        have U7 : Upd Non w8 w7 := U6.trans hu7 (fun b hb h => by have := own_ge ho6 h; omega)
                        refine hK.out _ _ (by exact U7) (fun hHeld => ?_)
                        clear hK K hHeld
                        try simp only [Act.put, List.setIfInBounds_toArray, List.set_cons_zero, List.set_cons_succ]
                        clear hs6 hu7 hf7 ho6 U6
                        (refine wpAnyH_take (i := 15) (oi := ?oi_c19) (v := ?v_c19) ?ho_c19 ?hs_c19 ?hf_c19 ?hr_c19 ?hQ_c19 ?hy_c19 ?hS_c19 ?rest_c19; (case hr_c19 => kernel_rfl); (case hf_c19 => kernel_rfl); (case hs_c19 => kernel_rfl); (case ho_c19 => (simp only [List.getElem?_toArray, List.getElem?_cons_succ, List.getElem?_cons_zero]; rfl)); (case hS_c19 => assumption); (case hQ_c19 => exact fun _ _ _ h => h); (case hy_c19 => (refine Or.inl ⟨by rfl, ?_⟩; (intro w hSw; (try dsimp only at hSw); go_simp) <;> with_reducible rfl)); (try simp only [Act.put, List.setIfInBounds_toArray, List.set_cons_zero, List.set_cons_succ]))
                        refine wpAnyH_done (by kernel_rfl) ?_ _
                        have hol : ((o.take oc ++ [x]) ++ o.drop oc).length = oc + 1 := by (simp <;> omega)
                        have ho9 : w7.ownsRow w.heap.size 9 1 z ((o.take oc ++ [x]) ++ o.drop oc).length (((o.take oc ++ [x]) ++ o.drop oc).map txtV) := by
                          rw [show oc + 1 + (0) = oc + 1 by omega, show (o.take oc).map txtV ++ [txtV x] ++ (o.drop oc).map txtV = ((o.take oc ++ [x]) ++ o.drop oc).map txtV by simp] at ho7
                          rw [hol]
                          exact owns_mono ho7 fun b hb => Nat.le_trans (hu.out.trans hu8 fun _ _ h => h).size (own_ge ho7 hb)
                        have hu9 := (hu.out.trans hu8 fun _ _ h => h).trans U7 fun _ _ h => h
                        have hA9 := Lib.hid (show Asc ((o.take oc ++ [x]) ++ o.drop oc) ∧ ∀ s ∈ (o.take oc ++ [x]) ++ o.drop oc, s ∈ l from ⟨hins.out, fun s hs => by
                          rw [List.append_assoc, List.mem_append] at hs
                          rcases hs with hs | hs
                          · exact hA.out.2 s (List.mem_of_mem_take hs)
                          · rcases List.mem_cons.1 hs with rfl | hs
                            · exact hxm.out
                            · exact hA.out.2 s (List.mem_of_mem_drop hs)⟩)
                        clear ho7 U7 hout1 hout2 hO hOT hu8 x8 x0 hu
                        go_wp2_with fail
                        go_roundw
                        case rel => exact ⟨i + 1, _, by go_num, by omega, by rw [hol]; omega, ho9, hA9, hu9⟩
                        case measure => simp [intOf]; omega
                case hsc12_1 =>
                  intro K hK
                  go_simp
                  try go_wp2_with fail
                  refine hK.out _ _ (by exact U.then_alloc _) (fun hHeld => ?_)
                  clear hK K hHeld
                  try simp only [Act.put, List.setIfInBounds_toArray, List.set_cons_zero, List.set_cons_succ]
                  refine anyH_opaque (fun w' => Upd Non w8 w' ∧ w'.ownsRow w8.heap.size 9 1 (.slice (some ⟨w8.heap.size, 0, none⟩) 0 0) 0 [] ∧ v1.heap.size ≠ w8.heap.size ∧ Has w' 1 (.slice (some ⟨v1.heap.size, 0, none⟩) 1 1) 1 [txtV x] ∧ v1.heap.size < w'.heap.size) (by exact ⟨U.then_alloc _, L.alloc _, Nat.ne_of_gt l0, (by first | exact has_new v1 [txtV x] _ 1 1 rfl (by decide) | exact (has_new v1 [txtV x] _ 1 1 rfl (by decide)).non (Upd.drew _ _)), by simp⟩) ?_
                  rintro v4 ⟨U, L, ne, B, lB⟩
                  refine wpAnyH_ready (rs := [4]) (by kernel_rfl) (by simp) ?_
                  refine (AllReadyH.cons (o := ?ooc20_0) ?hoc20_0 ?hsc20_0 AllReadyH.nil)
                  case hoc20_0 => (simp only [List.getElem?_toArray, List.getElem?_cons_succ, List.getElem?_cons_zero]; rfl)
                  case hsc20_0 =>
                    intro K hK
                    have hs4 := Src.ofHas (P := Try.prog) (tx := 22) Try.underlying22 (hout1.out.non U) (txt_one _)
                    (refine step_app ?ygcsx21 ?yscsx21 ?yxcsx21 22 22 ?yocsx21 w8.heap.size 9 (.string ⟨#[]⟩) 1 16 Try.underlying22 hinf.out rfl (.slice (some ⟨w8.heap.size, 0, none⟩) 0 0) 0 [] ?yhcsx21 L (.slice (some ⟨g5, 0, none⟩) oc oc) oc ((o.take oc).map txtV) ?yicsx21 hs4 (by unfold maxLen; omega) (by omega) U.size ?ykcsx21; (case yocsx21 => exact rfl); (case ygcsx21 => rfl); (case yhcsx21 => rfl); (case yicsx21 => rfl))
                    case' ykcsx21 => intro v w5 ho5 hu5 hf5
                    rw [Nat.zero_add, List.nil_append] at ho5
                    have U5 : Upd Non w8 w5 := U.trans hu5 (fun b hb h => by have := own_ge L h; omega)
                    refine hK.out _ _ (by exact U5) (fun hHeld => ?_)
                    clear hK K hHeld
                    try simp only [Act.put, List.setIfInBounds_toArray, List.set_cons_zero, List.set_cons_succ]
                    refine anyH_opaque (fun w' => Upd Non w8 w' ∧ w'.ownsRow w8.heap.size 9 1 v oc ((o.take oc).map txtV) ∧ Has w' 1 (.slice (some ⟨v1.heap.size, 0, none⟩) 1 1) 1 [txtV x]) (by exact ⟨U5, ho5, B.upd hu5 (fun b h1 h2 => ne (by simp [At, Value.ownBlock] at h1 h2; omega))⟩) ?_
                    rintro v5 ⟨U, L, B⟩
                    clear hs4 ho5 hu5 hf5 U5
                    refine wpAnyH_ready (rs := [10]) (by kernel_rfl) (by simp) ?_
                    refine (AllReadyH.cons (o := ?ooc22_0) ?hoc22_0 ?hsc22_0 AllReadyH.nil)
                    case hoc22_0 => (simp only [List.getElem?_toArray, List.getElem?_cons_succ, List.getElem?_cons_zero]; rfl)
                    case hsc22_0 =>
                      intro K hK
                      have hs5 := Src.ofHas (P := Try.prog) (tx := 22) Try.underlying22 B (txt_one [x])
                      (refine step_app ?ygcsx23 ?yscsx23 ?yxcsx23 22 22 ?yocsx23 w8.heap.size 9 (.string ⟨#[]⟩) 1 16 Try.underlying22 hinf.out rfl v oc ((o.take oc).map txtV) ?yhcsx23 L (.slice (some ⟨v1.heap.size, 0, none⟩) 1 1) 1 [txtV x] ?yicsx23 hs5 (by unfold maxLen; omega) (by omega) U.size ?ykcsx23; (case yocsx23 => exact rfl); (case ygcsx23 => rfl); (case yhcsx23 => rfl); (case yicsx23 => rfl))
                      case' ykcsx23 => intro u w6 ho6 hu6 hf6
                      have U6 : Upd Non w8 w6 := U.trans hu6 (fun b hb h => by have := own_ge L h; omega)
                      refine hK.out _ _ (by exact U6) (fun hHeld => ?_)
                      clear hK K hHeld
                      try simp only [Act.put, List.setIfInBounds_toArray, List.set_cons_zero, List.set_cons_succ]
                      clear hs5 hu6 hf6 L U B
                      refine wpAnyH_ready (rs := [14]) (by kernel_rfl) (by simp) ?_
                      refine (AllReadyH.cons (o := ?ooc24_0) ?hoc24_0 ?hsc24_0 AllReadyH.nil)
                      case hoc24_0 => (simp only [List.getElem?_toArray, List.getElem?_cons_succ, List.getElem?_cons_zero]; rfl)
                      case hsc24_0 =>
                        intro K hK
                        have hs6 := Src.ofHas (P := Try.prog) (tx := 22) Try.underlying22 (hout2.out.non U6) (txt_one _)
                        (refine step_app ?ygcsx25 ?yscsx25 ?yxcsx25 22 22 ?yocsx25 w8.heap.size 9 (.string ⟨#[]⟩) 1 16 Try.underlying22 hinf.out rfl u (oc + 1) ((o.take oc).map txtV ++ [txtV x]) ?yhcsx25 ho6 (.slice (some ⟨g5, 0, none⟩) 0 0) (0) ((o.drop oc).map txtV) ?yicsx25 hs6 (by unfold maxLen; omega) (by omega) U6.size ?ykcsx25; (case yocsx25 => exact rfl); (case ygcsx25 => rfl); (case yhcsx25 => rfl); (case yicsx25 => rfl))
                        case' ykcsx25 => intro z w7 ho7 hu7 hf7
                        have U7 : Upd Non w8 w7 := U6.trans hu7 (fun b hb h => by have := own_ge ho6 h; omega)
                        refine hK.out _ _ (by exact U7) (fun hHeld => ?_)
                        clear hK K hHeld
                        try simp only [Act.put, List.setIfInBounds_toArray, List.set_cons_zero, List.set_cons_succ]
                        clear hs6 hu7 hf7 ho6 U6
                        (refine wpAnyH_take (i := 15) (oi := ?oi_c26) (v := ?v_c26) ?ho_c26 ?hs_c26 ?hf_c26 ?hr_c26 ?hQ_c26 ?hy_c26 ?hS_c26 ?rest_c26; (case hr_c26 => kernel_rfl); (case hf_c26 => kernel_rfl); (case hs_c26 => kernel_rfl); (case ho_c26 => (simp only [List.getElem?_toArray, List.getElem?_cons_succ, List.getElem?_cons_zero]; rfl)); (case hS_c26 => assumption); (case hQ_c26 => exact fun _ _ _ h => h); (case hy_c26 => (refine Or.inl ⟨by rfl, ?_⟩; (intro w hSw; (try dsimp only at hSw); go_simp) <;> with_reducible rfl)); (try simp only [Act.put, List.setIfInBounds_toArray, List.set_cons_zero, List.set_cons_succ]))
                        refine wpAnyH_done (by kernel_rfl) ?_ _
                        have hol : ((o.take oc ++ [x]) ++ o.drop oc).length = oc + 1 := by (simp <;> omega)
                        have ho9 : w7.ownsRow w.heap.size 9 1 z ((o.take oc ++ [x]) ++ o.drop oc).length (((o.take oc ++ [x]) ++ o.drop oc).map txtV) := by
                          rw [show oc + 1 + (0) = oc + 1 by omega, show (o.take oc).map txtV ++ [txtV x] ++ (o.drop oc).map txtV = ((o.take oc ++ [x]) ++ o.drop oc).map txtV by simp] at ho7
                          rw [hol]
                          exact owns_mono ho7 fun b hb => Nat.le_trans (hu.out.trans hu8 fun _ _ h => h).size (own_ge ho7 hb)
                        have hu9 := (hu.out.trans hu8 fun _ _ h => h).trans U7 fun _ _ h => h
                        have hA9 := Lib.hid (show Asc ((o.take oc ++ [x]) ++ o.drop oc) ∧ ∀ s ∈ (o.take oc ++ [x]) ++ o.drop oc, s ∈ l from ⟨hins.out, fun s hs => by
                          rw [List.append_assoc, List.mem_append] at hs
                          rcases hs with hs | hs
                          · exact hA.out.2 s (List.mem_of_mem_take hs)
                          · rcases List.mem_cons.1 hs with rfl | hs
                            · exact hxm.out
                            · exact hA.out.2 s (List.mem_of_mem_drop hs)⟩)
                        clear ho7 U7 hout1 hout2 hO hOT hu8 x8 x0 hu
                        go_wp2_with fail
                        go_roundw
                        case rel => exact ⟨i + 1, _, by go_num, by omega, by rw [hol]; omega, ho9, hA9, hu9⟩
                        case measure => simp [intOf]; omega
              case hsc11_1 =>
                intro K hK
                go_simp
                try go_wp2_with fail
                refine hK.out _ _ (by exact U.then_alloc _) (fun hHeld => ?_)
                clear hK K hHeld
                try simp only [Act.put, List.setIfInBounds_toArray, List.set_cons_zero, List.set_cons_succ]
                refine anyH_opaque (fun w' => Upd Non w8 w' ∧ Has w' 1 (.slice (some ⟨w8.heap.size, 0, none⟩) 1 1) 1 [txtV x] ∧ w8.heap.size < w'.heap.size) (by exact ⟨U.then_alloc _, (by first | exact has_new w8 [txtV x] _ 1 1 rfl (by decide) | exact (has_new w8 [txtV x] _ 1 1 rfl (by decide)).non (Upd.drew _ _)), by simp⟩) ?_
                rintro v6 ⟨U, B, lB⟩
                refine wpAnyH_ready (rs := [0]) (by kernel_rfl) (by simp) ?_
                refine (AllReadyH.cons (o := ?ooc27_0) ?hoc27_0 ?hsc27_0 AllReadyH.nil)
                case hoc27_0 => (simp only [List.getElem?_toArray, List.getElem?_cons_succ, List.getElem?_cons_zero]; rfl)
                case hsc27_0 =>
                  intro K hK
                  go_simp
                  try go_wp2_with fail
                  refine hK.out _ _ (by exact U.then_alloc _) (fun hHeld => ?_)
                  clear hK K hHeld
                  try simp only [Act.put, List.setIfInBounds_toArray, List.set_cons_zero, List.set_cons_succ]
                  refine anyH_opaque (fun w' => Upd Non w8 w' ∧ w'.ownsRow w8.heap.size 9 1 (.slice (some ⟨v6.heap.size, 0, none⟩) 0 0) 0 [] ∧ Has w' 1 (.slice (some ⟨w8.heap.size, 0, none⟩) 1 1) 1 [txtV x] ∧ w8.heap.size ≠ v6.heap.size) (by exact ⟨U.then_alloc _, World.ownsRow_lit (size := 1) v6 #[] 0 U.size (Nat.zero_le _) rfl, (by first | exact B.non (Upd.alloc _ _ _) | exact (B.non (Upd.alloc _ _ _)).non (Upd.drew _ _)), Nat.ne_of_lt lB⟩) ?_
                  rintro v7 ⟨U, L, B, ne⟩
                  refine wpAnyH_ready (rs := [4]) (by kernel_rfl) (by simp) ?_
                  refine (AllReadyH.cons (o := ?ooc28_0) ?hoc28_0 ?hsc28_0 AllReadyH.nil)
                  case hoc28_0 => (simp only [List.getElem?_toArray, List.getElem?_cons_succ, List.getElem?_cons_zero]; rfl)
                  case hsc28_0 =>
                    intro K hK
                    have hs4 := Src.ofHas (P := Try.prog) (tx := 22) Try.underlying22 (hout1.out.non U) (txt_one _)
                    (refine step_app ?ygcsx29 ?yscsx29 ?yxcsx29 22 22 ?yocsx29 w8.heap.size 9 (.string ⟨#[]⟩) 1 16 Try.underlying22 hinf.out rfl (.slice (some ⟨v6.heap.size, 0, none⟩) 0 0) 0 [] ?yhcsx29 L (.slice (some ⟨g5, 0, none⟩) oc oc) oc ((o.take oc).map txtV) ?yicsx29 hs4 (by unfold maxLen; omega) (by omega) U.size ?ykcsx29; (case yocsx29 => exact rfl); (case ygcsx29 => rfl); (case yhcsx29 => rfl); (case yicsx29 => rfl))
                    case' ykcsx29 => intro v w5 ho5 hu5 hf5
                    rw [Nat.zero_add, List.nil_append] at ho5
                    have U5 : Upd Non w8 w5 := U.trans hu5 (fun b hb h => by have := own_ge L h; omega)
                    refine hK.out _ _ (by exact U5) (fun hHeld => ?_)
                    clear hK K hHeld
                    try simp only [Act.put, List.setIfInBounds_toArray, List.set_cons_zero, List.set_cons_succ]
                    refine anyH_opaque (fun w' => Upd Non w8 w' ∧ w'.ownsRow w8.heap.size 9 1 v oc ((o.take oc).map txtV) ∧ Has w' 1 (.slice (some ⟨w8.heap.size, 0, none⟩) 1 1) 1 [txtV x]) (by exact ⟨U5, ho5, B.upd hu5 (fun b h1 h2 => ne (by simp [At, Value.ownBlock] at h1 h2; omega))⟩) ?_
                    rintro v8 ⟨U, L, B⟩
                    clear hs4 ho5 hu5 hf5 U5
                    refine wpAnyH_ready (rs := [10]) (by kernel_rfl) (by simp) ?_
                    refine (AllReadyH.cons (o := ?ooc30_0) ?hoc30_0 ?hsc30_0 AllReadyH.nil)
                    case hoc30_0 => (simp only [List.getElem?_toArray, List.getElem?_cons_succ, List.getElem?_cons_zero]; rfl)
                    case hsc30_0 =>
                      intro K hK
                      have hs5 := Src.ofHas (P := Try.prog) (tx := 22) Try.underlying22 B (txt_one [x])
                      (refine step_app ?ygcsx31 ?yscsx31 ?yxcsx31 22 22 ?yocsx31 w8.heap.size 9 (.string ⟨#[]⟩) 1 16 Try.underlying22 hinf.out rfl v oc ((o.take oc).map txtV) ?yhcsx31 L (.slice (some ⟨w8.heap.size, 0, none⟩) 1 1) 1 [txtV x] ?yicsx31 hs5 (by unfold maxLen; omega) (by omega) U.size ?ykcsx31; (case yocsx31 => exact rfl); (case ygcsx31 => rfl); (case yhcsx31 => rfl); (case yicsx31 => rfl))
                      case' ykcsx31 => intro u w6 ho6 hu6 hf6
                      have U6 : Upd Non w8 w6 := U.trans hu6 (fun b hb h => by have := own_ge L h; omega)
                      refine hK.out _ _ (by exact U6) (fun hHeld => ?_)
                      clear hK K hHeld
                      try simp only [Act.put, List.setIfInBounds_toArray, List.set_cons_zero, List.set_cons_succ]
                      clear hs5 hu6 hf6 L U B
                      refine wpAnyH_ready (rs := [14]) (by kernel_rfl) (by simp) ?_
                      refine (AllReadyH.cons (o := ?ooc32_0) ?hoc32_0 ?hsc32_0 AllReadyH.nil)
                      case hoc32_0 => (simp only [List.getElem?_toArray, List.getElem?_cons_succ, List.getElem?_cons_zero]; rfl)
                      case hsc32_0 =>
                        intro K hK
                        have hs6 := Src.ofHas (P := Try.prog) (tx := 22) Try.underlying22 (hout2.out.non U6) (txt_one _)
                        (refine step_app ?ygcsx33 ?yscsx33 ?yxcsx33 22 22 ?yocsx33 w8.heap.size 9 (.string ⟨#[]⟩) 1 16 Try.underlying22 hinf.out rfl u (oc + 1) ((o.take oc).map txtV ++ [txtV x]) ?yhcsx33 ho6 (.slice (some ⟨g5, 0, none⟩) 0 0) (0) ((o.drop oc).map txtV) ?yicsx33 hs6 (by unfold maxLen; omega) (by omega) U6.size ?ykcsx33; (case yocsx33 => exact rfl); (case ygcsx33 => rfl); (case yhcsx33 => rfl); (case yicsx33 => rfl))
                        case' ykcsx33 => intro z w7 ho7 hu7 hf7
                        have U7 : Upd Non w8 w7 := U6.trans hu7 (fun b hb h => by have := own_ge ho6 h; omega)
                        refine hK.out _ _ (by exact U7) (fun hHeld => ?_)
                        clear hK K hHeld
                        try simp only [Act.put, List.setIfInBounds_toArray, List.set_cons_zero, List.set_cons_succ]
                        clear hs6 hu7 hf7 ho6 U6
                        (refine wpAnyH_take (i := 15) (oi := ?oi_c34) (v := ?v_c34) ?ho_c34 ?hs_c34 ?hf_c34 ?hr_c34 ?hQ_c34 ?hy_c34 ?hS_c34 ?rest_c34; (case hr_c34 => kernel_rfl); (case hf_c34 => kernel_rfl); (case hs_c34 => kernel_rfl); (case ho_c34 => (simp only [List.getElem?_toArray, List.getElem?_cons_succ, List.getElem?_cons_zero]; rfl)); (case hS_c34 => assumption); (case hQ_c34 => exact fun _ _ _ h => h); (case hy_c34 => (refine Or.inl ⟨by rfl, ?_⟩; (intro w hSw; (try dsimp only at hSw); go_simp) <;> with_reducible rfl)); (try simp only [Act.put, List.setIfInBounds_toArray, List.set_cons_zero, List.set_cons_succ]))
                        refine wpAnyH_done (by kernel_rfl) ?_ _
                        have hol : ((o.take oc ++ [x]) ++ o.drop oc).length = oc + 1 := by (simp <;> omega)
                        have ho9 : w7.ownsRow w.heap.size 9 1 z ((o.take oc ++ [x]) ++ o.drop oc).length (((o.take oc ++ [x]) ++ o.drop oc).map txtV) := by
                          rw [show oc + 1 + (0) = oc + 1 by omega, show (o.take oc).map txtV ++ [txtV x] ++ (o.drop oc).map txtV = ((o.take oc ++ [x]) ++ o.drop oc).map txtV by simp] at ho7
                          rw [hol]
                          exact owns_mono ho7 fun b hb => Nat.le_trans (hu.out.trans hu8 fun _ _ h => h).size (own_ge ho7 hb)
                        have hu9 := (hu.out.trans hu8 fun _ _ h => h).trans U7 fun _ _ h => h
                        have hA9 := Lib.hid (show Asc ((o.take oc ++ [x]) ++ o.drop oc) ∧ ∀ s ∈ (o.take oc ++ [x]) ++ o.drop oc, s ∈ l from ⟨hins.out, fun s hs => by
                          rw [List.append_assoc, List.mem_append] at hs
                          rcases hs with hs | hs
                          · exact hA.out.2 s (List.mem_of_mem_take hs)
                          · rcases List.mem_cons.1 hs with rfl | hs
                            · exact hxm.out
                            · exact hA.out.2 s (List.mem_of_mem_drop hs)⟩)
                        clear ho7 U7 hout1 hout2 hO hOT hu8 x8 x0 hu
                        go_wp2_with fail
                        go_roundw
                        case rel => exact ⟨i + 1, _, by go_num, by omega, by rw [hol]; omega, ho9, hA9, hu9⟩
                        case measure => simp [intOf]; omega
            · have z1 : (oc - j = 0) = False := eq_false (by omega)
              have z2 : (oc = j) = False := eq_false hoc
              have z3 : (j = oc) = False := eq_false (fun e => hoc e.symm)
              replace hoc := Lib.hid hoc
              go_wp2_with fail
              go_quiet (fail)
              obtain ⟨m1, hm1⟩ : ∃ m1, m1 = nq := ⟨_, rfl⟩
              subst hm1
              go_wp2_with fail
              go_quiet (fail)
              go_wp2_with fail
              obtain ⟨w8, hw8⟩ : ∃ w8, (wr.drewN m1).drewN nq = w8 := ⟨_, rfl⟩
              have hu8 : Upd Non w1 w8 := by rw [← hw8]; exact (hux.then_drewN _).then_drewN _
              rw [hw8]
              clear hw8 hux x1
              have x8 := hu8.cell x0 fun h => h
              have hOT8 := hOT.out.non hu8
              have hout1 := Lib.hid (txts_take (by rw [hn]; exact hOT8) j (by omega))
              have hout2 : Hid (Has w8 1 (.slice (some ⟨g5, j, none⟩) 0 (oc - j)) 0 ((o.drop j).map txtV)) := Lib.hid (by have := txts_drop (by rw [hn]; exact hOT8) j (by omega); rw [hn, Nat.sub_self, Nat.zero_add] at this; exact this)
              clear hOT8
              refine wp_region_held_drew (S := fun w' => Upd Non w8 w') (by kernel_rfl) (by exact Upd.drew _ _) (fun hHeld => ?_)
              (refine wpAnyH_take (i := 1) (oi := ?oi_d1) (v := ?v_d1) ?ho_d1 ?hs_d1 ?hf_d1 ?hr_d1 ?hQ_d1 ?hy_d1 ?hS_d1 ?rest_d1; (case hr_d1 => kernel_rfl); (case hf_d1 => kernel_rfl); (case hs_d1 => kernel_rfl); (case ho_d1 => (simp only [List.getElem?_toArray, List.getElem?_cons_succ, List.getElem?_cons_zero]; rfl)); (case hS_d1 => assumption); (case hQ_d1 => exact fun _ _ _ h => h); (case hy_d1 => (refine Or.inl ⟨by rfl, ?_⟩; (intro w hSw; (try dsimp only at hSw); go_simp) <;> with_reducible rfl)); (try simp only [Act.put, List.setIfInBounds_toArray, List.set_cons_zero, List.set_cons_succ]))
              (refine wpAnyH_take (i := 2) (oi := ?oi_d2) (v := ?v_d2) ?ho_d2 ?hs_d2 ?hf_d2 ?hr_d2 ?hQ_d2 ?hy_d2 ?hS_d2 ?rest_d2; (case hr_d2 => kernel_rfl); (case hf_d2 => kernel_rfl); (case hs_d2 => kernel_rfl); (case ho_d2 => (simp only [List.getElem?_toArray, List.getElem?_cons_succ, List.getElem?_cons_zero]; rfl)); (case hS_d2 => assumption); (case hQ_d2 => exact fun _ _ _ h => h); (case hy_d2 => (refine Or.inl ⟨by rfl, ?_⟩; (intro w hSw; (try dsimp only at hSw); go_simp) <;> with_reducible rfl)); (try simp only [Act.put, List.setIfInBounds_toArray, List.set_cons_zero, List.set_cons_succ]))
              (refine wpAnyH_take (i := 3) (oi := ?oi_d3) (v := ?v_d3) ?ho_d3 ?hs_d3 ?hf_d3 ?hr_d3 ?hQ_d3 ?hy_d3 ?hS_d3 ?rest_d3; (case hr_d3 => kernel_rfl); (case hf_d3 => kernel_rfl); (case hs_d3 => kernel_rfl); (case ho_d3 => (simp only [List.getElem?_toArray, List.getElem?_cons_succ, List.getElem?_cons_zero]; rfl)); (case hS_d3 => assumption); (case hQ_d3 => exact fun _ _ _ h => h); (case hy_d3 => (refine Or.inl ⟨by rfl, ?_⟩; (intro w hSw; (try dsimp only at hSw); go_simp) <;> with_reducible rfl)); (try simp only [Act.put, List.setIfInBounds_toArray, List.set_cons_zero, List.set_cons_succ]))
              (refine wpAnyH_take (i := 5) (oi := ?oi_d4) (v := ?v_d4) ?ho_d4 ?hs_d4 ?hf_d4 ?hr_d4 ?hQ_d4 ?hy_d4 ?hS_d4 ?rest_d4; (case hr_d4 => kernel_rfl); (case hf_d4 => kernel_rfl); (case hs_d4 => kernel_rfl); (case ho_d4 => (simp only [List.getElem?_toArray, List.getElem?_cons_succ, List.getElem?_cons_zero]; rfl)); (case hS_d4 => assumption); (case hQ_d4 => exact fun _ _ _ h => h); (case hy_d4 => (refine Or.inl ⟨by rfl, ?_⟩; (intro w hSw; (try dsimp only at hSw); go_simp) <;> with_reducible rfl)); (try simp only [Act.put, List.setIfInBounds_toArray, List.set_cons_zero, List.set_cons_succ]))
              (refine wpAnyH_take (i := 6) (oi := ?oi_d5) (v := ?v_d5) ?ho_d5 ?hs_d5 ?hf_d5 ?hr_d5 ?hQ_d5 ?hy_d5 ?hS_d5 ?rest_d5; (case hr_d5 => kernel_rfl); (case hf_d5 => kernel_rfl); (case hs_d5 => kernel_rfl); (case ho_d5 => (simp only [List.getElem?_toArray, List.getElem?_cons_succ, List.getElem?_cons_zero]; rfl)); (case hS_d5 => assumption); (case hQ_d5 => exact fun _ _ _ h => h); (case hy_d5 => (refine Or.inl ⟨by rfl, ?_⟩; (intro w hSw; (try dsimp only at hSw); go_simp) <;> with_reducible rfl)); (try simp only [Act.put, List.setIfInBounds_toArray, List.set_cons_zero, List.set_cons_succ]))
              (refine wpAnyH_take (i := 7) (oi := ?oi_d6) (v := ?v_d6) ?ho_d6 ?hs_d6 ?hf_d6 ?hr_d6 ?hQ_d6 ?hy_d6 ?hS_d6 ?rest_d6; (case hr_d6 => kernel_rfl); (case hf_d6 => kernel_rfl); (case hs_d6 => kernel_rfl); (case ho_d6 => (simp only [List.getElem?_toArray, List.getElem?_cons_succ, List.getElem?_cons_zero]; rfl)); (case hS_d6 => assumption); (case hQ_d6 => exact fun _ _ _ h => h); (case hy_d6 => (refine Or.inl ⟨by rfl, ?_⟩; (intro w hSw; (try dsimp only at hSw); go_simp) <;> with_reducible rfl)); (try simp only [Act.put, List.setIfInBounds_toArray, List.set_cons_zero, List.set_cons_succ]))
              (refine wpAnyH_take (i := 11) (oi := ?oi_d7) (v := ?v_d7) ?ho_d7 ?hs_d7 ?hf_d7 ?hr_d7 ?hQ_d7 ?hy_d7 ?hS_d7 ?rest_d7; (case hr_d7 => kernel_rfl); (case hf_d7 => kernel_rfl); (case hs_d7 => kernel_rfl); (case ho_d7 => (simp only [List.getElem?_toArray, List.getElem?_cons_succ, List.getElem?_cons_zero]; rfl)); (case hS_d7 => assumption); (case hQ_d7 => exact fun _ _ _ h => h); (case hy_d7 => (refine Or.inl ⟨by rfl, ?_⟩; (intro w hSw; (try dsimp only at hSw); go_simp) <;> with_reducible rfl)); (try simp only [Act.put, List.setIfInBounds_toArray, List.set_cons_zero, List.set_cons_succ]))
              (refine wpAnyH_take (i := 12) (oi := ?oi_d8) (v := ?v_d8) ?ho_d8 ?hs_d8 ?hf_d8 ?hr_d8 ?hQ_d8 ?hy_d8 ?hS_d8 ?rest_d8; (case hr_d8 => kernel_rfl); (case hf_d8 => kernel_rfl); (case hs_d8 => kernel_rfl); (case ho_d8 => (simp only [List.getElem?_toArray, List.getElem?_cons_succ, List.getElem?_cons_zero]; rfl)); (case hS_d8 => assumption); (case hQ_d8 => exact fun _ _ _ h => h); (case hy_d8 => (refine Or.inl ⟨by rfl, ?_⟩; (intro w hSw; (try dsimp only at hSw); go_simp) <;> with_reducible rfl)); (try simp only [Act.put, List.setIfInBounds_toArray, List.set_cons_zero, List.set_cons_succ]))
              (refine wpAnyH_take (i := 13) (oi := ?oi_d9) (v := ?v_d9) ?ho_d9 ?hs_d9 ?hf_d9 ?hr_d9 ?hQ_d9 ?hy_d9 ?hS_d9 ?rest_d9; (case hr_d9 => kernel_rfl); (case hf_d9 => kernel_rfl); (case hs_d9 => kernel_rfl); (case ho_d9 => (simp only [List.getElem?_toArray, List.getElem?_cons_succ, List.getElem?_cons_zero]; rfl)); (case hS_d9 => assumption); (case hQ_d9 => exact fun _ _ _ h => h); (case hy_d9 => (refine Or.inl ⟨by rfl, ?_⟩; (intro w hSw; (try dsimp only at hSw); go_simp) <;> with_reducible rfl)); (try simp only [Act.put, List.setIfInBounds_toArray, List.set_cons_zero, List.set_cons_succ]))
              (refine wpAnyH_take (i := 8) (oi := ?oi_d10) (v := ?v_d10) ?ho_d10 ?hs_d10 ?hf_d10 ?hr_d10 ?hQ_d10 ?hy_d10 ?hS_d10 ?rest_d10; (case hr_d10 => kernel_rfl); (case hf_d10 => kernel_rfl); (case hs_d10 => kernel_rfl); (case ho_d10 => (simp only [List.getElem?_toArray, List.getElem?_cons_succ, List.getElem?_cons_zero]; rfl)); (case hS_d10 => assumption); (case hQ_d10 => exact fun _ _ _ h => h); (case hy_d10 => (refine Or.inl ⟨by rfl, ?_⟩; (intro w hSw; have x1 := Upd.cell hSw x8 (fun h => h); go_simp) <;> with_reducible rfl)); (try simp only [Act.put, List.setIfInBounds_toArray, List.set_cons_zero, List.set_cons_succ]))
              have U := Upd.drew Non w8
              refine wpAnyH_ready (rs := [0, 9]) (by kernel_rfl) (by simp) ?_
              refine (AllReadyH.cons (o := ?ood11_0) ?hod11_0 ?hsd11_0 (AllReadyH.cons (o := ?ood11_1) ?hod11_1 ?hsd11_1 AllReadyH.nil))
              case hod11_0 => (simp only [List.getElem?_toArray, List.getElem?_cons_succ, List.getElem?_cons_zero]; rfl)
              case hod11_1 => (simp only [List.getElem?_toArray, List.getElem?_cons_succ, List.getElem?_cons_zero]; rfl)
              case hsd11_0 =>
                intro K hK
                go_simp
                try go_wp2_with fail
                refine hK.out _ _ (by exact U.then_alloc _) (fun hHeld => ?_)
                clear hK K hHeld
                try simp only [Act.put, List.setIfInBounds_toArray, List.set_cons_zero, List.set_cons_succ]
                refine anyH_opaque (fun w' => Upd Non w8 w' ∧ w'.ownsRow w8.heap.size 9 1 (.slice (some ⟨w8.heap.size, 0, none⟩) 0 0) 0 [] ∧ w8.heap.size < w'.heap.size) (by exact ⟨U.then_alloc _, World.ownsRow_lit (size := 1) w8 #[] 0 U.size (Nat.zero_le _) rfl, by simp⟩) ?_
                rintro v1 ⟨U, L, l0⟩
                refine wpAnyH_ready (rs := [4, 9]) (by kernel_rfl) (by simp) ?_
                refine (AllReadyH.cons (o := ?ood12_0) ?hod12_0 ?hsd12_0 (AllReadyH.cons (o := ?ood12_1) ?hod12_1 ?hsd12_1 AllReadyH.nil))
                case hod12_0 => (simp only [List.getElem?_toArray, List.getElem?_cons_succ, List.getElem?_cons_zero]; rfl)
                case hod12_1 => (simp only [List.getElem?_toArray, List.getElem?_cons_succ, List.getElem?_cons_zero]; rfl)
                case hsd12_0 =>
                  intro K hK
                  have hs4 := Src.ofHas (P := Try.prog) (tx := 22) Try.underlying22 (hout1.out.non U) (txt_one _)
                  (refine step_app ?ygdsx13 ?ysdsx13 ?yxdsx13 22 22 ?yodsx13 w8.heap.size 9 (.string ⟨#[]⟩) 1 16 Try.underlying22 hinf.out rfl (.slice (some ⟨w8.heap.size, 0, none⟩) 0 0) 0 [] ?yhdsx13 L (.slice (some ⟨g5, 0, none⟩) j oc) j ((o.take j).map txtV) ?yidsx13 hs4 (by unfold maxLen; omega) (by omega) U.size ?ykdsx13; (case yodsx13 => exact rfl); (case ygdsx13 => rfl); (case yhdsx13 => rfl); (case yidsx13 => rfl))
                  case' ykdsx13 => intro v w5 ho5 hu5 hf5
                  rw [Nat.zero_add, List.nil_append] at ho5
                  have U5 : Upd Non w8 w5 := U.trans hu5 (fun b hb h => by have := own_ge L h; omega)
                  refine hK.out _ _ (by exact U5) (fun hHeld => ?_)
                  clear hK K hHeld
                  try simp only [Act.put, List.setIfInBounds_toArray, List.set_cons_zero, List.set_cons_succ]
                  refine anyH_opaque (fun w' => Upd Non w8 w' ∧ w'.ownsRow w8.heap.size 9 1 v j ((o.take j).map txtV)) (by exact ⟨U5, ho5⟩) ?_
                  rintro v2 ⟨U, L⟩
                  clear hs4 ho5 hu5 hf5 U5
                  refine wpAnyH_ready (rs := [9]) (by kernel_rfl) (by simp) ?_
                  refine (AllReadyH.cons (o := ?ood14_0) ?hod14_0 ?hsd14_0 AllReadyH.nil)
                  case hod14_0 => (simp only [List.getElem?_toArray, List.getElem?_cons_succ, List.getElem?_cons_zero]; rfl)
                  case hsd14_0 =>
                    intro K hK
                    go_simp
                    try go_wp2_with fail
                    refine hK.out _ _ (by exact U.then_alloc _) (fun hHeld => ?_)
                    clear hK K hHeld
                    try simp only [Act.put, List.setIfInBounds_toArray, List.set_cons_zero, List.set_cons_succ]
                    refine anyH_opaque (fun w' => Upd Non w8 w' ∧ w'.ownsRow w8.heap.size 9 1 v j ((o.take j).map txtV) ∧ Has w' 1 (.slice (some ⟨v2.heap.size, 0, none⟩) 1 1) 1 [txtV x] ∧ v2.heap.size < w'.heap.size) (by exact ⟨U.then_alloc _, L.alloc _, (by first | exact has_new v2 [txtV x] _ 1 1 rfl (by decide) | exact (has_new v2 [txtV x] _ 1 1 rfl (by decide)).non (Upd.drew _ _)), by simp⟩) ?_
                    rintro v3 ⟨U, L, B, lB⟩
                    refine wpAnyH_ready (rs := [10]) (by kernel_rfl) (by simp) ?_
                    refine (AllReadyH.cons (o := ?ood15_0) ?hod15_0 ?hsd15_0 AllReadyH.nil)
                    case hod15_0 => (simp only [List.getElem?_toArray, List.getElem?_cons_succ, List.getElem?_cons_zero]; rfl)
                    case hsd15_0 =>
                      intro K hK
                      have hs5 := Src.ofHas (P := Try.prog) (tx := 22) Try.underlying22 B (txt_one [x])
                      (refine step_app ?ygdsx16 ?ysdsx16 ?yxdsx16 22 22 ?yodsx16 w8.heap.size 9 (.string ⟨#[]⟩) 1 16 Try.underlying22 hinf.out rfl v j ((o.take j).map txtV) ?yhdsx16 L (.slice (some ⟨v2.heap.size, 0, none⟩) 1 1) 1 [txtV x] ?yidsx16 hs5 (by unfold maxLen; omega) (by omega) U.size ?ykdsx16; (case yodsx16 => exact rfl); (case ygdsx16 => rfl); (case yhdsx16 => rfl); (case yidsx16 => rfl))
                      case' ykdsx16 => intro u w6 ho6 hu6 hf6
                      have U6 : Upd Non w8 w6 := U.trans hu6 (fun b hb h => by have := own_ge L h; omega)
                      refine hK.out _ _ (by exact U6) (fun hHeld => ?_)
                      clear hK K hHeld
                      try simp only [Act.put, List.setIfInBounds_toArray, List.set_cons_zero, List.set_cons_succ]
                      clear hs5 hu6 hf6 L U B
                      refine wpAnyH_ready (rs := [14]) (by kernel_rfl) (by simp) ?_
                      refine (AllReadyH.cons (o := ?ood17_0) ?hod17_0 ?hsd17_0 AllReadyH.nil)
                      case hod17_0 => (simp only [List.getElem?_toArray, List.getElem?_cons_succ, List.getElem?_cons_zero]; rfl)
                      case hsd17_0 =>
                        intro K hK
                        have hs6 := Src.ofHas (P := Try.prog) (tx := 22) Try.underlying22 (hout2.out.non U6) (txt_one _)
                        (refine step_app ?ygdsx18 ?ysdsx18 ?yxdsx18 22 22 ?yodsx18 w8.heap.size 9 (.string ⟨#[]⟩) 1 16 Try.underlying22 hinf.out rfl u (j + 1) ((o.take j).map txtV ++ [txtV x]) ?yhdsx18 ho6 (.slice (some ⟨g5, j, none⟩) 0 (oc - j)) (0) ((o.drop j).map txtV) ?yidsx18 hs6 (by unfold maxLen; omega) (by omega) U6.size ?ykdsx18; (case yodsx18 => exact rfl); (case ygdsx18 => rfl); (case yhdsx18 => rfl); (case yidsx18 => rfl))
                        case' ykdsx18 => intro z w7 ho7 hu7 hf7
                        have U7 : Upd Non w8 w7 := U6.trans hu7 (fun b hb h => by have := own_ge ho6 h; omega)
                        refine hK.out _ _ (by exact U7) (fun hHeld => ?_)
                        clear hK K hHeld
                        try simp only [Act.put, List.setIfInBounds_toArray, List.set_cons_zero, List.set_cons_succ]
                        clear hs6 hu7 hf7 ho6 U6
                        (refine wpAnyH_take (i := 15) (oi := ?oi_d19) (v := ?v_d19) ?ho_d19 ?hs_d19 ?hf_d19 ?hr_d19 ?hQ_d19 ?hy_d19 ?hS_d19 ?rest_d19; (case hr_d19 => kernel_rfl); (case hf_d19 => kernel_rfl); (case hs_d19 => kernel_rfl); (case ho_d19 => (simp only [List.getElem?_toArray, List.getElem?_cons_succ, List.getElem?_cons_zero]; rfl)); (case hS_d19 => assumption); (case hQ_d19 => exact fun _ _ _ h => h); (case hy_d19 => (refine Or.inl ⟨by rfl, ?_⟩; (intro w hSw; (try dsimp only at hSw); go_simp) <;> with_reducible rfl)); (try simp only [Act.put, List.setIfInBounds_toArray, List.set_cons_zero, List.set_cons_succ]))
                        refine wpAnyH_done (by kernel_rfl) ?_ _
                        have hol : ((o.take j ++ [x]) ++ o.drop j).length = j + 1 := by (simp <;> omega)
                        have ho9 : w7.ownsRow w.heap.size 9 1 z ((o.take j ++ [x]) ++ o.drop j).length (((o.take j ++ [x]) ++ o.drop j).map txtV) := by
                          rw [show j + 1 + (0) = j + 1 by omega, show (o.take j).map txtV ++ [txtV x] ++ (o.drop j).map txtV = ((o.take j ++ [x]) ++ o.drop j).map txtV by simp] at ho7
                          rw [hol]
                          exact owns_mono ho7 fun b hb => Nat.le_trans (hu.out.trans hu8 fun _ _ h => h).size (own_ge ho7 hb)
                        have hu9 := (hu.out.trans hu8 fun _ _ h => h).trans U7 fun _ _ h => h
                        have hA9 := Lib.hid (show Asc ((o.take j ++ [x]) ++ o.drop j) ∧ ∀ s ∈ (o.take j ++ [x]) ++ o.drop j, s ∈ l from ⟨hins.out, fun s hs => by
                          rw [List.append_assoc, List.mem_append] at hs
                          rcases hs with hs | hs
                          · exact hA.out.2 s (List.mem_of_mem_take hs)
                          · rcases List.mem_cons.1 hs with rfl | hs
                            · exact hxm.out
                            · exact hA.out.2 s (List.mem_of_mem_drop hs)⟩)
                        clear ho7 U7 hout1 hout2 hO hOT hu8 x8 x0 hu
                        go_wp2_with fail
                        go_roundw
                        case rel => exact ⟨i + 1, _, by go_num, by omega, by rw [hol]; omega, ho9, hA9, hu9⟩
                        case measure => simp [intOf]; omega
                case hsd12_1 =>
                  intro K hK
                  go_simp
                  try go_wp2_with fail
                  refine hK.out _ _ (by exact U.then_alloc _) (fun hHeld => ?_)
                  clear hK K hHeld
                  try simp only [Act.put, List.setIfInBounds_toArray, List.set_cons_zero, List.set_cons_succ]
                  refine anyH_opaque (fun w' => Upd Non w8 w' ∧ w'.ownsRow w8.heap.size 9 1 (.slice (some ⟨w8.heap.size, 0, none⟩) 0 0) 0 [] ∧ v1.heap.size ≠ w8.heap.size ∧ Has w' 1 (.slice (some ⟨v1.heap.size, 0, none⟩) 1 1) 1 [txtV x] ∧ v1.heap.size < w'.heap.size) (by exact ⟨U.then_alloc _, L.alloc _, Nat.ne_of_gt l0, (by first | exact has_new v1 [txtV x] _ 1 1 rfl (by decide) | exact (has_new v1 [txtV x] _ 1 1 rfl (by decide)).non (Upd.drew _ _)), by simp⟩) ?_
                  rintro v4 ⟨U, L, ne, B, lB⟩
                  refine wpAnyH_ready (rs := [4]) (by kernel_rfl) (by simp) ?_
                  refine (AllReadyH.cons (o := ?ood20_0) ?hod20_0 ?hsd20_0 AllReadyH.nil)
                  case hod20_0 => (simp only [List.getElem?_toArray, List.getElem?_cons_succ, List.getElem?_cons_zero]; rfl)
                  case hsd20_0 =>
                    intro K hK
                    have hs4 := Src.ofHas (P := Try.prog) (tx := 22) Try.underlying22 (hout1.out.non U) (txt_one _)
                    (refine step_app ?ygdsx21 ?ysdsx21 ?yxdsx21 22 22 ?yodsx21 w8.heap.size 9 (.string ⟨#[]⟩) 1 16 Try.underlying22 hinf.out rfl (.slice (some ⟨w8.heap.size, 0, none⟩) 0 0) 0 [] ?yhdsx21 L (.slice (some ⟨g5, 0, none⟩) j oc) j ((o.take j).map txtV) ?yidsx21 hs4 (by unfold maxLen; omega) (by omega) U.size ?ykdsx21; (case yodsx21 => exact rfl); (case ygdsx21 => rfl); (case yhdsx21 => rfl); (case yidsx21 => rfl))
                    case' ykdsx21 => intro v w5 ho5 hu5 hf5
                    rw [Nat.zero_add, List.nil_append] at ho5
                    have U5 : Upd Non w8 w5 := U.trans hu5 (fun b hb h => by have := own_ge L h; omega)
                    refine hK.out _ _ (by exact U5) (fun hHeld => ?_)
                    clear hK K hHeld
                    try simp only [Act.put, List.setIfInBounds_toArray, List.set_cons_zero, List.set_cons_succ]
                    refine anyH_opaque (fun w' => Upd Non w8 w' ∧ w'.ownsRow w8.heap.size 9 1 v j ((o.take j).map txtV) ∧ Has w' 1 (.slice (some ⟨v1.heap.size, 0, none⟩) 1 1) 1 [txtV x]) (by exact ⟨U5, ho5, B.upd hu5 (fun b h1 h2 => ne (by simp [At, Value.ownBlock] at h1 h2; omega))⟩) ?_
                    rintro v5 ⟨U, L, B⟩
                    clear hs4 ho5 hu5 hf5 U5
                    refine wpAnyH_ready (rs := [10]) (by kernel_rfl) (by simp) ?_
                    refine (AllReadyH.cons (o := ?ood22_0) ?hod22_0 ?hsd22_0 AllReadyH.nil)
                    case hod22_0 => (simp only [List.getElem?_toArray, List.getElem?_cons_succ, List.getElem?_cons_zero]; rfl)
                    case hsd22_0 =>
                      intro K hK
                      have hs5 := Src.ofHas (P := Try.prog) (tx := 22) Try.underlying22 B (txt_one [x])
                      (refine step_app ?ygdsx23 ?ysdsx23 ?yxdsx23 22 22 ?yodsx23 w8.heap.size 9 (.string ⟨#[]⟩) 1 16 Try.underlying22 hinf.out rfl v j ((o.take j).map txtV) ?yhdsx23 L (.slice (some ⟨v1.heap.size, 0, none⟩) 1 1) 1 [txtV x] ?yidsx23 hs5 (by unfold maxLen; omega) (by omega) U.size ?ykdsx23; (case yodsx23 => exact rfl); (case ygdsx23 => rfl); (case yhdsx23 => rfl); (case yidsx23 => rfl))
                      case' ykdsx23 => intro u w6 ho6 hu6 hf6
                      have U6 : Upd Non w8 w6 := U.trans hu6 (fun b hb h => by have := own_ge L h; omega)
                      refine hK.out _ _ (by exact U6) (fun hHeld => ?_)
                      clear hK K hHeld
                      try simp only [Act.put, List.setIfInBounds_toArray, List.set_cons_zero, List.set_cons_succ]
                      clear hs5 hu6 hf6 L U B
                      refine wpAnyH_ready (rs := [14]) (by kernel_rfl) (by simp) ?_
                      refine (AllReadyH.cons (o := ?ood24_0) ?hod24_0 ?hsd24_0 AllReadyH.nil)
                      case hod24_0 => (simp only [List.getElem?_toArray, List.getElem?_cons_succ, List.getElem?_cons_zero]; rfl)
                      case hsd24_0 =>
                        intro K hK
                        have hs6 := Src.ofHas (P := Try.prog) (tx := 22) Try.underlying22 (hout2.out.non U6) (txt_one _)
                        (refine step_app ?ygdsx25 ?ysdsx25 ?yxdsx25 22 22 ?yodsx25 w8.heap.size 9 (.string ⟨#[]⟩) 1 16 Try.underlying22 hinf.out rfl u (j + 1) ((o.take j).map txtV ++ [txtV x]) ?yhdsx25 ho6 (.slice (some ⟨g5, j, none⟩) 0 (oc - j)) (0) ((o.drop j).map txtV) ?yidsx25 hs6 (by unfold maxLen; omega) (by omega) U6.size ?ykdsx25; (case yodsx25 => exact rfl); (case ygdsx25 => rfl); (case yhdsx25 => rfl); (case yidsx25 => rfl))
                        case' ykdsx25 => intro z w7 ho7 hu7 hf7
                        have U7 : Upd Non w8 w7 := U6.trans hu7 (fun b hb h => by have := own_ge ho6 h; omega)
                        refine hK.out _ _ (by exact U7) (fun hHeld => ?_)
                        clear hK K hHeld
                        try simp only [Act.put, List.setIfInBounds_toArray, List.set_cons_zero, List.set_cons_succ]
                        clear hs6 hu7 hf7 ho6 U6
                        (refine wpAnyH_take (i := 15) (oi := ?oi_d26) (v := ?v_d26) ?ho_d26 ?hs_d26 ?hf_d26 ?hr_d26 ?hQ_d26 ?hy_d26 ?hS_d26 ?rest_d26; (case hr_d26 => kernel_rfl); (case hf_d26 => kernel_rfl); (case hs_d26 => kernel_rfl); (case ho_d26 => (simp only [List.getElem?_toArray, List.getElem?_cons_succ, List.getElem?_cons_zero]; rfl)); (case hS_d26 => assumption); (case hQ_d26 => exact fun _ _ _ h => h); (case hy_d26 => (refine Or.inl ⟨by rfl, ?_⟩; (intro w hSw; (try dsimp only at hSw); go_simp) <;> with_reducible rfl)); (try simp only [Act.put, List.setIfInBounds_toArray, List.set_cons_zero, List.set_cons_succ]))
                        refine wpAnyH_done (by kernel_rfl) ?_ _
                        have hol : ((o.take j ++ [x]) ++ o.drop j).length = j + 1 := by (simp <;> omega)
                        have ho9 : w7.ownsRow w.heap.size 9 1 z ((o.take j ++ [x]) ++ o.drop j).length (((o.take j ++ [x]) ++ o.drop j).map txtV) := by
                          rw [show j + 1 + (0) = j + 1 by omega, show (o.take j).map txtV ++ [txtV x] ++ (o.drop j).map txtV = ((o.take j ++ [x]) ++ o.drop j).map txtV by simp] at ho7
                          rw [hol]
                          exact owns_mono ho7 fun b hb => Nat.le_trans (hu.out.trans hu8 fun _ _ h => h).size (own_ge ho7 hb)
                        have hu9 := (hu.out.trans hu8 fun _ _ h => h).trans U7 fun _ _ h => h
                        have hA9 := Lib.hid (show Asc ((o.take j ++ [x]) ++ o.drop j) ∧ ∀ s ∈ (o.take j ++ [x]) ++ o.drop j, s ∈ l from ⟨hins.out, fun s hs => by
                          rw [List.append_assoc, List.mem_append] at hs
                          rcases hs with hs | hs
                          · exact hA.out.2 s (List.mem_of_mem_take hs)
                          · rcases List.mem_cons.1 hs with rfl | hs
                            · exact hxm.out
                            · exact hA.out.2 s (List.mem_of_mem_drop hs)⟩)
                        clear ho7 U7 hout1 hout2 hO hOT hu8 x8 x0 hu
                        go_wp2_with fail
                        go_roundw
                        case rel => exact ⟨i + 1, _, by go_num, by omega, by rw [hol]; omega, ho9, hA9, hu9⟩
                        case measure => simp [intOf]; omega
              case hsd11_1 =>
                intro K hK
                go_simp
                try go_wp2_with fail
                refine hK.out _ _ (by exact U.then_alloc _) (fun hHeld => ?_)
                clear hK K hHeld
                try simp only [Act.put, List.setIfInBounds_toArray, List.set_cons_zero, List.set_cons_succ]
                refine anyH_opaque (fun w' => Upd Non w8 w' ∧ Has w' 1 (.slice (some ⟨w8.heap.size, 0, none⟩) 1 1) 1 [txtV x] ∧ w8.heap.size < w'.heap.size) (by exact ⟨U.then_alloc _, (by first | exact has_new w8 [txtV x] _ 1 1 rfl (by decide) | exact (has_new w8 [txtV x] _ 1 1 rfl (by decide)).non (Upd.drew _ _)), by simp⟩) ?_
                rintro v6 ⟨U, B, lB⟩
                refine wpAnyH_ready (rs := [0]) (by kernel_rfl) (by simp) ?_
                refine (AllReadyH.cons (o := ?ood27_0) ?hod27_0 ?hsd27_0 AllReadyH.nil)
                case hod27_0 => (simp only [List.getElem?_toArray, List.getElem?_cons_succ, List.getElem?_cons_zero]; rfl)
                case hsd27_0 =>
                  intro K hK
                  go_simp
                  try go_wp2_with fail
                  refine hK.out _ _ (by exact U.then_alloc _) (fun hHeld => ?_)
                  clear hK K hHeld
                  try simp only [Act.put, List.setIfInBounds_toArray, List.set_cons_zero, List.set_cons_succ]
                  refine anyH_opaque (fun w' => Upd Non w8 w' ∧ w'.ownsRow w8.heap.size 9 1 (.slice (some ⟨v6.heap.size, 0, none⟩) 0 0) 0 [] ∧ Has w' 1 (.slice (some ⟨w8.heap.size, 0, none⟩) 1 1) 1 [txtV x] ∧ w8.heap.size ≠ v6.heap.size) (by exact ⟨U.then_alloc _, World.ownsRow_lit (size := 1) v6 #[] 0 U.size (Nat.zero_le _) rfl, (by first | exact B.non (Upd.alloc _ _ _) | exact (B.non (Upd.alloc _ _ _)).non (Upd.drew _ _)), Nat.ne_of_lt lB⟩) ?_
                  rintro v7 ⟨U, L, B, ne⟩
                  refine wpAnyH_ready (rs := [4]) (by kernel_rfl) (by simp) ?_
                  refine (AllReadyH.cons (o := ?ood28_0) ?hod28_0 ?hsd28_0 AllReadyH.nil)
                  case hod28_0 => (simp only [List.getElem?_toArray, List.getElem?_cons_succ, List.getElem?_cons_zero]; rfl)
                  case hsd28_0 =>
                    intro K hK
                    have hs4 := Src.ofHas (P := Try.prog) (tx := 22) Try.underlying22 (hout1.out.non U) (txt_one _)
                    (refine step_app ?ygdsx29 ?ysdsx29 ?yxdsx29 22 22 ?yodsx29 w8.heap.size 9 (.string ⟨#[]⟩) 1 16 Try.underlying22 hinf.out rfl (.slice (some ⟨v6.heap.size, 0, none⟩) 0 0) 0 [] ?yhdsx29 L (.slice (some ⟨g5, 0, none⟩) j oc) j ((o.take j).map txtV) ?yidsx29 hs4 (by unfold maxLen; omega) (by omega) U.size ?ykdsx29; (case yodsx29 => exact rfl); (case ygdsx29 => rfl); (case yhdsx29 => rfl); (case yidsx29 => rfl))
                    case' ykdsx29 => intro v w5 ho5 hu5 hf5
                    rw [Nat.zero_add, List.nil_append] at ho5
                    have U5 : Upd Non w8 w5 := U.trans hu5 (fun b hb h => by have := own_ge L h; omega)
                    refine hK.out _ _ (by exact U5) (fun hHeld => ?_)
                    clear hK K hHeld
                    try simp only [Act.put, List.setIfInBounds_toArray, List.set_cons_zero, List.set_cons_succ]
                    refine anyH_opaque (fun w' => Upd Non w8 w' ∧ w'.ownsRow w8.heap.size 9 1 v j ((o.take j).map txtV) ∧ Has w' 1 (.slice (some ⟨w8.heap.size, 0, none⟩) 1 1) 1 [txtV x]) (by exact ⟨U5, ho5, B.upd hu5 (fun b h1 h2 => ne (by simp [At, Value.ownBlock] at h1 h2; omega))⟩) ?_
                    rintro v8 ⟨U, L, B⟩
                    clear hs4 ho5 hu5 hf5 U5
                    refine wpAnyH_ready (rs := [10]) (by kernel_rfl) (by simp) ?_
                    refine (AllReadyH.cons (o := ?ood30_0) ?hod30_0 ?hsd30_0 AllReadyH.nil)
                    case hod30_0 => (simp only [List.getElem?_toArray, List.getElem?_cons_succ, List.getElem?_cons_zero]; rfl)
                    case hsd30_0 =>
                      intro K hK
                      have hs5 := Src.ofHas (P := Try.prog) (tx := 22) Try.underlying22 B (txt_one [x])
                      (refine step_app ?ygdsx31 ?ysdsx31 ?yxdsx31 22 22 ?yodsx31 w8.heap.size 9 (.string ⟨#[]⟩) 1 16 Try.underlying22 hinf.out rfl v j ((o.take j).map txtV) ?yhdsx31 L (.slice (some ⟨w8.heap.size, 0, none⟩) 1 1) 1 [txtV x] ?yidsx31 hs5 (by unfold maxLen; omega) (by omega) U.size ?ykdsx31; (case yodsx31 => exact rfl); (case ygdsx31 => rfl); (case yhdsx31 => rfl); (case yidsx31 => rfl))
                      case' ykdsx31 => intro u w6 ho6 hu6 hf6
                      have U6 : Upd Non w8 w6 := U.trans hu6 (fun b hb h => by have := own_ge L h; omega)
                      refine hK.out _ _ (by exact U6) (fun hHeld => ?_)
                      clear hK K hHeld
                      try simp only [Act.put, List.setIfInBounds_toArray, List.set_cons_zero, List.set_cons_succ]
                      clear hs5 hu6 hf6 L U B
                      refine wpAnyH_ready (rs := [14]) (by kernel_rfl) (by simp) ?_
                      refine (AllReadyH.cons (o := ?ood32_0) ?hod32_0 ?hsd32_0 AllReadyH.nil)
                      case hod32_0 => (simp only [List.getElem?_toArray, List.getElem?_cons_succ, List.getElem?_cons_zero]; rfl)
                      case hsd32_0 =>
                        intro K hK
                        have hs6 := Src.ofHas (P := Try.prog) (tx := 22) Try.underlying22 (hout2.out.non U6) (txt_one _)
                        (refine step_app ?ygdsx33 ?ysdsx33 ?yxdsx33 22 22 ?yodsx33 w8.heap.size 9 (.string ⟨#[]⟩) 1 16 Try.underlying22 hinf.out rfl u (j + 1) ((o.take j).map txtV ++ [txtV x]) ?yhdsx33 ho6 (.slice (some ⟨g5, j, none⟩) 0 (oc - j)) (0) ((o.drop j).map txtV) ?yidsx33 hs6 (by unfold maxLen; omega) (by omega) U6.size ?ykdsx33; (case yodsx33 => exact rfl); (case ygdsx33 => rfl); (case yhdsx33 => rfl); (case yidsx33 => rfl))
                        case' ykdsx33 => intro z w7 ho7 hu7 hf7
                        have U7 : Upd Non w8 w7 := U6.trans hu7 (fun b hb h => by have := own_ge ho6 h; omega)
                        refine hK.out _ _ (by exact U7) (fun hHeld => ?_)
                        clear hK K hHeld
                        try simp only [Act.put, List.setIfInBounds_toArray, List.set_cons_zero, List.set_cons_succ]
                        clear hs6 hu7 hf7 ho6 U6
                        (refine wpAnyH_take (i := 15) (oi := ?oi_d34) (v := ?v_d34) ?ho_d34 ?hs_d34 ?hf_d34 ?hr_d34 ?hQ_d34 ?hy_d34 ?hS_d34 ?rest_d34; (case hr_d34 => kernel_rfl); (case hf_d34 => kernel_rfl); (case hs_d34 => kernel_rfl); (case ho_d34 => (simp only [List.getElem?_toArray, List.getElem?_cons_succ, List.getElem?_cons_zero]; rfl)); (case hS_d34 => assumption); (case hQ_d34 => exact fun _ _ _ h => h); (case hy_d34 => (refine Or.inl ⟨by rfl, ?_⟩; (intro w hSw; (try dsimp only at hSw); go_simp) <;> with_reducible rfl)); (try simp only [Act.put, List.setIfInBounds_toArray, List.set_cons_zero, List.set_cons_succ]))
                        refine wpAnyH_done (by kernel_rfl) ?_ _
                        have hol : ((o.take j ++ [x]) ++ o.drop j).length = j + 1 := by (simp <;> omega)
                        have ho9 : w7.ownsRow w.heap.size 9 1 z ((o.take j ++ [x]) ++ o.drop j).length (((o.take j ++ [x]) ++ o.drop j).map txtV) := by
                          rw [show j + 1 + (0) = j + 1 by omega, show (o.take j).map txtV ++ [txtV x] ++ (o.drop j).map txtV = ((o.take j ++ [x]) ++ o.drop j).map txtV by simp] at ho7
                          rw [hol]
                          exact owns_mono ho7 fun b hb => Nat.le_trans (hu.out.trans hu8 fun _ _ h => h).size (own_ge ho7 hb)
                        have hu9 := (hu.out.trans hu8 fun _ _ h => h).trans U7 fun _ _ h => h
                        have hA9 := Lib.hid (show Asc ((o.take j ++ [x]) ++ o.drop j) ∧ ∀ s ∈ (o.take j ++ [x]) ++ o.drop j, s ∈ l from ⟨hins.out, fun s hs => by
                          rw [List.append_assoc, List.mem_append] at hs
                          rcases hs with hs | hs
                          · exact hA.out.2 s (List.mem_of_mem_take hs)
                          · rcases List.mem_cons.1 hs with rfl | hs
                            · exact hxm.out
                            · exact hA.out.2 s (List.mem_of_mem_drop hs)⟩)
                        clear ho7 U7 hout1 hout2 hO hOT hu8 x8 x0 hu
                        go_wp2_with fail
                        go_roundw
                        case rel => exact ⟨i + 1, _, by go_num, by omega, by rw [hol]; omega, ho9, hA9, hu9⟩
                        case measure => simp [intOf]; omega
    · obtain rfl : i = ln := by omega
      have hin' : ¬ (i : Int) < (i : Int) := by omega
      have hfin : R (.returned (.slice oa n oc)) w1 := by
        rw [hR.out]
        refine ⟨_, o, rfl, ?_, fun k hk => ⟨own_ge hO hk, own_lt hO hk⟩, hA.out.1, hA.out.2, by omega, hu⟩
        have := has_of_owns hO
        unfold Txts; rw [hn]; exact this
      clear hR hA hO hu hn hil
      go_wp2_with fail
      exact hfin
end Go.Proofs.Ytphdclafeijpnaa
