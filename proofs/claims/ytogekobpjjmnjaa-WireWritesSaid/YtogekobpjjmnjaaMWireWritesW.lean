/- The walk over WireWrites (printed by gen/mkww.py). -/
import Derived.Test.YtogekobpjjmnjaaMWbC
import Derived.Test.YtogekobpjjmnjaaMWrM
namespace Go.Proofs.Ytogekobpjjmnjaa
open Go.RowKit Go.Amb
set_option linter.unusedVariables false
set_option linter.unusedSimpArgs false
set_option maxRecDepth 100000
attribute [local go_sem ↓] Go.wp_at_zero Go.wp_at_succ
def bytesB (q : Rq) : List UInt8 := if rightQ q then putQ q else []
theorem bytesT_eq (q : Rq) : bytesT q = #[.string ⟨(bytesB q).toArray⟩, .int .i64 (ckQ q)] := by
  unfold bytesT bytesB ckQ
  split <;> rfl
theorem wBytes2 (q : Rq) (pv : Value) (w : World) (hP : Ints w pv q.parts) (hs : smallQ q) (hpb : ∀ k, At pv k → k < w.heap.size) (hid : idOk q) : Calls Try.prog 9 #[rqV q pv] w (fun en w' => ∃ bv, en = .returned (.tuple #[bv, .int .i64 (ckQ q)]) ∧ Bytes w' bv (bytesB q) ∧ Upd Non w w' ∧ ∀ k, At bv k → w.heap.size ≤ k ∧ k < w'.heap.size) := by
  refine (wBytes q pv w hP hs hpb hid).mono ?_
  rintro en w' (⟨h, v, rfl, ho, hu⟩ | ⟨h, rfl, hu⟩)
  · refine ⟨v, by rw [show ckQ q = 0 from if_pos h], ?_, hu, fun k hk => ⟨by have := own_ge ho hk; omega, own_lt ho hk⟩⟩
    rw [show bytesB q = putQ q from if_pos h]
    exact ho.bytes
  · refine ⟨.slice none 0 0, by rw [show ckQ q = 4 from if_neg h], ?_, hu, fun k hk => by simp [At, Value.ownBlock] at hk⟩
    rw [show bytesB q = [] from if_neg h]
    exact Has.nil _ _
set_option maxHeartbeats 8000000 in
theorem lWireWrites (q : Rq) (pv : Value) (w : World) (hP : Ints w pv q.parts) (hs : smallQ q) (hpb : ∀ k, At pv k → k < w.heap.size) (hid : idOk q) : Calls Try.prog 3 #[rqV q pv] w (Ret (.bool true) w) := by
  have cL := Lib.hid lives24
  have hx := Lib.hid hP
  obtain ⟨pa, pc, rfl, hlc, hcm, -⟩ := has1 hP
  unfold maxLen at hcm
  have hb := Lib.hid (fun w' (hu : Upd Non w w') => wBytes2 q _ w' (hx.out.non hu) hs (fun k hk => Nat.lt_of_lt_of_le (hpb k hk) hu.size) hid)
  have hF := Lib.hid (fun w' (hu : Upd Non w w') => rBytes q _ w' (hx.out.non hu) hs (fun k hk => Nat.lt_of_lt_of_le (hpb k hk) hu.size) hid)
  rw [bytesT_eq] at hF
  have c3' := Lib.hid (fun w' (hu : Upd Non w w') => wCheck q _ w' (hx.out.non hu) hs)
  have c4' := Lib.hid (fun w' (hu : Upd Non w w') => rCheck q _ w' (hx.out.non hu) hs)
  have c1 := Lib.hid (fun w => wFields q.kind w)
  have c2 := Lib.hid (fun w => rFields q.kind w)
  generalize lets q.kind = ls at *
  generalize bytesB q = bs at *
  generalize ckQ q = ckq at *
  clear hs hid hpb hP hx
  obtain ⟨kind, session, bucket, object, version, pre, delim, body, ck, re, im, id, n, parts⟩ := q
  unfold rqV rqC at *
  dsimp only at *
  have hst := heap_alloc_new w (.cells #[.int .i64 kind, .int .i64 session, .string ⟨bucket.toArray⟩, .string ⟨object.toArray⟩, .string ⟨version.toArray⟩, .string ⟨pre.toArray⟩, .string ⟨delim.toArray⟩, .string ⟨body.toArray⟩, .int .i64 ck, .int .i64 re, .int .i64 im, .int .i64 id, .int .i64 n, .slice pa parts.length pc] 30)
  have hsu : Upd Non w (w.alloc (.cells #[.int .i64 kind, .int .i64 session, .string ⟨bucket.toArray⟩, .string ⟨object.toArray⟩, .string ⟨version.toArray⟩, .string ⟨pre.toArray⟩, .string ⟨delim.toArray⟩, .string ⟨body.toArray⟩, .int .i64 ck, .int .i64 re, .int .i64 im, .int .i64 id, .int .i64 n, .slice pa parts.length pc] 30)) := Upd.alloc _ _ _
  have hsq : Hid ((Try.prog.info? 30).map (·.size) = some (#[.int .i64 kind, .int .i64 session, .string ⟨bucket.toArray⟩, .string ⟨object.toArray⟩, .string ⟨version.toArray⟩, .string ⟨pre.toArray⟩, .string ⟨delim.toArray⟩, .string ⟨body.toArray⟩, .int .i64 ck, .int .i64 re, .int .i64 im, .int .i64 id, .int .i64 n, .slice pa parts.length pc] : Array Value).size) := Lib.hid (by kernel_rfl)
  by_cases hl : parts.length ≤ 1000
  case neg =>
    have hlI : ¬ (parts.length : Int) ≤ 1000 := by omega
    clear hb hF c3' c4' c1 c2 hst
    go_enter Try.func3, Try.ntmps3
    go_wp2_with fail
    refine (cL.out _).mono ?_
    rintro en w1 ⟨rfl, hu⟩
    have hU := hsu.trans hu fun _ _ h => h
    go_wp2_with fail
    go_ret
    exact ⟨rfl, hU⟩
  have hlI : (parts.length : Int) ≤ 1000 := by omega
  obtain ⟨N, hN⟩ : ∃ N, w.heap.size = N := ⟨_, rfl⟩
  rw [hN] at hst
  go_enter Try.func3, Try.ntmps3
  go_wp2_with ((with_reducible (show wpList _ _ _ (⟨_, Op.load _ _, _, _, _, _⟩ :: _) _ _)); refine loadB_list rfl 30 _ rfl N #[.int .i64 kind, .int .i64 session, .string ⟨bucket.toArray⟩, .string ⟨object.toArray⟩, .string ⟨version.toArray⟩, .string ⟨pre.toArray⟩, .string ⟨delim.toArray⟩, .string ⟨body.toArray⟩, .int .i64 ck, .int .i64 re, .int .i64 im, .int .i64 id, .int .i64 n, .slice pa parts.length pc] _ _ (by rw [← hN]; rfl) hst Try.underlying30 rfl hsq.out ?_)
  refine (hb.out _ hsu).mono ?_
  rintro en w1 ⟨bv, rfl, hbv, hu, hbk⟩
  have gb := hu.heap hst fun h => h
  have gU := hsu.trans hu fun _ _ h => h
  clear hu hst hsu hb
  go_wp2_with ((with_reducible (show wpList _ _ _ (⟨_, Op.load _ _, _, _, _, _⟩ :: _) _ _)); refine loadB_list rfl 30 _ rfl N #[.int .i64 kind, .int .i64 session, .string ⟨bucket.toArray⟩, .string ⟨object.toArray⟩, .string ⟨version.toArray⟩, .string ⟨pre.toArray⟩, .string ⟨delim.toArray⟩, .string ⟨body.toArray⟩, .int .i64 ck, .int .i64 re, .int .i64 im, .int .i64 id, .int .i64 n, .slice pa parts.length pc] _ _ (by first | rfl | (rw [← hN]; rfl)) gb Try.underlying30 rfl hsq.out ?_)
  refine (hF.out _ gU).mono ?_
  rintro en w2 ⟨rfl, hu⟩
  replace gb := hu.heap gb fun h => h
  replace hbv := hbv.non hu
  have gU0 := gU.trans hu fun _ _ h => h
  clear hu hF gU
  go_wp2_with fail
  try rw [hN]
  have gUb : Hid (∀ w', Upd Non w2 w' → Upd Non w2 w') := Lib.hid (fun _ h => h)
  have gUw := Lib.hid (fun w' (h : Upd Non w2 w') => gU0.trans h fun _ _ h => h)
  have c3 := Lib.hid (fun w' (h : Upd Non w2 w') => c3'.out w' (gU0.trans h fun _ _ h => h))
  have c4 := Lib.hid (fun w' (h : Upd Non w2 w') => c4'.out w' (gU0.trans h fun _ _ h => h))
  replace gb := (Upd.drew Non w2).heap gb fun h => h
  have gU := Upd.drew Non w2
  clear c3' c4' gU0
  refine wp_region_held_drew (S := (fun w' => w'.heap[N]? = some (.cells #[.int .i64 kind, .int .i64 session, .string ⟨bucket.toArray⟩, .string ⟨object.toArray⟩, .string ⟨version.toArray⟩, .string ⟨pre.toArray⟩, .string ⟨delim.toArray⟩, .string ⟨body.toArray⟩, .int .i64 ck, .int .i64 re, .int .i64 im, .int .i64 id, .int .i64 n, .slice pa parts.length pc] 30 (0, 0)))) (by kernel_rfl) (by exact gb) (fun hHeld => ?_)
  (refine wpAnyH_take (i := 0) (oi := ?oi_w1) (v := ?v_w1) ?ho_w1 ?hs_w1 ?hf_w1 ?hr_w1 ?hQ_w1 ?hy_w1 ?hS_w1 ?rest_w1; (case hr_w1 => kernel_rfl); (case hf_w1 => kernel_rfl); (case hs_w1 => kernel_rfl); (case ho_w1 => (simp only [List.getElem?_toArray, List.getElem?_cons_succ, List.getElem?_cons_zero]; rfl)); (case hS_w1 => assumption); (case hQ_w1 => exact fun _ _ _ h => h); (case hy_w1 => (refine Or.inl ⟨by rfl, ?_⟩; (intro w hSw; (try dsimp only at hSw); go_simp) <;> with_reducible rfl)); (try simp only [Act.put, List.setIfInBounds_toArray, List.set_cons_zero, List.set_cons_succ]))
  (refine wpAnyH_take (i := 1) (oi := ?oi_w2) (v := ?v_w2) ?ho_w2 ?hs_w2 ?hf_w2 ?hr_w2 ?hQ_w2 ?hy_w2 ?hS_w2 ?rest_w2; (case hr_w2 => kernel_rfl); (case hf_w2 => kernel_rfl); (case hs_w2 => kernel_rfl); (case ho_w2 => (simp only [List.getElem?_toArray, List.getElem?_cons_succ, List.getElem?_cons_zero]; rfl)); (case hS_w2 => assumption); (case hQ_w2 => exact fun _ _ _ h => h); (case hy_w2 => (refine Or.inl ⟨by rfl, ?_⟩; (intro w hSw; have z0 : w.cell? ⟨N, 0, none⟩ = some (.int .i64 kind) := (cells_of hSw).1 0; go_simp) <;> with_reducible rfl)); (try simp only [Act.put, List.setIfInBounds_toArray, List.set_cons_zero, List.set_cons_succ]))
  (refine wpAnyH_take (i := 3) (oi := ?oi_w3) (v := ?v_w3) ?ho_w3 ?hs_w3 ?hf_w3 ?hr_w3 ?hQ_w3 ?hy_w3 ?hS_w3 ?rest_w3; (case hr_w3 => kernel_rfl); (case hf_w3 => kernel_rfl); (case hs_w3 => kernel_rfl); (case ho_w3 => (simp only [List.getElem?_toArray, List.getElem?_cons_succ, List.getElem?_cons_zero]; rfl)); (case hS_w3 => assumption); (case hQ_w3 => exact fun _ _ _ h => h); (case hy_w3 => (refine Or.inl ⟨by rfl, ?_⟩; (intro w hSw; (try dsimp only at hSw); go_simp) <;> with_reducible rfl)); (try simp only [Act.put, List.setIfInBounds_toArray, List.set_cons_zero, List.set_cons_succ]))
  (refine wpAnyH_take (i := 4) (oi := ?oi_w4) (v := ?v_w4) ?ho_w4 ?hs_w4 ?hf_w4 ?hr_w4 ?hQ_w4 ?hy_w4 ?hS_w4 ?rest_w4; (case hr_w4 => kernel_rfl); (case hf_w4 => kernel_rfl); (case hs_w4 => kernel_rfl); (case ho_w4 => (simp only [List.getElem?_toArray, List.getElem?_cons_succ, List.getElem?_cons_zero]; rfl)); (case hS_w4 => assumption); (case hQ_w4 => exact fun _ _ _ h => h); (case hy_w4 => (refine Or.inl ⟨by rfl, ?_⟩; (intro w hSw; have z0 : w.cell? ⟨N, 0, none⟩ = some (.int .i64 kind) := (cells_of hSw).1 0; go_simp) <;> with_reducible rfl)); (try simp only [Act.put, List.setIfInBounds_toArray, List.set_cons_zero, List.set_cons_succ]))
  refine wpAnyH_ready (rs := [2]) (by kernel_rfl) (by simp) ?_
  refine (AllReadyH.cons (o := ?oow5_0) ?how5_0 ?hsw5_0 AllReadyH.nil)
  case how5_0 => (simp only [List.getElem?_toArray, List.getElem?_cons_succ, List.getElem?_cons_zero]; rfl)
  case hsw5_0 =>
    intro K hK
    go_simp
    (go_at_call 11; (refine (c1.out _).mono ?_); rintro en y1 ⟨rfl, hu⟩; replace gb := hu.heap gb (fun h => h); replace gU := gU.trans hu (fun _ _ h => h); clear hu)
    try go_wp2_with fail
    refine hK.out _ _ (by exact gb) (fun hHeld => ?_)
    clear hK K
    try simp only [Act.put, List.setIfInBounds_toArray, List.set_cons_zero, List.set_cons_succ]
    refine wpAnyH_ready (rs := [5]) (by kernel_rfl) (by simp) ?_
    refine (AllReadyH.cons (o := ?oow6_0) ?how6_0 ?hsw6_0 AllReadyH.nil)
    case how6_0 => (simp only [List.getElem?_toArray, List.getElem?_cons_succ, List.getElem?_cons_zero]; rfl)
    case hsw6_0 =>
      intro K hK
      go_simp
      (go_at_call 12; (refine (c2.out _).mono ?_); rintro en y2 ⟨rfl, hu⟩; replace gb := hu.heap gb (fun h => h); replace gU := gU.trans hu (fun _ _ h => h); clear hu)
      try go_wp2_with fail
      refine hK.out _ _ (by exact gb) (fun hHeld => ?_)
      clear hK K
      try simp only [Act.put, List.setIfInBounds_toArray, List.set_cons_zero, List.set_cons_succ]
      (refine wpAnyH_take (i := 6) (oi := ?oi_w7) (v := ?v_w7) ?ho_w7 ?hs_w7 ?hf_w7 ?hr_w7 ?hQ_w7 ?hy_w7 ?hS_w7 ?rest_w7; (case hr_w7 => kernel_rfl); (case hf_w7 => kernel_rfl); (case hs_w7 => kernel_rfl); (case ho_w7 => (simp only [List.getElem?_toArray, List.getElem?_cons_succ, List.getElem?_cons_zero]; rfl)); (case hS_w7 => assumption); (case hQ_w7 => exact fun _ _ _ h => h); (case hy_w7 => (refine Or.inl ⟨by rfl, ?_⟩; (intro w hSw; (try dsimp only at hSw); go_simp) <;> with_reducible rfl)); (try simp only [Act.put, List.setIfInBounds_toArray, List.set_cons_zero, List.set_cons_succ]))
      (refine wpAnyH_take (i := 7) (oi := ?oi_w8) (v := ?v_w8) ?ho_w8 ?hs_w8 ?hf_w8 ?hr_w8 ?hQ_w8 ?hy_w8 ?hS_w8 ?rest_w8; (case hr_w8 => kernel_rfl); (case hf_w8 => kernel_rfl); (case hs_w8 => kernel_rfl); (case ho_w8 => (simp only [List.getElem?_toArray, List.getElem?_cons_succ, List.getElem?_cons_zero]; rfl)); (case hS_w8 => assumption); (case hQ_w8 => exact fun _ _ _ h => h); (case hy_w8 => (refine Or.inl ⟨by rfl, ?_⟩; (intro w hSw; (try dsimp only at hSw); go_simp) <;> with_reducible rfl)); (try simp only [Act.put, List.setIfInBounds_toArray, List.set_cons_zero, List.set_cons_succ]))
      (refine wpAnyH_take (i := 8) (oi := ?oi_w9) (v := ?v_w9) ?ho_w9 ?hs_w9 ?hf_w9 ?hr_w9 ?hQ_w9 ?hy_w9 ?hS_w9 ?rest_w9; (case hr_w9 => kernel_rfl); (case hf_w9 => kernel_rfl); (case hs_w9 => kernel_rfl); (case ho_w9 => (simp only [List.getElem?_toArray, List.getElem?_cons_succ, List.getElem?_cons_zero]; rfl)); (case hS_w9 => assumption); (case hQ_w9 => exact fun _ _ _ h => h); (case hy_w9 => (refine yieldsIf_load_mid ?_ 30 (.tmp 1) ?_ N 0 ?_ [.int .i64 kind, .int .i64 session, .string ⟨bucket.toArray⟩, .string ⟨object.toArray⟩, .string ⟨version.toArray⟩, .string ⟨pre.toArray⟩, .string ⟨delim.toArray⟩, .string ⟨body.toArray⟩, .int .i64 ck, .int .i64 re, .int .i64 im, .int .i64 id, .int .i64 n, .slice pa parts.length pc] _ (fun w hS => blk_range hS) Try.underlying30 rfl hsq.out <;> rfl)); (try simp only [Act.put, List.setIfInBounds_toArray, List.set_cons_zero, List.set_cons_succ]))
      (refine wpAnyH_take (i := 10) (oi := ?oi_w10) (v := ?v_w10) ?ho_w10 ?hs_w10 ?hf_w10 ?hr_w10 ?hQ_w10 ?hy_w10 ?hS_w10 ?rest_w10; (case hr_w10 => kernel_rfl); (case hf_w10 => kernel_rfl); (case hs_w10 => kernel_rfl); (case ho_w10 => (simp only [List.getElem?_toArray, List.getElem?_cons_succ, List.getElem?_cons_zero]; rfl)); (case hS_w10 => assumption); (case hQ_w10 => exact fun _ _ _ h => h); (case hy_w10 => (refine yieldsIf_load_mid ?_ 30 (.tmp 1) ?_ N 0 ?_ [.int .i64 kind, .int .i64 session, .string ⟨bucket.toArray⟩, .string ⟨object.toArray⟩, .string ⟨version.toArray⟩, .string ⟨pre.toArray⟩, .string ⟨delim.toArray⟩, .string ⟨body.toArray⟩, .int .i64 ck, .int .i64 re, .int .i64 im, .int .i64 id, .int .i64 n, .slice pa parts.length pc] _ (fun w hS => blk_range hS) Try.underlying30 rfl hsq.out <;> rfl)); (try simp only [Act.put, List.setIfInBounds_toArray, List.set_cons_zero, List.set_cons_succ]))
      refine wpAnyH_ready (rs := [9]) (by kernel_rfl) (by simp) ?_
      refine (AllReadyH.cons (o := ?oow11_0) ?how11_0 ?hsw11_0 AllReadyH.nil)
      case how11_0 => (simp only [List.getElem?_toArray, List.getElem?_cons_succ, List.getElem?_cons_zero]; rfl)
      case hsw11_0 =>
        intro K hK
        go_simp
        (go_at_call 13; (refine (c3.out _ gU).mono ?_); rintro en y3 ⟨rfl, hu⟩; replace gb := hu.heap gb (fun h => h); replace gU := gU.trans hu (fun _ _ h => h); clear hu)
        try go_wp2_with fail
        refine hK.out _ _ (by exact gb) (fun hHeld => ?_)
        clear hK K
        try simp only [Act.put, List.setIfInBounds_toArray, List.set_cons_zero, List.set_cons_succ]
        refine wpAnyH_ready (rs := [11]) (by kernel_rfl) (by simp) ?_
        refine (AllReadyH.cons (o := ?oow12_0) ?how12_0 ?hsw12_0 AllReadyH.nil)
        case how12_0 => (simp only [List.getElem?_toArray, List.getElem?_cons_succ, List.getElem?_cons_zero]; rfl)
        case hsw12_0 =>
          intro K hK
          go_simp
          (go_at_call 14; (refine (c4.out _ gU).mono ?_); rintro en y4 ⟨rfl, hu⟩; replace gb := hu.heap gb (fun h => h); replace gU := gU.trans hu (fun _ _ h => h); clear hu)
          try go_wp2_with fail
          refine hK.out _ _ (by exact gb) (fun hHeld => ?_)
          clear hK K
          try simp only [Act.put, List.setIfInBounds_toArray, List.set_cons_zero, List.set_cons_succ]
          (refine wpAnyH_take (i := 12) (oi := ?oi_w13) (v := ?v_w13) ?ho_w13 ?hs_w13 ?hf_w13 ?hr_w13 ?hQ_w13 ?hy_w13 ?hS_w13 ?rest_w13; (case hr_w13 => kernel_rfl); (case hf_w13 => kernel_rfl); (case hs_w13 => kernel_rfl); (case ho_w13 => (simp only [List.getElem?_toArray, List.getElem?_cons_succ, List.getElem?_cons_zero]; rfl)); (case hS_w13 => assumption); (case hQ_w13 => exact fun _ _ _ h => h); (case hy_w13 => (refine Or.inl ⟨by rfl, ?_⟩; (intro w hSw; (try dsimp only at hSw); go_simp) <;> with_reducible rfl)); (try simp only [Act.put, List.setIfInBounds_toArray, List.set_cons_zero, List.set_cons_succ]))
          (refine wpAnyH_take (i := 13) (oi := ?oi_w14) (v := ?v_w14) ?ho_w14 ?hs_w14 ?hf_w14 ?hr_w14 ?hQ_w14 ?hy_w14 ?hS_w14 ?rest_w14; (case hr_w14 => kernel_rfl); (case hf_w14 => kernel_rfl); (case hs_w14 => kernel_rfl); (case ho_w14 => (simp only [List.getElem?_toArray, List.getElem?_cons_succ, List.getElem?_cons_zero]; rfl)); (case hS_w14 => assumption); (case hQ_w14 => exact fun _ _ _ h => h); (case hy_w14 => (refine Or.inl ⟨by rfl, ?_⟩; (intro w hSw; (try dsimp only at hSw); go_simp) <;> with_reducible rfl)); (try simp only [Act.put, List.setIfInBounds_toArray, List.set_cons_zero, List.set_cons_succ]))
          (refine wpAnyH_take (i := 14) (oi := ?oi_w15) (v := ?v_w15) ?ho_w15 ?hs_w15 ?hf_w15 ?hr_w15 ?hQ_w15 ?hy_w15 ?hS_w15 ?rest_w15; (case hr_w15 => kernel_rfl); (case hf_w15 => kernel_rfl); (case hs_w15 => kernel_rfl); (case ho_w15 => (simp only [List.getElem?_toArray, List.getElem?_cons_succ, List.getElem?_cons_zero]; rfl)); (case hS_w15 => assumption); (case hQ_w15 => exact fun _ _ _ h => h); (case hy_w15 => (refine Or.inl ⟨by rfl, ?_⟩; (intro w hSw; (try dsimp only at hSw); go_simp) <;> with_reducible rfl)); (try simp only [Act.put, List.setIfInBounds_toArray, List.set_cons_zero, List.set_cons_succ]))
          (refine wpAnyH_take (i := 15) (oi := ?oi_w16) (v := ?v_w16) ?ho_w16 ?hs_w16 ?hf_w16 ?hr_w16 ?hQ_w16 ?hy_w16 ?hS_w16 ?rest_w16; (case hr_w16 => kernel_rfl); (case hf_w16 => kernel_rfl); (case hs_w16 => kernel_rfl); (case ho_w16 => (simp only [List.getElem?_toArray, List.getElem?_cons_succ, List.getElem?_cons_zero]; rfl)); (case hS_w16 => assumption); (case hQ_w16 => exact fun _ _ _ h => h); (case hy_w16 => (refine Or.inl ⟨by rfl, ?_⟩; (intro w hSw; (try dsimp only at hSw); go_simp) <;> with_reducible rfl)); (try simp only [Act.put, List.setIfInBounds_toArray, List.set_cons_zero, List.set_cons_succ]))
          (refine wpAnyH_take (i := 17) (oi := ?oi_w17) (v := ?v_w17) ?ho_w17 ?hs_w17 ?hf_w17 ?hr_w17 ?hQ_w17 ?hy_w17 ?hS_w17 ?rest_w17; (case hr_w17 => kernel_rfl); (case hf_w17 => kernel_rfl); (case hs_w17 => kernel_rfl); (case ho_w17 => (simp only [List.getElem?_toArray, List.getElem?_cons_succ, List.getElem?_cons_zero]; rfl)); (case hS_w17 => assumption); (case hQ_w17 => exact fun _ _ _ h => h); (case hy_w17 => (refine Or.inl ⟨by rfl, ?_⟩; (intro w hSw; (try dsimp only at hSw); go_simp) <;> with_reducible rfl)); (try simp only [Act.put, List.setIfInBounds_toArray, List.set_cons_zero, List.set_cons_succ]))
          refine wpAnyH_ready (rs := [16]) (by kernel_rfl) (by simp) ?_
          refine (AllReadyH.cons (o := ?oow18_0) ?how18_0 ?hsw18_0 AllReadyH.nil)
          case how18_0 => (simp only [List.getElem?_toArray, List.getElem?_cons_succ, List.getElem?_cons_zero]; rfl)
          case hsw18_0 =>
            intro K hK
            have hstr := run_str (P := Try.prog) _ 32 9 5 Try.underlying32 Try.underlying5 Try.underlying9 _ _ (hbv.non (gUb.out _ gU))
            go_simp
            refine hK.out _ _ (by exact gb) (fun hHeld => ?_)
            clear hK K
            try simp only [Act.put, List.setIfInBounds_toArray, List.set_cons_zero, List.set_cons_succ]
            (refine wpAnyH_take (i := 18) (oi := ?oi_w19) (v := ?v_w19) ?ho_w19 ?hs_w19 ?hf_w19 ?hr_w19 ?hQ_w19 ?hy_w19 ?hS_w19 ?rest_w19; (case hr_w19 => kernel_rfl); (case hf_w19 => kernel_rfl); (case hs_w19 => kernel_rfl); (case ho_w19 => (simp only [List.getElem?_toArray, List.getElem?_cons_succ, List.getElem?_cons_zero]; rfl)); (case hS_w19 => assumption); (case hQ_w19 => exact fun _ _ _ h => h); (case hy_w19 => (refine Or.inl ⟨by rfl, ?_⟩; (intro w hSw; (try dsimp only at hSw); go_simp) <;> with_reducible rfl)); (try simp only [Act.put, List.setIfInBounds_toArray, List.set_cons_zero, List.set_cons_succ]))
            (refine wpAnyH_take (i := 19) (oi := ?oi_w20) (v := ?v_w20) ?ho_w20 ?hs_w20 ?hf_w20 ?hr_w20 ?hQ_w20 ?hy_w20 ?hS_w20 ?rest_w20; (case hr_w20 => kernel_rfl); (case hf_w20 => kernel_rfl); (case hs_w20 => kernel_rfl); (case ho_w20 => (simp only [List.getElem?_toArray, List.getElem?_cons_succ, List.getElem?_cons_zero]; rfl)); (case hS_w20 => assumption); (case hQ_w20 => exact fun _ _ _ h => h); (case hy_w20 => (refine Or.inl ⟨by rfl, ?_⟩; (intro w hSw; (try dsimp only at hSw); go_simp) <;> with_reducible rfl)); (try simp only [Act.put, List.setIfInBounds_toArray, List.set_cons_zero, List.set_cons_succ]))
            (refine wpAnyH_take (i := 20) (oi := ?oi_w21) (v := ?v_w21) ?ho_w21 ?hs_w21 ?hf_w21 ?hr_w21 ?hQ_w21 ?hy_w21 ?hS_w21 ?rest_w21; (case hr_w21 => kernel_rfl); (case hf_w21 => kernel_rfl); (case hs_w21 => kernel_rfl); (case ho_w21 => (simp only [List.getElem?_toArray, List.getElem?_cons_succ, List.getElem?_cons_zero]; rfl)); (case hS_w21 => assumption); (case hQ_w21 => exact fun _ _ _ h => h); (case hy_w21 => (refine Or.inl ⟨by rfl, ?_⟩; (intro w hSw; (try dsimp only at hSw); go_simp) <;> with_reducible rfl)); (try simp only [Act.put, List.setIfInBounds_toArray, List.set_cons_zero, List.set_cons_succ]))
            (refine wpAnyH_take (i := 21) (oi := ?oi_w22) (v := ?v_w22) ?ho_w22 ?hs_w22 ?hf_w22 ?hr_w22 ?hQ_w22 ?hy_w22 ?hS_w22 ?rest_w22; (case hr_w22 => kernel_rfl); (case hf_w22 => kernel_rfl); (case hs_w22 => kernel_rfl); (case ho_w22 => (simp only [List.getElem?_toArray, List.getElem?_cons_succ, List.getElem?_cons_zero]; rfl)); (case hS_w22 => assumption); (case hQ_w22 => exact fun _ _ _ h => h); (case hy_w22 => (refine Or.inl ⟨by rfl, ?_⟩; (intro w hSw; (try dsimp only at hSw); go_simp) <;> with_reducible rfl)); (try simp only [Act.put, List.setIfInBounds_toArray, List.set_cons_zero, List.set_cons_succ]))
            (refine wpAnyH_take (i := 22) (oi := ?oi_w23) (v := ?v_w23) ?ho_w23 ?hs_w23 ?hf_w23 ?hr_w23 ?hQ_w23 ?hy_w23 ?hS_w23 ?rest_w23; (case hr_w23 => kernel_rfl); (case hf_w23 => kernel_rfl); (case hs_w23 => kernel_rfl); (case ho_w23 => (simp only [List.getElem?_toArray, List.getElem?_cons_succ, List.getElem?_cons_zero]; rfl)); (case hS_w23 => assumption); (case hQ_w23 => exact fun _ _ _ h => h); (case hy_w23 => (refine Or.inl ⟨by rfl, ?_⟩; (intro w hSw; (try dsimp only at hSw); go_simp) <;> with_reducible rfl)); (try simp only [Act.put, List.setIfInBounds_toArray, List.set_cons_zero, List.set_cons_succ]))
            (refine wpAnyH_take (i := 23) (oi := ?oi_w24) (v := ?v_w24) ?ho_w24 ?hs_w24 ?hf_w24 ?hr_w24 ?hQ_w24 ?hy_w24 ?hS_w24 ?rest_w24; (case hr_w24 => kernel_rfl); (case hf_w24 => kernel_rfl); (case hs_w24 => kernel_rfl); (case ho_w24 => (simp only [List.getElem?_toArray, List.getElem?_cons_succ, List.getElem?_cons_zero]; rfl)); (case hS_w24 => assumption); (case hQ_w24 => exact fun _ _ _ h => h); (case hy_w24 => (refine Or.inl ⟨by rfl, ?_⟩; (intro w hSw; (try dsimp only at hSw); go_simp) <;> with_reducible rfl)); (try simp only [Act.put, List.setIfInBounds_toArray, List.set_cons_zero, List.set_cons_succ]))
            (refine wpAnyH_take (i := 24) (oi := ?oi_w25) (v := ?v_w25) ?ho_w25 ?hs_w25 ?hf_w25 ?hr_w25 ?hQ_w25 ?hy_w25 ?hS_w25 ?rest_w25; (case hr_w25 => kernel_rfl); (case hf_w25 => kernel_rfl); (case hs_w25 => kernel_rfl); (case ho_w25 => (simp only [List.getElem?_toArray, List.getElem?_cons_succ, List.getElem?_cons_zero]; rfl)); (case hS_w25 => assumption); (case hQ_w25 => exact fun _ _ _ h => h); (case hy_w25 => (refine Or.inl ⟨by rfl, ?_⟩; (intro w hSw; (try dsimp only at hSw); go_simp) <;> with_reducible rfl)); (try simp only [Act.put, List.setIfInBounds_toArray, List.set_cons_zero, List.set_cons_succ]))
            (refine wpAnyH_take (i := 25) (oi := ?oi_w26) (v := ?v_w26) ?ho_w26 ?hs_w26 ?hf_w26 ?hr_w26 ?hQ_w26 ?hy_w26 ?hS_w26 ?rest_w26; (case hr_w26 => kernel_rfl); (case hf_w26 => kernel_rfl); (case hs_w26 => kernel_rfl); (case ho_w26 => (simp only [List.getElem?_toArray, List.getElem?_cons_succ, List.getElem?_cons_zero]; rfl)); (case hS_w26 => assumption); (case hQ_w26 => exact fun _ _ _ h => h); (case hy_w26 => (refine Or.inl ⟨by rfl, ?_⟩; (intro w hSw; (try dsimp only at hSw); go_simp) <;> with_reducible rfl)); (try simp only [Act.put, List.setIfInBounds_toArray, List.set_cons_zero, List.set_cons_succ]))
            refine wpAnyH_ready (rs := [26]) (by kernel_rfl) (by simp) ?_
            refine (AllReadyH.cons (o := ?oow27_0) ?how27_0 ?hsw27_0 AllReadyH.nil)
            case how27_0 => (simp only [List.getElem?_toArray, List.getElem?_cons_succ, List.getElem?_cons_zero]; rfl)
            case hsw27_0 =>
              intro K hK
              go_simp
              (go_at_call 8; (refine (cL.out _).mono ?_); rintro en y5 ⟨rfl, hu⟩; replace gb := hu.heap gb (fun h => h); replace gU := gU.trans hu (fun _ _ h => h); clear hu)
              try go_wp2_with fail
              refine hK.out _ _ (by exact gb) (fun hHeld => ?_)
              clear hK K
              try simp only [Act.put, List.setIfInBounds_toArray, List.set_cons_zero, List.set_cons_succ]
              (refine wpAnyH_take (i := 27) (oi := ?oi_w28) (v := ?v_w28) ?ho_w28 ?hs_w28 ?hf_w28 ?hr_w28 ?hQ_w28 ?hy_w28 ?hS_w28 ?rest_w28; (case hr_w28 => kernel_rfl); (case hf_w28 => kernel_rfl); (case hs_w28 => kernel_rfl); (case ho_w28 => (simp only [List.getElem?_toArray, List.getElem?_cons_succ, List.getElem?_cons_zero]; rfl)); (case hS_w28 => assumption); (case hQ_w28 => exact fun _ _ _ h => h); (case hy_w28 => (refine Or.inl ⟨by rfl, ?_⟩; (intro w hSw; (try dsimp only at hSw); go_simp) <;> with_reducible rfl)); (try simp only [Act.put, List.setIfInBounds_toArray, List.set_cons_zero, List.set_cons_succ]))
              (refine wpAnyH_take (i := 28) (oi := ?oi_w29) (v := ?v_w29) ?ho_w29 ?hs_w29 ?hf_w29 ?hr_w29 ?hQ_w29 ?hy_w29 ?hS_w29 ?rest_w29; (case hr_w29 => kernel_rfl); (case hf_w29 => kernel_rfl); (case hs_w29 => kernel_rfl); (case ho_w29 => (simp only [List.getElem?_toArray, List.getElem?_cons_succ, List.getElem?_cons_zero]; rfl)); (case hS_w29 => assumption); (case hQ_w29 => exact fun _ _ _ h => h); (case hy_w29 => (refine Or.inl ⟨by rfl, ?_⟩; (intro w hSw; (try dsimp only at hSw); go_simp) <;> with_reducible rfl)); (try simp only [Act.put, List.setIfInBounds_toArray, List.set_cons_zero, List.set_cons_succ]))
              refine wpAnyH_done (by kernel_rfl) ?_ _
              go_wp2_with fail
              go_ret
              exact ⟨rfl, gUw.out _ gU⟩
end Go.Proofs.Ytogekobpjjmnjaa
