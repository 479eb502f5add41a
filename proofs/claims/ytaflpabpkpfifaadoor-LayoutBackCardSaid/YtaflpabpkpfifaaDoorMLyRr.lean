/- The walk over ambryref21.ReadHead (printed by gen/mkrh.py). -/
import Derived.Test.YtaflpabpkpfifaaDoorMLyHe
import Derived.Test.YtaflpabpkpfifaaDoorMLyRH
import Derived.Test.YtaflpabpkpfifaaDoorMRefN
namespace Go.Proofs.YtaflpabpkpfifaaDoor
set_option maxRecDepth 100000
open Go.RowKit Go.Amb
set_option linter.unusedVariables false
attribute [local go_sem ↓] Go.wp_at_zero Go.wp_at_succ
theorem hdOf_i64' (s : Str) : hdI64 (hdOf s) := by
  have h2 := numL_lt_of (l := (s.drop 1).take 2) (m := 2) (by simp; omega)
  have h3 := numL_lt_of (l := (s.drop 3).take 4) (m := 4) (by simp; omega)
  have h4 := numL_lt_of (l := (s.drop 7).take 4) (m := 4) (by simp; omega)
  have g2 := numL_nonneg ((s.drop 1).take 2)
  have g3 := numL_nonneg ((s.drop 3).take 4)
  have g4 := numL_nonneg ((s.drop 7).take 4)
  exact ⟨⟨by show _ ≤ numL ((s.drop 1).take 2); omega, by show numL ((s.drop 1).take 2) ≤ _; omega⟩, ⟨by show _ ≤ numL ((s.drop 3).take 4); omega, by show numL ((s.drop 3).take 4) ≤ _; omega⟩, ⟨by show _ ≤ numL ((s.drop 7).take 4); omega, by show numL ((s.drop 7).take 4) ≤ _; omega⟩⟩
set_option maxHeartbeats 4000000 in
theorem qReadHead (s : Str) (w : World) (hs : s.length ≤ 140737488355328) : Calls Tryd.prog 25 #[txtV s] w (Ret (.tuple #[hdV (rhR s).1, .int .i64 (rhR s).2]) w) := by
  unfold txtV
  by_cases hl : s.length = 11
  · have hb1 : ((((w.alloc (.cells #[.int .i64 0, .int .i64 0, .int .i64 0, .bool false, .bool false] 48)).alloc (.cells #[.int .i64 0, .int .i64 0, .int .i64 0, .bool false, .bool false] 48)).drew).heap[w.heap.size + 1]? = some (.cells #[.int .i64 0, .int .i64 0, .int .i64 0, .bool false, .bool false] 48 (0, 0))) := heap_alloc2_new w _ _
    have hl2 : ((s.length : Int) != 11) = false := by simp; omega
    have h0 : 0 < s.length := by omega
    obtain ⟨m, hm⟩ : ∃ m, s[0].toNat = m := ⟨_, rfl⟩
    have hix : ∀ h, ((⟨s.toArray⟩ : ByteArray)[0]'h).toNat = m := fun h => hm
    have hm8 : m < 256 := by rw [← hm]; exact s[0].toNat_lt
    have hm1 : numL (s.take 1) = (m : Int) := by
      have ht : s.take 1 = [s[0]] := by
        cases s with
        | nil => simp at h0
        | cons b r => rfl
      rw [ht, ← hm]
      simp [numL]
    have b2 := numL_lt_of (l := (s.drop 1).take 2) (m := 2) (by simp; omega)
    have b3 := numL_lt_of (l := (s.drop 3).take 4) (m := 4) (by simp; omega)
    have b4 := numL_lt_of (l := (s.drop 7).take 4) (m := 4) (by simp; omega)
    have g2 := numL_nonneg ((s.drop 1).take 2)
    have g3 := numL_nonneg ((s.drop 3).take 4)
    have g4 := numL_nonneg ((s.drop 7).take 4)
    have hv : hdV (hdOf s) = .agg #[.int .i64 (numL ((s.drop 1).take 2)), .int .i64 (numL ((s.drop 3).take 4)), .int .i64 (numL ((s.drop 7).take 4)), .bool (decide (numL (s.take 1) % 2 = 1)), .bool (decide (numL (s.take 1) / 2 % 2 = 1))] := rfl
    have hi := hdOf_i64' s
    have hrt := fun w => qRightHead (hdOf s) w
    have hhd := fun w => qHead0 (hdOf s) w hi
    have hyes := fun h => @rhR_yes s ⟨hl, h⟩
    have hno := fun h => @rhR_no s h
    have hva : ∀ x, rhR s = (hdOf s, x) → hdV (rhR s).1 = hdV (hdOf s) := fun x e => by rw [e]
    have hkey : headR (hdOf s) = if HdOk (hdOf s) then (hdB (hdOf s), 0) else ([], 2) := rfl
    rw [hkey] at hyes hno
    clear hkey hi
    rw [hm1] at hv
    have f5 : ((m : Int).tmod 2 == 1) = decide ((m : Int) % 2 = 1) := by rw [Int.tmod_eq_emod_of_nonneg (by omega)]; rfl
    have f6 : ((IntKind.u8.wrap ((m : Int) / 2)).tmod 2 == 1) = decide ((m : Int) / 2 % 2 = 1) := by
      rw [show IntKind.u8.wrap ((m : Int) / 2) = (m : Int) / 2 by rw [IntKind.wrap_u8]; omega, Int.tmod_eq_emod_of_nonneg (by omega)]; rfl
    rw [← f5, ← f6] at hv
    rw [hv] at hva hrt hhd
    have f2 := wrap_small _ g2 (by omega)
    have f3 := wrap_small _ g3 (by omega)
    have f4 := wrap_small _ g4 (by omega)
    rw [show s.drop 1 = s.tail from List.drop_one] at f2 hrt hhd hva
    generalize hn2 : numL (s.tail.take 2) = n2 at *
    generalize hn3 : numL ((s.drop 3).take 4) = n3 at *
    generalize hn4 : numL ((s.drop 7).take 4) = n4 at *
    generalize hd1 : ((m : Int).tmod 2 == 1) = d1 at *
    generalize hd2 : ((IntKind.u8.wrap ((m : Int) / 2)).tmod 2 == 1) = d2 at *
    generalize hok : decide (HdOk (hdOf s)) = ok at *
    replace hrt := Lib.hid hrt
    replace hhd := Lib.hid hhd
    replace hva := Lib.hid hva
    replace hyes := Lib.hid hyes
    replace hno := Lib.hid hno
    replace hv := Lib.hid hv
    replace hok := Lib.hid hok
    replace hm := Lib.hid hm
    replace hm1 := Lib.hid hm1
    clear f5 f6 b2 b3 b4 g2 g3 g4
    go_enter Tryd.func25, Tryd.ntmps25
    go_wp2_with fail
    refine wp_region_held_drew (S := (fun w' => Upd Non (w.alloc (.cells #[.int .i64 0, .int .i64 0, .int .i64 0, .bool false, .bool false] 48)) w')) (by kernel_rfl) (by exact (Upd.refl Non _).then_drew) (fun hHeld => ?_)
    (refine wpAnyH_take (i := 0) (oi := ?oi_k1) (v := ?v_k1) ?ho_k1 ?hs_k1 ?hf_k1 ?hr_k1 ?hQ_k1 ?hy_k1 ?hS_k1 ?rest_k1; (case hr_k1 => kernel_rfl); (case hf_k1 => kernel_rfl); (case hs_k1 => kernel_rfl); (case ho_k1 => (simp only [List.getElem?_toArray, List.getElem?_cons_succ, List.getElem?_cons_zero]; rfl)); (case hS_k1 => assumption); (case hQ_k1 => exact fun _ _ _ h => h); (case hy_k1 => (refine Or.inl ⟨by rfl, ?_⟩; (intro w hSw; (try dsimp only at hSw); go_simp) <;> with_reducible rfl)); (try simp only [Act.put, List.setIfInBounds_toArray, List.set_cons_zero, List.set_cons_succ]))
    (refine wpAnyH_take (i := 1) (oi := ?oi_k2) (v := ?v_k2) ?ho_k2 ?hs_k2 ?hf_k2 ?hr_k2 ?hQ_k2 ?hy_k2 ?hS_k2 ?rest_k2; (case hr_k2 => kernel_rfl); (case hf_k2 => kernel_rfl); (case hs_k2 => kernel_rfl); (case ho_k2 => (simp only [List.getElem?_toArray, List.getElem?_cons_succ, List.getElem?_cons_zero]; rfl)); (case hS_k2 => assumption); (case hQ_k2 => exact fun _ _ _ h => h); (case hy_k2 => (refine Or.inl ⟨by rfl, ?_⟩; (intro w hSw; (try dsimp only at hSw); go_simp) <;> with_reducible rfl)); (try simp only [Act.put, List.setIfInBounds_toArray, List.set_cons_zero, List.set_cons_succ]))
    (refine wpAnyH_take (i := 2) (oi := ?oi_k3) (v := ?v_k3) ?ho_k3 ?hs_k3 ?hf_k3 ?hr_k3 ?hQ_k3 ?hy_k3 ?hS_k3 ?rest_k3; (case hr_k3 => kernel_rfl); (case hf_k3 => kernel_rfl); (case hs_k3 => kernel_rfl); (case ho_k3 => (simp only [List.getElem?_toArray, List.getElem?_cons_succ, List.getElem?_cons_zero]; rfl)); (case hS_k3 => assumption); (case hQ_k3 => exact fun _ _ _ h => h); (case hy_k3 => (refine Or.inl ⟨by rfl, ?_⟩; (intro w hSw; (try dsimp only at hSw); go_simp) <;> with_reducible rfl)); (try simp only [Act.put, List.setIfInBounds_toArray, List.set_cons_zero, List.set_cons_succ]))
    (refine wpAnyH_take (i := 3) (oi := ?oi_k4) (v := ?v_k4) ?ho_k4 ?hs_k4 ?hf_k4 ?hr_k4 ?hQ_k4 ?hy_k4 ?hS_k4 ?rest_k4; (case hr_k4 => kernel_rfl); (case hf_k4 => kernel_rfl); (case hs_k4 => kernel_rfl); (case ho_k4 => (simp only [List.getElem?_toArray, List.getElem?_cons_succ, List.getElem?_cons_zero]; rfl)); (case hS_k4 => assumption); (case hQ_k4 => exact fun _ _ _ h => h); (case hy_k4 => (refine Or.inl ⟨by rfl, ?_⟩; (intro w hSw; (try dsimp only at hSw); go_simp) <;> with_reducible rfl)); (try simp only [Act.put, List.setIfInBounds_toArray, List.set_cons_zero, List.set_cons_succ]))
    (refine wpAnyH_take (i := 4) (oi := ?oi_k5) (v := ?v_k5) ?ho_k5 ?hs_k5 ?hf_k5 ?hr_k5 ?hQ_k5 ?hy_k5 ?hS_k5 ?rest_k5; (case hr_k5 => kernel_rfl); (case hf_k5 => kernel_rfl); (case hs_k5 => kernel_rfl); (case ho_k5 => (simp only [List.getElem?_toArray, List.getElem?_cons_succ, List.getElem?_cons_zero]; rfl)); (case hS_k5 => assumption); (case hQ_k5 => exact fun _ _ _ h => h); (case hy_k5 => (refine Or.inl ⟨by rfl, ?_⟩; (intro w hSw; (try dsimp only at hSw); go_simp) <;> with_reducible rfl)); (try simp only [Act.put, List.setIfInBounds_toArray, List.set_cons_zero, List.set_cons_succ]))
    (refine wpAnyH_take (i := 5) (oi := ?oi_k6) (v := ?v_k6) ?ho_k6 ?hs_k6 ?hf_k6 ?hr_k6 ?hQ_k6 ?hy_k6 ?hS_k6 ?rest_k6; (case hr_k6 => kernel_rfl); (case hf_k6 => kernel_rfl); (case hs_k6 => kernel_rfl); (case ho_k6 => (simp only [List.getElem?_toArray, List.getElem?_cons_succ, List.getElem?_cons_zero]; rfl)); (case hS_k6 => assumption); (case hQ_k6 => exact fun _ _ _ h => h); (case hy_k6 => (refine Or.inl ⟨by rfl, ?_⟩; (intro w hSw; (try dsimp only at hSw); go_simp) <;> with_reducible rfl)); (try simp only [Act.put, List.setIfInBounds_toArray, List.set_cons_zero, List.set_cons_succ]))
    (refine wpAnyH_take (i := 6) (oi := ?oi_k7) (v := ?v_k7) ?ho_k7 ?hs_k7 ?hf_k7 ?hr_k7 ?hQ_k7 ?hy_k7 ?hS_k7 ?rest_k7; (case hr_k7 => kernel_rfl); (case hf_k7 => kernel_rfl); (case hs_k7 => kernel_rfl); (case ho_k7 => (simp only [List.getElem?_toArray, List.getElem?_cons_succ, List.getElem?_cons_zero]; rfl)); (case hS_k7 => assumption); (case hQ_k7 => exact fun _ _ _ h => h); (case hy_k7 => (refine Or.inl ⟨by rfl, ?_⟩; (intro w hSw; (try dsimp only at hSw); go_simp) <;> with_reducible rfl)); (try simp only [Act.put, List.setIfInBounds_toArray, List.set_cons_zero, List.set_cons_succ]))
    (refine wpAnyH_take (i := 7) (oi := ?oi_k8) (v := ?v_k8) ?ho_k8 ?hs_k8 ?hf_k8 ?hr_k8 ?hQ_k8 ?hy_k8 ?hS_k8 ?rest_k8; (case hr_k8 => kernel_rfl); (case hf_k8 => kernel_rfl); (case hs_k8 => kernel_rfl); (case ho_k8 => (simp only [List.getElem?_toArray, List.getElem?_cons_succ, List.getElem?_cons_zero]; rfl)); (case hS_k8 => assumption); (case hQ_k8 => exact fun _ _ _ h => h); (case hy_k8 => (refine Or.inl ⟨by rfl, ?_⟩; (intro w hSw; (try dsimp only at hSw); go_simp) <;> with_reducible rfl)); (try simp only [Act.put, List.setIfInBounds_toArray, List.set_cons_zero, List.set_cons_succ]))
    (refine wpAnyH_take (i := 8) (oi := ?oi_k9) (v := ?v_k9) ?ho_k9 ?hs_k9 ?hf_k9 ?hr_k9 ?hQ_k9 ?hy_k9 ?hS_k9 ?rest_k9; (case hr_k9 => kernel_rfl); (case hf_k9 => kernel_rfl); (case hs_k9 => kernel_rfl); (case ho_k9 => (simp only [List.getElem?_toArray, List.getElem?_cons_succ, List.getElem?_cons_zero]; rfl)); (case hS_k9 => assumption); (case hQ_k9 => exact fun _ _ _ h => h); (case hy_k9 => (refine Or.inl ⟨by rfl, ?_⟩; (intro w hSw; (try dsimp only at hSw); go_simp) <;> with_reducible rfl)); (try simp only [Act.put, List.setIfInBounds_toArray, List.set_cons_zero, List.set_cons_succ]))
    (refine wpAnyH_take (i := 9) (oi := ?oi_k10) (v := ?v_k10) ?ho_k10 ?hs_k10 ?hf_k10 ?hr_k10 ?hQ_k10 ?hy_k10 ?hS_k10 ?rest_k10; (case hr_k10 => kernel_rfl); (case hf_k10 => kernel_rfl); (case hs_k10 => kernel_rfl); (case ho_k10 => (simp only [List.getElem?_toArray, List.getElem?_cons_succ, List.getElem?_cons_zero]; rfl)); (case hS_k10 => assumption); (case hQ_k10 => exact fun _ _ _ h => h); (case hy_k10 => (refine Or.inl ⟨by rfl, ?_⟩; (intro w hSw; (try dsimp only at hSw); go_simp) <;> with_reducible rfl)); (try simp only [Act.put, List.setIfInBounds_toArray, List.set_cons_zero, List.set_cons_succ]))
    (refine wpAnyH_take (i := 11) (oi := ?oi_k11) (v := ?v_k11) ?ho_k11 ?hs_k11 ?hf_k11 ?hr_k11 ?hQ_k11 ?hy_k11 ?hS_k11 ?rest_k11; (case hr_k11 => kernel_rfl); (case hf_k11 => kernel_rfl); (case hs_k11 => kernel_rfl); (case ho_k11 => (simp only [List.getElem?_toArray, List.getElem?_cons_succ, List.getElem?_cons_zero]; rfl)); (case hS_k11 => assumption); (case hQ_k11 => exact fun _ _ _ h => h); (case hy_k11 => (refine Or.inl ⟨by rfl, ?_⟩; (intro w hSw; (try dsimp only at hSw); go_simp) <;> with_reducible rfl)); (try simp only [Act.put, List.setIfInBounds_toArray, List.set_cons_zero, List.set_cons_succ]))
    (refine wpAnyH_take (i := 13) (oi := ?oi_k12) (v := ?v_k12) ?ho_k12 ?hs_k12 ?hf_k12 ?hr_k12 ?hQ_k12 ?hy_k12 ?hS_k12 ?rest_k12; (case hr_k12 => kernel_rfl); (case hf_k12 => kernel_rfl); (case hs_k12 => kernel_rfl); (case ho_k12 => (simp only [List.getElem?_toArray, List.getElem?_cons_succ, List.getElem?_cons_zero]; rfl)); (case hS_k12 => assumption); (case hQ_k12 => exact fun _ _ _ h => h); (case hy_k12 => (refine Or.inl ⟨by rfl, ?_⟩; (intro w hSw; (try dsimp only at hSw); go_simp) <;> with_reducible rfl)); (try simp only [Act.put, List.setIfInBounds_toArray, List.set_cons_zero, List.set_cons_succ]))
    refine wpAnyH_ready (rs := [10, 17]) (by kernel_rfl) (by simp) ?_
    refine (AllReadyH.cons (o := ?ook34_0) ?hok34_0 ?hsk34_0 (AllReadyH.cons (o := ?ook34_1) ?hok34_1 ?hsk34_1 AllReadyH.nil))
    case hok34_0 => (simp only [List.getElem?_toArray, List.getElem?_cons_succ, List.getElem?_cons_zero]; rfl)
    case hok34_1 => (simp only [List.getElem?_toArray, List.getElem?_cons_succ, List.getElem?_cons_zero]; rfl)
    case hsk34_0 =>
      intro K hK
      go_simp
      refine (refNumber s 1 2 _ (by omega) (by omega) (by decide)).mono ?_
      rintro en wx ⟨rfl, rfl⟩
      try go_wp2_with fail
      refine hK.out _ _ (by exact (Upd.refl Non (w.alloc (.cells #[.int .i64 0, .int .i64 0, .int .i64 0, .bool false, .bool false] 48))).then_drew) (fun hHeld => ?_)
      clear hK K
      try simp only [Act.put, List.setIfInBounds_toArray, List.set_cons_zero, List.set_cons_succ]
      refine wpAnyH_ready (rs := [12, 17]) (by kernel_rfl) (by simp) ?_
      refine (AllReadyH.cons (o := ?ook27_0) ?hok27_0 ?hsk27_0 (AllReadyH.cons (o := ?ook27_1) ?hok27_1 ?hsk27_1 AllReadyH.nil))
      case hok27_0 => (simp only [List.getElem?_toArray, List.getElem?_cons_succ, List.getElem?_cons_zero]; rfl)
      case hok27_1 => (simp only [List.getElem?_toArray, List.getElem?_cons_succ, List.getElem?_cons_zero]; rfl)
      case hsk27_0 =>
        intro K hK
        go_simp
        refine (refNumber s 3 4 _ (by omega) (by omega) (by decide)).mono ?_
        rintro en wx ⟨rfl, rfl⟩
        try go_wp2_with fail
        refine hK.out _ _ (by exact (Upd.refl Non (w.alloc (.cells #[.int .i64 0, .int .i64 0, .int .i64 0, .bool false, .bool false] 48))).then_drew) (fun hHeld => ?_)
        clear hK K
        try simp only [Act.put, List.setIfInBounds_toArray, List.set_cons_zero, List.set_cons_succ]
        refine wpAnyH_ready (rs := [14, 17]) (by kernel_rfl) (by simp) ?_
        refine (AllReadyH.cons (o := ?ook21_0) ?hok21_0 ?hsk21_0 (AllReadyH.cons (o := ?ook21_1) ?hok21_1 ?hsk21_1 AllReadyH.nil))
        case hok21_0 => (simp only [List.getElem?_toArray, List.getElem?_cons_succ, List.getElem?_cons_zero]; rfl)
        case hok21_1 => (simp only [List.getElem?_toArray, List.getElem?_cons_succ, List.getElem?_cons_zero]; rfl)
        case hsk21_0 =>
          intro K hK
          go_simp
          refine (refNumber s 7 4 _ (by omega) (by omega) (by decide)).mono ?_
          rintro en wx ⟨rfl, rfl⟩
          try go_wp2_with fail
          refine hK.out _ _ (by exact (Upd.refl Non (w.alloc (.cells #[.int .i64 0, .int .i64 0, .int .i64 0, .bool false, .bool false] 48))).then_drew) (fun hHeld => ?_)
          clear hK K
          try simp only [Act.put, List.setIfInBounds_toArray, List.set_cons_zero, List.set_cons_succ]
          (refine wpAnyH_take (i := 15) (oi := ?oi_k13) (v := ?v_k13) ?ho_k13 ?hs_k13 ?hf_k13 ?hr_k13 ?hQ_k13 ?hy_k13 ?hS_k13 ?rest_k13; (case hr_k13 => kernel_rfl); (case hf_k13 => kernel_rfl); (case hs_k13 => kernel_rfl); (case ho_k13 => (simp only [List.getElem?_toArray, List.getElem?_cons_succ, List.getElem?_cons_zero]; rfl)); (case hS_k13 => assumption); (case hQ_k13 => exact fun _ _ _ h => h); (case hy_k13 => (refine Or.inl ⟨by rfl, ?_⟩; (intro w hSw; (try dsimp only at hSw); go_simp) <;> with_reducible rfl)); (try simp only [Act.put, List.setIfInBounds_toArray, List.set_cons_zero, List.set_cons_succ]))
          (refine wpAnyH_take (i := 16) (oi := ?oi_k14) (v := ?v_k14) ?ho_k14 ?hs_k14 ?hf_k14 ?hr_k14 ?hQ_k14 ?hy_k14 ?hS_k14 ?rest_k14; (case hr_k14 => kernel_rfl); (case hf_k14 => kernel_rfl); (case hs_k14 => kernel_rfl); (case ho_k14 => (simp only [List.getElem?_toArray, List.getElem?_cons_succ, List.getElem?_cons_zero]; rfl)); (case hS_k14 => assumption); (case hQ_k14 => exact fun _ _ _ h => h); (case hy_k14 => (refine Or.inl ⟨by rfl, ?_⟩; (intro w hSw; (try dsimp only at hSw); go_simp) <;> with_reducible rfl)); (try simp only [Act.put, List.setIfInBounds_toArray, List.set_cons_zero, List.set_cons_succ]))
          refine wpAnyH_ready (rs := [17]) (by kernel_rfl) (by simp) ?_
          refine (AllReadyH.cons (o := ?ook16_0) ?hok16_0 ?hsk16_0 AllReadyH.nil)
          case hok16_0 => (simp only [List.getElem?_toArray, List.getElem?_cons_succ, List.getElem?_cons_zero]; rfl)
          case hsk16_0 =>
            intro K hK
            go_simp
            try go_wp2_with fail
            refine hK.out _ _ (by exact ((Upd.refl Non (w.alloc (.cells #[.int .i64 0, .int .i64 0, .int .i64 0, .bool false, .bool false] 48))).then_drew).then_alloc _) (fun hHeld => ?_)
            clear hK K
            try simp only [Act.put, List.setIfInBounds_toArray, List.set_cons_zero, List.set_cons_succ]
            refine wpAnyH_ready (rs := [18]) (by kernel_rfl) (by simp) ?_
            refine (AllReadyH.cons (o := ?ook15_0) ?hok15_0 ?hsk15_0 AllReadyH.nil)
            case hok15_0 => (simp only [List.getElem?_toArray, List.getElem?_cons_succ, List.getElem?_cons_zero]; rfl)
            case hsk15_0 =>
              intro K hK
              refine storeB_step rfl 48 _ _ rfl (w.heap.size + 1) #[.int .i64 n2, .int .i64 n3, .int .i64 n4, .bool d1, .bool d2] _ _ rfl rfl hb1 rfl size_head.out (by simp [Value.oneCell']) ?_
              intro w3 hb3 hu3
              have hX := (((Upd.refl Non (w.alloc (.cells #[.int .i64 0, .int .i64 0, .int .i64 0, .bool false, .bool false] 48))).then_alloc (.cells #[.int .i64 0, .int .i64 0, .int .i64 0, .bool false, .bool false] 48)).then_drew).trans hu3 fun j hj e => by (have : j = w.heap.size + 1 := e); (simp at hj); omega
              refine hK.out _ _ (by exact hX) (fun hHeld => ?_)
              clear hK K
              try simp only [Act.put, List.setIfInBounds_toArray, List.set_cons_zero, List.set_cons_succ]
              refine wpAnyH_done (by kernel_rfl) ?_ _
              obtain ⟨z0, z1, z2, z3, z4⟩ := cells5 hb3
              clear hb1 hu3
              go_wp2_with fail
              refine (hrt.out _).mono ?_
              rintro e4 w4 ⟨rfl, hu4⟩
              replace hX := hX.trans hu4 fun _ _ h => h
              have hb4 := hu4.heap hb3 fun h => h
              clear z0 z1 z2 z3 z4 hu4 hb3
              cases ok with
              | false =>
                have hbad := hno.out (fun h => by
                  have h2 := h.2
                  rw [if_neg (of_decide_eq_false hok.out)] at h2
                  injection h2 with _ h3
                  cases h3)
                clear hb4
                have hb := hX.heap (heap_alloc_new w _) fun h => h
                have hU := (hX.own1 (fun _ h => h.elim)).2.2.2
                clear hX
                try simp only []
                go_wp2_with ((with_reducible (show wpList _ _ _ (⟨_, Op.store _ _ _, _, _, _, _⟩ :: _) _ _)); refine storeB_list rfl 48 _ _ rfl w.heap.size #[.int .i64 0, .int .i64 0, .int .i64 0, .bool false, .bool false] _ _ rfl rfl hb rfl size_head.out (by simp [Value.oneCell']) ?_)
                intro w8 hb8 hu8
                obtain ⟨x0, x1, x2, x3, x4⟩ := cells5 hb8
                have hU8 := hU.trans hu8 (fun k hk e => by (have : k = w.heap.size := e); omega)
                clear hb hb8 hu8 hU
                go_wp2_with fail
                refine bodyPost_ret (v := .tuple #[.agg #[.int .i64 0, .int .i64 0, .int .i64 0, .bool false, .bool false], .int .i64 4]) (by simp [results, Tryd.results25, go_sem, x0, x1, x2, x3, x4]; try rfl) rfl ⟨by rw [hbad]; rfl, hU8⟩
              | true =>
                obtain ⟨z0, z1, z2, z3, z4⟩ := cells5 hb4
                go_wp2_with fail
                refine (hhd.out _).mono ?_
                rintro e5 w5 ⟨rfl, hu5⟩
                replace hX := hX.trans hu5 fun _ _ h => h
                have hb5 := hu5.heap hb4 fun h => h
                clear z0 z1 z2 z3 z4 hu5 hb4
                unfold txtV
                have hbb : hdB (hdOf s) = s → rhR s = (hdOf s, 0) := fun e => hyes.out (by rw [if_pos (of_decide_eq_true hok.out), e])
                have hbn : ¬ hdB (hdOf s) = s → rhR s = (Hd.none, 4) := fun e => hno.out (fun h => by
                  have h2 := h.2
                  rw [if_pos (of_decide_eq_true hok.out)] at h2
                  injection h2 with h3 _
                  exact e h3)
                generalize hdB (hdOf s) = t at *
                by_cases hts : t = s
                · have hgood := hbb hts
                  have hvv := hva.out 0 hgood
                  have hts2 : (t == s) = true := by simp [hts]
                  obtain ⟨z0, z1, z2, z3, z4⟩ := cells5 hb5
                  replace hgood := Lib.hid hgood
                  replace hvv := Lib.hid hvv
                  replace hts := Lib.hid hts
                  clear hb5 hbb hbn
                  have hb := hX.heap (heap_alloc_new w _) fun h => h
                  have hU := (hX.own1 (fun _ h => h.elim)).2.2.2
                  clear hX
                  try simp only []
                  go_wp2_with ((with_reducible (show wpList _ _ _ (⟨_, Op.store _ _ _, _, _, _, _⟩ :: _) _ _)); refine storeB_list rfl 48 _ _ rfl w.heap.size #[.int .i64 n2, .int .i64 n3, .int .i64 n4, .bool d1, .bool d2] _ _ rfl rfl hb rfl size_head.out (by simp [Value.oneCell']) ?_)
                  intro w8 hb8 hu8
                  obtain ⟨x0, x1, x2, x3, x4⟩ := cells5 hb8
                  have hU8 := hU.trans hu8 (fun k hk e => by (have : k = w.heap.size := e); omega)
                  clear hb hb8 hu8 hU
                  go_wp2_with fail
                  refine bodyPost_ret (v := .tuple #[.agg #[.int .i64 n2, .int .i64 n3, .int .i64 n4, .bool d1, .bool d2], .int .i64 0]) (by simp [results, Tryd.results25, go_sem, x0, x1, x2, x3, x4]; try rfl) rfl ⟨by rw [hvv.out, hgood.out], hU8⟩
                · have hbad := hbn hts
                  have hts2 : (t == s) = false := by simpa using hts
                  clear hb5 hbb hbn
                  have hb := hX.heap (heap_alloc_new w _) fun h => h
                  have hU := (hX.own1 (fun _ h => h.elim)).2.2.2
                  clear hX
                  try simp only []
                  go_wp2_with ((with_reducible (show wpList _ _ _ (⟨_, Op.store _ _ _, _, _, _, _⟩ :: _) _ _)); refine storeB_list rfl 48 _ _ rfl w.heap.size #[.int .i64 0, .int .i64 0, .int .i64 0, .bool false, .bool false] _ _ rfl rfl hb rfl size_head.out (by simp [Value.oneCell']) ?_)
                  intro w8 hb8 hu8
                  obtain ⟨x0, x1, x2, x3, x4⟩ := cells5 hb8
                  have hU8 := hU.trans hu8 (fun k hk e => by (have : k = w.heap.size := e); omega)
                  clear hb hb8 hu8 hU
                  go_wp2_with fail
                  refine bodyPost_ret (v := .tuple #[.agg #[.int .i64 0, .int .i64 0, .int .i64 0, .bool false, .bool false], .int .i64 4]) (by simp [results, Tryd.results25, go_sem, x0, x1, x2, x3, x4]; try rfl) rfl ⟨by rw [hbad]; rfl, hU8⟩
        case hsk21_1 =>
          intro K hK
          go_simp
          try go_wp2_with fail
          refine hK.out _ _ (by exact ((Upd.refl Non (w.alloc (.cells #[.int .i64 0, .int .i64 0, .int .i64 0, .bool false, .bool false] 48))).then_drew).then_alloc _) (fun hHeld => ?_)
          clear hK K
          try simp only [Act.put, List.setIfInBounds_toArray, List.set_cons_zero, List.set_cons_succ]
          refine wpAnyH_ready (rs := [14]) (by kernel_rfl) (by simp) ?_
          refine (AllReadyH.cons (o := ?ook20_0) ?hok20_0 ?hsk20_0 AllReadyH.nil)
          case hok20_0 => (simp only [List.getElem?_toArray, List.getElem?_cons_succ, List.getElem?_cons_zero]; rfl)
          case hsk20_0 =>
            intro K hK
            go_simp
            refine (refNumber s 7 4 _ (by omega) (by omega) (by decide)).mono ?_
            rintro en wx ⟨rfl, rfl⟩
            try go_wp2_with fail
            refine hK.out _ _ (by exact ((Upd.refl Non (w.alloc (.cells #[.int .i64 0, .int .i64 0, .int .i64 0, .bool false, .bool false] 48))).then_drew).then_alloc _) (fun hHeld => ?_)
            clear hK K
            try simp only [Act.put, List.setIfInBounds_toArray, List.set_cons_zero, List.set_cons_succ]
            (refine wpAnyH_take (i := 15) (oi := ?oi_k17) (v := ?v_k17) ?ho_k17 ?hs_k17 ?hf_k17 ?hr_k17 ?hQ_k17 ?hy_k17 ?hS_k17 ?rest_k17; (case hr_k17 => kernel_rfl); (case hf_k17 => kernel_rfl); (case hs_k17 => kernel_rfl); (case ho_k17 => (simp only [List.getElem?_toArray, List.getElem?_cons_succ, List.getElem?_cons_zero]; rfl)); (case hS_k17 => assumption); (case hQ_k17 => exact fun _ _ _ h => h); (case hy_k17 => (refine Or.inl ⟨by rfl, ?_⟩; (intro w hSw; (try dsimp only at hSw); go_simp) <;> with_reducible rfl)); (try simp only [Act.put, List.setIfInBounds_toArray, List.set_cons_zero, List.set_cons_succ]))
            (refine wpAnyH_take (i := 16) (oi := ?oi_k18) (v := ?v_k18) ?ho_k18 ?hs_k18 ?hf_k18 ?hr_k18 ?hQ_k18 ?hy_k18 ?hS_k18 ?rest_k18; (case hr_k18 => kernel_rfl); (case hf_k18 => kernel_rfl); (case hs_k18 => kernel_rfl); (case ho_k18 => (simp only [List.getElem?_toArray, List.getElem?_cons_succ, List.getElem?_cons_zero]; rfl)); (case hS_k18 => assumption); (case hQ_k18 => exact fun _ _ _ h => h); (case hy_k18 => (refine Or.inl ⟨by rfl, ?_⟩; (intro w hSw; (try dsimp only at hSw); go_simp) <;> with_reducible rfl)); (try simp only [Act.put, List.setIfInBounds_toArray, List.set_cons_zero, List.set_cons_succ]))
            refine wpAnyH_ready (rs := [18]) (by kernel_rfl) (by simp) ?_
            refine (AllReadyH.cons (o := ?ook19_0) ?hok19_0 ?hsk19_0 AllReadyH.nil)
            case hok19_0 => (simp only [List.getElem?_toArray, List.getElem?_cons_succ, List.getElem?_cons_zero]; rfl)
            case hsk19_0 =>
              intro K hK
              refine storeB_step rfl 48 _ _ rfl (w.heap.size + 1) #[.int .i64 n2, .int .i64 n3, .int .i64 n4, .bool d1, .bool d2] _ _ rfl rfl hb1 rfl size_head.out (by simp [Value.oneCell']) ?_
              intro w3 hb3 hu3
              have hX := (((Upd.refl Non (w.alloc (.cells #[.int .i64 0, .int .i64 0, .int .i64 0, .bool false, .bool false] 48))).then_alloc (.cells #[.int .i64 0, .int .i64 0, .int .i64 0, .bool false, .bool false] 48)).then_drew).trans hu3 fun j hj e => by (have : j = w.heap.size + 1 := e); (simp at hj); omega
              refine hK.out _ _ (by exact hX) (fun hHeld => ?_)
              clear hK K
              try simp only [Act.put, List.setIfInBounds_toArray, List.set_cons_zero, List.set_cons_succ]
              refine wpAnyH_done (by kernel_rfl) ?_ _
              obtain ⟨z0, z1, z2, z3, z4⟩ := cells5 hb3
              clear hb1 hu3
              go_wp2_with fail
              refine (hrt.out _).mono ?_
              rintro e4 w4 ⟨rfl, hu4⟩
              replace hX := hX.trans hu4 fun _ _ h => h
              have hb4 := hu4.heap hb3 fun h => h
              clear z0 z1 z2 z3 z4 hu4 hb3
              cases ok with
              | false =>
                have hbad := hno.out (fun h => by
                  have h2 := h.2
                  rw [if_neg (of_decide_eq_false hok.out)] at h2
                  injection h2 with _ h3
                  cases h3)
                clear hb4
                have hb := hX.heap (heap_alloc_new w _) fun h => h
                have hU := (hX.own1 (fun _ h => h.elim)).2.2.2
                clear hX
                try simp only []
                go_wp2_with ((with_reducible (show wpList _ _ _ (⟨_, Op.store _ _ _, _, _, _, _⟩ :: _) _ _)); refine storeB_list rfl 48 _ _ rfl w.heap.size #[.int .i64 0, .int .i64 0, .int .i64 0, .bool false, .bool false] _ _ rfl rfl hb rfl size_head.out (by simp [Value.oneCell']) ?_)
                intro w8 hb8 hu8
                obtain ⟨x0, x1, x2, x3, x4⟩ := cells5 hb8
                have hU8 := hU.trans hu8 (fun k hk e => by (have : k = w.heap.size := e); omega)
                clear hb hb8 hu8 hU
                go_wp2_with fail
                refine bodyPost_ret (v := .tuple #[.agg #[.int .i64 0, .int .i64 0, .int .i64 0, .bool false, .bool false], .int .i64 4]) (by simp [results, Tryd.results25, go_sem, x0, x1, x2, x3, x4]; try rfl) rfl ⟨by rw [hbad]; rfl, hU8⟩
              | true =>
                obtain ⟨z0, z1, z2, z3, z4⟩ := cells5 hb4
                go_wp2_with fail
                refine (hhd.out _).mono ?_
                rintro e5 w5 ⟨rfl, hu5⟩
                replace hX := hX.trans hu5 fun _ _ h => h
                have hb5 := hu5.heap hb4 fun h => h
                clear z0 z1 z2 z3 z4 hu5 hb4
                unfold txtV
                have hbb : hdB (hdOf s) = s → rhR s = (hdOf s, 0) := fun e => hyes.out (by rw [if_pos (of_decide_eq_true hok.out), e])
                have hbn : ¬ hdB (hdOf s) = s → rhR s = (Hd.none, 4) := fun e => hno.out (fun h => by
                  have h2 := h.2
                  rw [if_pos (of_decide_eq_true hok.out)] at h2
                  injection h2 with h3 _
                  exact e h3)
                generalize hdB (hdOf s) = t at *
                by_cases hts : t = s
                · have hgood := hbb hts
                  have hvv := hva.out 0 hgood
                  have hts2 : (t == s) = true := by simp [hts]
                  obtain ⟨z0, z1, z2, z3, z4⟩ := cells5 hb5
                  replace hgood := Lib.hid hgood
                  replace hvv := Lib.hid hvv
                  replace hts := Lib.hid hts
                  clear hb5 hbb hbn
                  have hb := hX.heap (heap_alloc_new w _) fun h => h
                  have hU := (hX.own1 (fun _ h => h.elim)).2.2.2
                  clear hX
                  try simp only []
                  go_wp2_with ((with_reducible (show wpList _ _ _ (⟨_, Op.store _ _ _, _, _, _, _⟩ :: _) _ _)); refine storeB_list rfl 48 _ _ rfl w.heap.size #[.int .i64 n2, .int .i64 n3, .int .i64 n4, .bool d1, .bool d2] _ _ rfl rfl hb rfl size_head.out (by simp [Value.oneCell']) ?_)
                  intro w8 hb8 hu8
                  obtain ⟨x0, x1, x2, x3, x4⟩ := cells5 hb8
                  have hU8 := hU.trans hu8 (fun k hk e => by (have : k = w.heap.size := e); omega)
                  clear hb hb8 hu8 hU
                  go_wp2_with fail
                  refine bodyPost_ret (v := .tuple #[.agg #[.int .i64 n2, .int .i64 n3, .int .i64 n4, .bool d1, .bool d2], .int .i64 0]) (by simp [results, Tryd.results25, go_sem, x0, x1, x2, x3, x4]; try rfl) rfl ⟨by rw [hvv.out, hgood.out], hU8⟩
                · have hbad := hbn hts
                  have hts2 : (t == s) = false := by simpa using hts
                  clear hb5 hbb hbn
                  have hb := hX.heap (heap_alloc_new w _) fun h => h
                  have hU := (hX.own1 (fun _ h => h.elim)).2.2.2
                  clear hX
                  try simp only []
                  go_wp2_with ((with_reducible (show wpList _ _ _ (⟨_, Op.store _ _ _, _, _, _, _⟩ :: _) _ _)); refine storeB_list rfl 48 _ _ rfl w.heap.size #[.int .i64 0, .int .i64 0, .int .i64 0, .bool false, .bool false] _ _ rfl rfl hb rfl size_head.out (by simp [Value.oneCell']) ?_)
                  intro w8 hb8 hu8
                  obtain ⟨x0, x1, x2, x3, x4⟩ := cells5 hb8
                  have hU8 := hU.trans hu8 (fun k hk e => by (have : k = w.heap.size := e); omega)
                  clear hb hb8 hu8 hU
                  go_wp2_with fail
                  refine bodyPost_ret (v := .tuple #[.agg #[.int .i64 0, .int .i64 0, .int .i64 0, .bool false, .bool false], .int .i64 4]) (by simp [results, Tryd.results25, go_sem, x0, x1, x2, x3, x4]; try rfl) rfl ⟨by rw [hbad]; rfl, hU8⟩
      case hsk27_1 =>
        intro K hK
        go_simp
        try go_wp2_with fail
        refine hK.out _ _ (by exact ((Upd.refl Non (w.alloc (.cells #[.int .i64 0, .int .i64 0, .int .i64 0, .bool false, .bool false] 48))).then_drew).then_alloc _) (fun hHeld => ?_)
        clear hK K
        try simp only [Act.put, List.setIfInBounds_toArray, List.set_cons_zero, List.set_cons_succ]
        refine wpAnyH_ready (rs := [12]) (by kernel_rfl) (by simp) ?_
        refine (AllReadyH.cons (o := ?ook26_0) ?hok26_0 ?hsk26_0 AllReadyH.nil)
        case hok26_0 => (simp only [List.getElem?_toArray, List.getElem?_cons_succ, List.getElem?_cons_zero]; rfl)
        case hsk26_0 =>
          intro K hK
          go_simp
          refine (refNumber s 3 4 _ (by omega) (by omega) (by decide)).mono ?_
          rintro en wx ⟨rfl, rfl⟩
          try go_wp2_with fail
          refine hK.out _ _ (by exact ((Upd.refl Non (w.alloc (.cells #[.int .i64 0, .int .i64 0, .int .i64 0, .bool false, .bool false] 48))).then_drew).then_alloc _) (fun hHeld => ?_)
          clear hK K
          try simp only [Act.put, List.setIfInBounds_toArray, List.set_cons_zero, List.set_cons_succ]
          refine wpAnyH_ready (rs := [14]) (by kernel_rfl) (by simp) ?_
          refine (AllReadyH.cons (o := ?ook25_0) ?hok25_0 ?hsk25_0 AllReadyH.nil)
          case hok25_0 => (simp only [List.getElem?_toArray, List.getElem?_cons_succ, List.getElem?_cons_zero]; rfl)
          case hsk25_0 =>
            intro K hK
            go_simp
            refine (refNumber s 7 4 _ (by omega) (by omega) (by decide)).mono ?_
            rintro en wx ⟨rfl, rfl⟩
            try go_wp2_with fail
            refine hK.out _ _ (by exact ((Upd.refl Non (w.alloc (.cells #[.int .i64 0, .int .i64 0, .int .i64 0, .bool false, .bool false] 48))).then_drew).then_alloc _) (fun hHeld => ?_)
            clear hK K
            try simp only [Act.put, List.setIfInBounds_toArray, List.set_cons_zero, List.set_cons_succ]
            (refine wpAnyH_take (i := 15) (oi := ?oi_k22) (v := ?v_k22) ?ho_k22 ?hs_k22 ?hf_k22 ?hr_k22 ?hQ_k22 ?hy_k22 ?hS_k22 ?rest_k22; (case hr_k22 => kernel_rfl); (case hf_k22 => kernel_rfl); (case hs_k22 => kernel_rfl); (case ho_k22 => (simp only [List.getElem?_toArray, List.getElem?_cons_succ, List.getElem?_cons_zero]; rfl)); (case hS_k22 => assumption); (case hQ_k22 => exact fun _ _ _ h => h); (case hy_k22 => (refine Or.inl ⟨by rfl, ?_⟩; (intro w hSw; (try dsimp only at hSw); go_simp) <;> with_reducible rfl)); (try simp only [Act.put, List.setIfInBounds_toArray, List.set_cons_zero, List.set_cons_succ]))
            (refine wpAnyH_take (i := 16) (oi := ?oi_k23) (v := ?v_k23) ?ho_k23 ?hs_k23 ?hf_k23 ?hr_k23 ?hQ_k23 ?hy_k23 ?hS_k23 ?rest_k23; (case hr_k23 => kernel_rfl); (case hf_k23 => kernel_rfl); (case hs_k23 => kernel_rfl); (case ho_k23 => (simp only [List.getElem?_toArray, List.getElem?_cons_succ, List.getElem?_cons_zero]; rfl)); (case hS_k23 => assumption); (case hQ_k23 => exact fun _ _ _ h => h); (case hy_k23 => (refine Or.inl ⟨by rfl, ?_⟩; (intro w hSw; (try dsimp only at hSw); go_simp) <;> with_reducible rfl)); (try simp only [Act.put, List.setIfInBounds_toArray, List.set_cons_zero, List.set_cons_succ]))
            refine wpAnyH_ready (rs := [18]) (by kernel_rfl) (by simp) ?_
            refine (AllReadyH.cons (o := ?ook24_0) ?hok24_0 ?hsk24_0 AllReadyH.nil)
            case hok24_0 => (simp only [List.getElem?_toArray, List.getElem?_cons_succ, List.getElem?_cons_zero]; rfl)
            case hsk24_0 =>
              intro K hK
              refine storeB_step rfl 48 _ _ rfl (w.heap.size + 1) #[.int .i64 n2, .int .i64 n3, .int .i64 n4, .bool d1, .bool d2] _ _ rfl rfl hb1 rfl size_head.out (by simp [Value.oneCell']) ?_
              intro w3 hb3 hu3
              have hX := (((Upd.refl Non (w.alloc (.cells #[.int .i64 0, .int .i64 0, .int .i64 0, .bool false, .bool false] 48))).then_alloc (.cells #[.int .i64 0, .int .i64 0, .int .i64 0, .bool false, .bool false] 48)).then_drew).trans hu3 fun j hj e => by (have : j = w.heap.size + 1 := e); (simp at hj); omega
              refine hK.out _ _ (by exact hX) (fun hHeld => ?_)
              clear hK K
              try simp only [Act.put, List.setIfInBounds_toArray, List.set_cons_zero, List.set_cons_succ]
              refine wpAnyH_done (by kernel_rfl) ?_ _
              obtain ⟨z0, z1, z2, z3, z4⟩ := cells5 hb3
              clear hb1 hu3
              go_wp2_with fail
              refine (hrt.out _).mono ?_
              rintro e4 w4 ⟨rfl, hu4⟩
              replace hX := hX.trans hu4 fun _ _ h => h
              have hb4 := hu4.heap hb3 fun h => h
              clear z0 z1 z2 z3 z4 hu4 hb3
              cases ok with
              | false =>
                have hbad := hno.out (fun h => by
                  have h2 := h.2
                  rw [if_neg (of_decide_eq_false hok.out)] at h2
                  injection h2 with _ h3
                  cases h3)
                clear hb4
                have hb := hX.heap (heap_alloc_new w _) fun h => h
                have hU := (hX.own1 (fun _ h => h.elim)).2.2.2
                clear hX
                try simp only []
                go_wp2_with ((with_reducible (show wpList _ _ _ (⟨_, Op.store _ _ _, _, _, _, _⟩ :: _) _ _)); refine storeB_list rfl 48 _ _ rfl w.heap.size #[.int .i64 0, .int .i64 0, .int .i64 0, .bool false, .bool false] _ _ rfl rfl hb rfl size_head.out (by simp [Value.oneCell']) ?_)
                intro w8 hb8 hu8
                obtain ⟨x0, x1, x2, x3, x4⟩ := cells5 hb8
                have hU8 := hU.trans hu8 (fun k hk e => by (have : k = w.heap.size := e); omega)
                clear hb hb8 hu8 hU
                go_wp2_with fail
                refine bodyPost_ret (v := .tuple #[.agg #[.int .i64 0, .int .i64 0, .int .i64 0, .bool false, .bool false], .int .i64 4]) (by simp [results, Tryd.results25, go_sem, x0, x1, x2, x3, x4]; try rfl) rfl ⟨by rw [hbad]; rfl, hU8⟩
              | true =>
                obtain ⟨z0, z1, z2, z3, z4⟩ := cells5 hb4
                go_wp2_with fail
                refine (hhd.out _).mono ?_
                rintro e5 w5 ⟨rfl, hu5⟩
                replace hX := hX.trans hu5 fun _ _ h => h
                have hb5 := hu5.heap hb4 fun h => h
                clear z0 z1 z2 z3 z4 hu5 hb4
                unfold txtV
                have hbb : hdB (hdOf s) = s → rhR s = (hdOf s, 0) := fun e => hyes.out (by rw [if_pos (of_decide_eq_true hok.out), e])
                have hbn : ¬ hdB (hdOf s) = s → rhR s = (Hd.none, 4) := fun e => hno.out (fun h => by
                  have h2 := h.2
                  rw [if_pos (of_decide_eq_true hok.out)] at h2
                  injection h2 with h3 _
                  exact e h3)
                generalize hdB (hdOf s) = t at *
                by_cases hts : t = s
                · have hgood := hbb hts
                  have hvv := hva.out 0 hgood
                  have hts2 : (t == s) = true := by simp [hts]
                  obtain ⟨z0, z1, z2, z3, z4⟩ := cells5 hb5
                  replace hgood := Lib.hid hgood
                  replace hvv := Lib.hid hvv
                  replace hts := Lib.hid hts
                  clear hb5 hbb hbn
                  have hb := hX.heap (heap_alloc_new w _) fun h => h
                  have hU := (hX.own1 (fun _ h => h.elim)).2.2.2
                  clear hX
                  try simp only []
                  go_wp2_with ((with_reducible (show wpList _ _ _ (⟨_, Op.store _ _ _, _, _, _, _⟩ :: _) _ _)); refine storeB_list rfl 48 _ _ rfl w.heap.size #[.int .i64 n2, .int .i64 n3, .int .i64 n4, .bool d1, .bool d2] _ _ rfl rfl hb rfl size_head.out (by simp [Value.oneCell']) ?_)
                  intro w8 hb8 hu8
                  obtain ⟨x0, x1, x2, x3, x4⟩ := cells5 hb8
                  have hU8 := hU.trans hu8 (fun k hk e => by (have : k = w.heap.size := e); omega)
                  clear hb hb8 hu8 hU
                  go_wp2_with fail
                  refine bodyPost_ret (v := .tuple #[.agg #[.int .i64 n2, .int .i64 n3, .int .i64 n4, .bool d1, .bool d2], .int .i64 0]) (by simp [results, Tryd.results25, go_sem, x0, x1, x2, x3, x4]; try rfl) rfl ⟨by rw [hvv.out, hgood.out], hU8⟩
                · have hbad := hbn hts
                  have hts2 : (t == s) = false := by simpa using hts
                  clear hb5 hbb hbn
                  have hb := hX.heap (heap_alloc_new w _) fun h => h
                  have hU := (hX.own1 (fun _ h => h.elim)).2.2.2
                  clear hX
                  try simp only []
                  go_wp2_with ((with_reducible (show wpList _ _ _ (⟨_, Op.store _ _ _, _, _, _, _⟩ :: _) _ _)); refine storeB_list rfl 48 _ _ rfl w.heap.size #[.int .i64 0, .int .i64 0, .int .i64 0, .bool false, .bool false] _ _ rfl rfl hb rfl size_head.out (by simp [Value.oneCell']) ?_)
                  intro w8 hb8 hu8
                  obtain ⟨x0, x1, x2, x3, x4⟩ := cells5 hb8
                  have hU8 := hU.trans hu8 (fun k hk e => by (have : k = w.heap.size := e); omega)
                  clear hb hb8 hu8 hU
                  go_wp2_with fail
                  refine bodyPost_ret (v := .tuple #[.agg #[.int .i64 0, .int .i64 0, .int .i64 0, .bool false, .bool false], .int .i64 4]) (by simp [results, Tryd.results25, go_sem, x0, x1, x2, x3, x4]; try rfl) rfl ⟨by rw [hbad]; rfl, hU8⟩
    case hsk34_1 =>
      intro K hK
      go_simp
      try go_wp2_with fail
      refine hK.out _ _ (by exact ((Upd.refl Non (w.alloc (.cells #[.int .i64 0, .int .i64 0, .int .i64 0, .bool false, .bool false] 48))).then_drew).then_alloc _) (fun hHeld => ?_)
      clear hK K
      try simp only [Act.put, List.setIfInBounds_toArray, List.set_cons_zero, List.set_cons_succ]
      refine wpAnyH_ready (rs := [10]) (by kernel_rfl) (by simp) ?_
      refine (AllReadyH.cons (o := ?ook33_0) ?hok33_0 ?hsk33_0 AllReadyH.nil)
      case hok33_0 => (simp only [List.getElem?_toArray, List.getElem?_cons_succ, List.getElem?_cons_zero]; rfl)
      case hsk33_0 =>
        intro K hK
        go_simp
        refine (refNumber s 1 2 _ (by omega) (by omega) (by decide)).mono ?_
        rintro en wx ⟨rfl, rfl⟩
        try go_wp2_with fail
        refine hK.out _ _ (by exact ((Upd.refl Non (w.alloc (.cells #[.int .i64 0, .int .i64 0, .int .i64 0, .bool false, .bool false] 48))).then_drew).then_alloc _) (fun hHeld => ?_)
        clear hK K
        try simp only [Act.put, List.setIfInBounds_toArray, List.set_cons_zero, List.set_cons_succ]
        refine wpAnyH_ready (rs := [12]) (by kernel_rfl) (by simp) ?_
        refine (AllReadyH.cons (o := ?ook32_0) ?hok32_0 ?hsk32_0 AllReadyH.nil)
        case hok32_0 => (simp only [List.getElem?_toArray, List.getElem?_cons_succ, List.getElem?_cons_zero]; rfl)
        case hsk32_0 =>
          intro K hK
          go_simp
          refine (refNumber s 3 4 _ (by omega) (by omega) (by decide)).mono ?_
          rintro en wx ⟨rfl, rfl⟩
          try go_wp2_with fail
          refine hK.out _ _ (by exact ((Upd.refl Non (w.alloc (.cells #[.int .i64 0, .int .i64 0, .int .i64 0, .bool false, .bool false] 48))).then_drew).then_alloc _) (fun hHeld => ?_)
          clear hK K
          try simp only [Act.put, List.setIfInBounds_toArray, List.set_cons_zero, List.set_cons_succ]
          refine wpAnyH_ready (rs := [14]) (by kernel_rfl) (by simp) ?_
          refine (AllReadyH.cons (o := ?ook31_0) ?hok31_0 ?hsk31_0 AllReadyH.nil)
          case hok31_0 => (simp only [List.getElem?_toArray, List.getElem?_cons_succ, List.getElem?_cons_zero]; rfl)
          case hsk31_0 =>
            intro K hK
            go_simp
            refine (refNumber s 7 4 _ (by omega) (by omega) (by decide)).mono ?_
            rintro en wx ⟨rfl, rfl⟩
            try go_wp2_with fail
            refine hK.out _ _ (by exact ((Upd.refl Non (w.alloc (.cells #[.int .i64 0, .int .i64 0, .int .i64 0, .bool false, .bool false] 48))).then_drew).then_alloc _) (fun hHeld => ?_)
            clear hK K
            try simp only [Act.put, List.setIfInBounds_toArray, List.set_cons_zero, List.set_cons_succ]
            (refine wpAnyH_take (i := 15) (oi := ?oi_k28) (v := ?v_k28) ?ho_k28 ?hs_k28 ?hf_k28 ?hr_k28 ?hQ_k28 ?hy_k28 ?hS_k28 ?rest_k28; (case hr_k28 => kernel_rfl); (case hf_k28 => kernel_rfl); (case hs_k28 => kernel_rfl); (case ho_k28 => (simp only [List.getElem?_toArray, List.getElem?_cons_succ, List.getElem?_cons_zero]; rfl)); (case hS_k28 => assumption); (case hQ_k28 => exact fun _ _ _ h => h); (case hy_k28 => (refine Or.inl ⟨by rfl, ?_⟩; (intro w hSw; (try dsimp only at hSw); go_simp) <;> with_reducible rfl)); (try simp only [Act.put, List.setIfInBounds_toArray, List.set_cons_zero, List.set_cons_succ]))
            (refine wpAnyH_take (i := 16) (oi := ?oi_k29) (v := ?v_k29) ?ho_k29 ?hs_k29 ?hf_k29 ?hr_k29 ?hQ_k29 ?hy_k29 ?hS_k29 ?rest_k29; (case hr_k29 => kernel_rfl); (case hf_k29 => kernel_rfl); (case hs_k29 => kernel_rfl); (case ho_k29 => (simp only [List.getElem?_toArray, List.getElem?_cons_succ, List.getElem?_cons_zero]; rfl)); (case hS_k29 => assumption); (case hQ_k29 => exact fun _ _ _ h => h); (case hy_k29 => (refine Or.inl ⟨by rfl, ?_⟩; (intro w hSw; (try dsimp only at hSw); go_simp) <;> with_reducible rfl)); (try simp only [Act.put, List.setIfInBounds_toArray, List.set_cons_zero, List.set_cons_succ]))
            refine wpAnyH_ready (rs := [18]) (by kernel_rfl) (by simp) ?_
            refine (AllReadyH.cons (o := ?ook30_0) ?hok30_0 ?hsk30_0 AllReadyH.nil)
            case hok30_0 => (simp only [List.getElem?_toArray, List.getElem?_cons_succ, List.getElem?_cons_zero]; rfl)
            case hsk30_0 =>
              intro K hK
              refine storeB_step rfl 48 _ _ rfl (w.heap.size + 1) #[.int .i64 n2, .int .i64 n3, .int .i64 n4, .bool d1, .bool d2] _ _ rfl rfl hb1 rfl size_head.out (by simp [Value.oneCell']) ?_
              intro w3 hb3 hu3
              have hX := (((Upd.refl Non (w.alloc (.cells #[.int .i64 0, .int .i64 0, .int .i64 0, .bool false, .bool false] 48))).then_alloc (.cells #[.int .i64 0, .int .i64 0, .int .i64 0, .bool false, .bool false] 48)).then_drew).trans hu3 fun j hj e => by (have : j = w.heap.size + 1 := e); (simp at hj); omega
              refine hK.out _ _ (by exact hX) (fun hHeld => ?_)
              clear hK K
              try simp only [Act.put, List.setIfInBounds_toArray, List.set_cons_zero, List.set_cons_succ]
              refine wpAnyH_done (by kernel_rfl) ?_ _
              obtain ⟨z0, z1, z2, z3, z4⟩ := cells5 hb3
              clear hb1 hu3
              go_wp2_with fail
              refine (hrt.out _).mono ?_
              rintro e4 w4 ⟨rfl, hu4⟩
              replace hX := hX.trans hu4 fun _ _ h => h
              have hb4 := hu4.heap hb3 fun h => h
              clear z0 z1 z2 z3 z4 hu4 hb3
              cases ok with
              | false =>
                have hbad := hno.out (fun h => by
                  have h2 := h.2
                  rw [if_neg (of_decide_eq_false hok.out)] at h2
                  injection h2 with _ h3
                  cases h3)
                clear hb4
                have hb := hX.heap (heap_alloc_new w _) fun h => h
                have hU := (hX.own1 (fun _ h => h.elim)).2.2.2
                clear hX
                try simp only []
                go_wp2_with ((with_reducible (show wpList _ _ _ (⟨_, Op.store _ _ _, _, _, _, _⟩ :: _) _ _)); refine storeB_list rfl 48 _ _ rfl w.heap.size #[.int .i64 0, .int .i64 0, .int .i64 0, .bool false, .bool false] _ _ rfl rfl hb rfl size_head.out (by simp [Value.oneCell']) ?_)
                intro w8 hb8 hu8
                obtain ⟨x0, x1, x2, x3, x4⟩ := cells5 hb8
                have hU8 := hU.trans hu8 (fun k hk e => by (have : k = w.heap.size := e); omega)
                clear hb hb8 hu8 hU
                go_wp2_with fail
                refine bodyPost_ret (v := .tuple #[.agg #[.int .i64 0, .int .i64 0, .int .i64 0, .bool false, .bool false], .int .i64 4]) (by simp [results, Tryd.results25, go_sem, x0, x1, x2, x3, x4]; try rfl) rfl ⟨by rw [hbad]; rfl, hU8⟩
              | true =>
                obtain ⟨z0, z1, z2, z3, z4⟩ := cells5 hb4
                go_wp2_with fail
                refine (hhd.out _).mono ?_
                rintro e5 w5 ⟨rfl, hu5⟩
                replace hX := hX.trans hu5 fun _ _ h => h
                have hb5 := hu5.heap hb4 fun h => h
                clear z0 z1 z2 z3 z4 hu5 hb4
                unfold txtV
                have hbb : hdB (hdOf s) = s → rhR s = (hdOf s, 0) := fun e => hyes.out (by rw [if_pos (of_decide_eq_true hok.out), e])
                have hbn : ¬ hdB (hdOf s) = s → rhR s = (Hd.none, 4) := fun e => hno.out (fun h => by
                  have h2 := h.2
                  rw [if_pos (of_decide_eq_true hok.out)] at h2
                  injection h2 with h3 _
                  exact e h3)
                generalize hdB (hdOf s) = t at *
                by_cases hts : t = s
                · have hgood := hbb hts
                  have hvv := hva.out 0 hgood
                  have hts2 : (t == s) = true := by simp [hts]
                  obtain ⟨z0, z1, z2, z3, z4⟩ := cells5 hb5
                  replace hgood := Lib.hid hgood
                  replace hvv := Lib.hid hvv
                  replace hts := Lib.hid hts
                  clear hb5 hbb hbn
                  have hb := hX.heap (heap_alloc_new w _) fun h => h
                  have hU := (hX.own1 (fun _ h => h.elim)).2.2.2
                  clear hX
                  try simp only []
                  go_wp2_with ((with_reducible (show wpList _ _ _ (⟨_, Op.store _ _ _, _, _, _, _⟩ :: _) _ _)); refine storeB_list rfl 48 _ _ rfl w.heap.size #[.int .i64 n2, .int .i64 n3, .int .i64 n4, .bool d1, .bool d2] _ _ rfl rfl hb rfl size_head.out (by simp [Value.oneCell']) ?_)
                  intro w8 hb8 hu8
                  obtain ⟨x0, x1, x2, x3, x4⟩ := cells5 hb8
                  have hU8 := hU.trans hu8 (fun k hk e => by (have : k = w.heap.size := e); omega)
                  clear hb hb8 hu8 hU
                  go_wp2_with fail
                  refine bodyPost_ret (v := .tuple #[.agg #[.int .i64 n2, .int .i64 n3, .int .i64 n4, .bool d1, .bool d2], .int .i64 0]) (by simp [results, Tryd.results25, go_sem, x0, x1, x2, x3, x4]; try rfl) rfl ⟨by rw [hvv.out, hgood.out], hU8⟩
                · have hbad := hbn hts
                  have hts2 : (t == s) = false := by simpa using hts
                  clear hb5 hbb hbn
                  have hb := hX.heap (heap_alloc_new w _) fun h => h
                  have hU := (hX.own1 (fun _ h => h.elim)).2.2.2
                  clear hX
                  try simp only []
                  go_wp2_with ((with_reducible (show wpList _ _ _ (⟨_, Op.store _ _ _, _, _, _, _⟩ :: _) _ _)); refine storeB_list rfl 48 _ _ rfl w.heap.size #[.int .i64 0, .int .i64 0, .int .i64 0, .bool false, .bool false] _ _ rfl rfl hb rfl size_head.out (by simp [Value.oneCell']) ?_)
                  intro w8 hb8 hu8
                  obtain ⟨x0, x1, x2, x3, x4⟩ := cells5 hb8
                  have hU8 := hU.trans hu8 (fun k hk e => by (have : k = w.heap.size := e); omega)
                  clear hb hb8 hu8 hU
                  go_wp2_with fail
                  refine bodyPost_ret (v := .tuple #[.agg #[.int .i64 0, .int .i64 0, .int .i64 0, .bool false, .bool false], .int .i64 4]) (by simp [results, Tryd.results25, go_sem, x0, x1, x2, x3, x4]; try rfl) rfl ⟨by rw [hbad]; rfl, hU8⟩
  · have hbad := rhR_no (s := s) (fun h => hl h.1)
    have hl2 : ((s.length : Int) != 11) = true := by simp only [bne_iff_ne, ne_eq]; omega
    have hX : Upd Non (w.alloc (.cells #[.int .i64 0, .int .i64 0, .int .i64 0, .bool false, .bool false] 48)) (w.alloc (.cells #[.int .i64 0, .int .i64 0, .int .i64 0, .bool false, .bool false] 48)) := Upd.refl _ _
    go_enter Tryd.func25, Tryd.ntmps25
    have hb := hX.heap (heap_alloc_new w _) fun h => h
    have hU := (hX.own1 (fun _ h => h.elim)).2.2.2
    clear hX
    try simp only []
    go_wp2_with ((with_reducible (show wpList _ _ _ (⟨_, Op.store _ _ _, _, _, _, _⟩ :: _) _ _)); refine storeB_list rfl 48 _ _ rfl w.heap.size #[.int .i64 0, .int .i64 0, .int .i64 0, .bool false, .bool false] _ _ rfl rfl hb rfl size_head.out (by simp [Value.oneCell']) ?_)
    intro w8 hb8 hu8
    obtain ⟨x0, x1, x2, x3, x4⟩ := cells5 hb8
    have hU8 := hU.trans hu8 (fun k hk e => by (have : k = w.heap.size := e); omega)
    clear hb hb8 hu8 hU
    go_wp2_with fail
    refine bodyPost_ret (v := .tuple #[.agg #[.int .i64 0, .int .i64 0, .int .i64 0, .bool false, .bool false], .int .i64 4]) (by simp [results, Tryd.results25, go_sem, x0, x1, x2, x3, x4]; try rfl) rfl ⟨by rw [hbad]; rfl, hU8⟩
end Go.Proofs.YtaflpabpkpfifaaDoor
