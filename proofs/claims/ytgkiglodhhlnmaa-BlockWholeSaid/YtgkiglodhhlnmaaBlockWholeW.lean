/- The walk over BlockWhole. -/
import Derived.Test.YtgkiglodhhlnmaaBlT
import Derived.Test.YtgkiglodhhlnmaaBlockDeadW
import Derived.Laws.MakeOwn
namespace Go.Proofs.Ytgkiglodhhlnmaa
open Go.RowKit Go.Amb Go.Shelf
set_option linter.unusedVariables false
set_option linter.unusedSimpArgs false
set_option maxRecDepth 100000
theorem info_str : (Try.prog.info? 9).map (fun i => (i.zero, i.size, i.bytes)) = some (some (.string ⟨#[]⟩), 1, 16) := by kernel_rfl
theorem one_str (s : List UInt8) : ∀ u ∈ [strV s], u.oneCell' = true := by intro u hu; rw [List.mem_singleton] at hu; subst hu; rfl
theorem run_make8 (w : World) : (Instr.makeSlice 39 (.int .i64 8) (.int .i64 8)).run Try.prog w = .ok (.slice (some ⟨w.heap.size, 0, none⟩) 8 8) (w.alloc (.cells (Array.replicate 8 (.slice none 0 0)) 40)) := by
  obtain ⟨i, hi, hz0, hsz, hby⟩ := info_parts (show (Try.prog.info? 40).map (fun i => (i.zero, i.size, i.bytes)) = some (some (.slice none 0 0), 1, 24) by kernel_rfl)
  have hr := run_make (P := Try.prog) w 39 40 i _ Try.underlying39 hi hz0 .i64 .i64 8 8 (by omega) (by omega) (by rw [hby]; omega) (by omega)
  rw [hr, hsz]
  congr 3
  apply Array.ext_getElem?
  intro k
  simp only [madeCells, Value.cells, Array.getElem?_map, Array.getElem?_range, Array.getElem?_replicate]
  by_cases hk : k < 8
  · simp [hk, Nat.mod_one]
  · simp [hk]
/-- A row of the slices is read by the disk's Read: what is read stands apart from the slices. -/
theorem apart_may {B : Nat} {w : World} {Mb : Nat} {F : Nat → Prop} {M : Nat → List (List UInt8)} {vs : Nat → Value} (h : MayAt B w Mb F M vs) {vb : Value} (hv : ∀ k, At vb k → w.heap.size ≤ k) :
    (∀ i, i < 8 → ∀ k, At vb k → ¬ At (vs i) k) ∧ ∀ k, At vb k → ¬ k = Mb := by
  refine ⟨fun i hi k h1 h2 => ?_, fun k h1 h2 => ?_⟩
  · have := own_lt (h.own i hi) h2; have := hv k h1; omega
  · have := h.lt; have := hv k h1; omega
theorem lvRead2 {w0 w : World} {D : Nat} {F : Nat → Prop} {d : Dk} (h : Lv w0 D w F d) (hn : d.P.length ≤ 1000000) (i : Int) :
    Calls Try.prog 14 #[.pointer (some ⟨D, 0, none⟩), .int .i64 i] w (fun en w' => ∃ v, en = .returned (.tuple #[v, .int .i64 (d.within i)]) ∧ Apart w' F v (d.reads i) ∧ Lv w0 D w' F d ∧ Upd Non w w' ∧ ∀ k, At v k → w.heap.size ≤ k) :=
  (lReadAll h.at_ hn i).mono fun en w' ⟨v, he, hB, hu, hv⟩ => ⟨v, he, ⟨hB, fun k hk => ⟨fun hF => by have := h.at_.lt k hF; have := (hv k hk).1; omega, (hv k hk).2⟩⟩, h.non hu, hu, fun k hk => (hv k hk).1⟩
theorem rem8w (i : Int) : ∃ n : Nat, n < 8 ∧ wrap64 ((IntKind.u64.wrap i).tmod 8) = n := by
  have h1 : IntKind.u64.wrap i = i % 18446744073709551616 := by rw [IntKind.wrap_u64]
  have h2 : 0 ≤ i % 18446744073709551616 := by omega
  rw [h1, Int.tmod_eq_emod_of_nonneg h2]
  refine ⟨(i % 18446744073709551616 % 8).toNat, by omega, ?_⟩
  have h3 : ((i % 18446744073709551616 % 8).toNat : Int) = i % 18446744073709551616 % 8 := by omega
  rw [h3]
  exact IntWalk.wrap64_in _ ⟨by omega, by omega⟩
theorem may_step {w0 w w5 : World} {D : Nat} {F : Nat → Prop} {d : Dk} {Mb : Nat} {M : Nat → List (List UInt8)} {vs : Nat → Value} {i : Nat} {v5 : Value} {s : List UInt8} (L : Lv w0 D w F d) (h : MayAt w0.heap.size w Mb F M vs) (hi : i < 8)
    (ho : w5.ownsRow w0.heap.size 9 1 v5 ((M i).length + 1) ((M i).map strV ++ [strV s])) (hu : Upd (At (vs i)) w w5) (hn : ∀ k, At v5 k → At (vs i) k ∨ w.heap.size ≤ k) :
    Lv w0 D (w5.setCell ⟨Mb, i, none⟩ v5) F d ∧ MayAt w0.heap.size (w5.setCell ⟨Mb, i, none⟩ v5) Mb F (addM M i s) (setV vs i v5) := by
  refine ⟨?_, h.add hi L.at_.lt ho hu hn⟩
  have L5 := L.other hu (fun k hF hat => (h.dis i hi k hat).2.1 hF) (fun k hat => own_ge (h.own i hi) hat)
  exact L5.other (Upd.setCell (S := fun k => k = Mb) w5 (a := ⟨Mb, i, none⟩) rfl v5) (fun k hF e => h.nF (by subst e; exact hF)) (fun k e => by subst e; exact h.lo)
def m1 (d : Dk) (i : Nat) : Nat → List (List UInt8) := fun j => if j < i then [d.reads (j : Int)] else []
theorem m1_add (d : Dk) (i : Nat) : addM (m1 d i) i (d.reads (i : Int)) = m1 d (i + 1) := by
  funext j
  unfold addM m1
  by_cases h : j = i
  · subst h; simp
  · rw [if_neg h]
    by_cases h2 : j < i
    · rw [if_pos h2, if_pos (by omega)]
    · rw [if_neg h2, if_neg (by omega)]
set_option maxHeartbeats 20000000 in
theorem lBlockWhole (v1 : Value) (l1 : List Act4) (v2 : Value) (l2 : List Act4) (v3 : Value) (keep : List Int) (w : World) (hA1 : Acts w v1 l1) (hA2 : Acts w v2 l2) (hI3 : Ints w v3 keep)
    (hold3 : 0 < keep.length → ∀ k, At v3 k → k < w.heap.size) :
    Calls Try.prog 4 #[v1, v2, v3] w (Ret (.bool true) w) := by
  have cB := Lib.hid (lBegun v1 l1 w hA1)
  obtain ⟨n, hn⟩ : ∃ n, l2.length = n := ⟨_, rfl⟩
  have hform : ∃ a c, v2 = .slice a n c := by obtain ⟨_, a, c, rfl, -⟩ := hA2.has; exact ⟨a, c, by rw [hn]⟩
  obtain ⟨va, vc, rfl⟩ := hform
  have hform3 : ∃ a c, v3 = .slice a keep.length c := by obtain ⟨_, a, c, rfl, -⟩ := hI3; exact ⟨_, _, rfl⟩
  obtain ⟨ka, kc, rfl⟩ := hform3
  have hform1 : ∃ a m c, v1 = .slice a m c := by obtain ⟨_, a, c, rfl, -⟩ := hA1.has; exact ⟨_, _, _, rfl⟩
  obtain ⟨ja, jm, jc, rfl⟩ := hform1
  replace hA1 := Lib.hid hA1
  replace hA2 := Lib.hid hA2
  replace hI3 := Lib.hid hI3
  replace hold3 := Lib.hid hold3
  replace hn := Lib.hid hn
  by_cases h50 : 50 < n
  · have h50' : (50 : Int) < (n : Int) := by omega
    go_enter Try.func4, Try.ntmps4
    go_wp2_with fail
    refine cB.out.mono ?_
    rintro en w1 ⟨D, F1, rfl, L1⟩
    have hU1 := L1.upd
    clear L1 cB
    simp only []
    go_wp2_with fail
    refine (lives04 _).mono ?_
    rintro en w2 ⟨rfl, hu2⟩
    have hU2 := hU1.trans hu2 fun _ _ h => h
    simp only []
    go_wp2_with fail
    go_ret
    exact ⟨rfl, hU2⟩
  · have h50' : ((50 : Int) < (n : Int)) = False := eq_false (by omega)
    have h50n : (50 < n) = False := eq_false h50
    have hnl : Hid (n ≤ 50) := Lib.hid (by omega)
    clear h50
    go_enter Try.func4, Try.ntmps4
    go_wp2_with fail
    refine cB.out.mono ?_
    rintro en w1 ⟨D, F1, rfl, L1⟩
    have hK0 := begunD_K l1 (min l1.length 200)
    have hP0 := begunD_P l1 (min l1.length 200)
    obtain ⟨d0, hd0⟩ : ∃ d0, begunD l1 (min l1.length 200) = d0 := ⟨_, rfl⟩
    rw [hd0] at L1 hK0 hP0
    clear hd0 cB
    have cC := Lib.hid (lvCrash L1 (by omega) (.slice none 0 0) [] (Has.nil _ _) (fun _ k hk => by simp [At, Value.ownBlock] at hk))
    clear L1
    simp only []
    go_wp2_with fail
    refine cC.out.mono ?_
    rintro en w2 ⟨rfl, F2, L2, -⟩
    have hPc : (d0.crash []).P.length = 0 := crash_P d0 []
    have hKc : (d0.crash []).K.length = 8 := by rw [crash_K]; exact hK0
    have hwi := fun i (hi : i < 8) => crash_within d0 [] i (by omega)
    have hinit := whole_init d0 hK0 (m1 (d0.crash []) 8) (fun i hi => by unfold m1; rw [if_pos hi]; exact List.mem_singleton.2 rfl)
    obtain ⟨d1, hd1⟩ : ∃ d1, d0.crash [] = d1 := ⟨_, rfl⟩
    rw [hd1] at L2 hPc hKc hwi hinit
    have hmk := run_make8 w2
    have hMA0 := MayAt.new w2 F2 40 L2.at_.lt w.heap.size L2.upd.size
    have L3 := L2.non (Upd.alloc Non w2 (.cells (Array.replicate 8 (.slice none 0 0)) 40))
    replace hinit := Lib.hid hinit
    replace hwi := Lib.hid hwi
    clear cC hd1 L2 hK0 hP0
    obtain ⟨w3, hw3⟩ : ∃ w3, w2.alloc (.cells (Array.replicate 8 (.slice none 0 0)) 40) = w3 := ⟨_, rfl⟩
    rw [hw3] at hmk hMA0 L3
    obtain ⟨Mb, hMb⟩ : ∃ Mb, w2.heap.size = Mb := ⟨_, rfl⟩
    rw [hMb] at hmk hMA0
    replace hMA0 := Lib.hid hMA0
    replace L3 := Lib.hid L3
    clear hw3 hMb
    simp only []
    go_wp2_with fail
    go_loopw [9] (fun iv wr => ∃ (i : Nat) (vs : Nat → Value), iv = .int .i64 (i : Int) ∧ i ≤ 8 ∧ Lv w D wr F2 d1 ∧ MayAt w.heap.size wr Mb F2 (m1 d1 i) vs) (fun iv _ => 8 - (intOf iv).toNat)
    case atStart => exact ⟨0, fun _ => .slice none 0 0, rfl, by omega, L3.out, hMA0.out⟩
    case round =>
      clear hMA0 L3 hmk
      obtain ⟨i, vs, rfl, hi8', L, MA⟩ := hrel
      by_cases hi8 : i < 8
      · have hi8i : (i : Int) < 8 := by omega
        have cR := Lib.hid (lvRead2 L (by omega) (i : Int))
        rw [hwi.out i hi8] at cR
        clear L
        go_wp2_with fail
        refine cR.out.mono ?_
        rintro en w5' ⟨vb, rfl, AB, LA, u5, hvnew⟩
        obtain ⟨hvbM, hvbMb⟩ := apart_may MA hvnew
        replace MA := MA.non u5
        clear cR u5 hvnew
        have hvf : ∃ a n c, vb = .slice a n c := by obtain ⟨_, a, c, rfl, -⟩ := AB.has; exact ⟨_, _, _, rfl⟩
        obtain ⟨ba, bn, bcap, rfl⟩ := hvf
        have x1 : w5'.cell? ⟨Mb, i, none⟩ = some (vs i) := MA.cell i hi8
        have q1 : w5'.frozen? ⟨Mb, i, none⟩ = false := MA.free i hi8
        have hvMb : ¬ At (vs i) Mb := fun hat => (MA.dis i hi8 Mb hat).1 rfl
        have hvA : Hid (∀ k, At (.slice ba bn bcap) k → ¬ At (vs i) k) := Lib.hid fun k h1 h2 => hvbM i hi8 k h1 h2
        have hvM : Hid (∀ k, At (.slice ba bn bcap) k → ¬ k = Mb) := Lib.hid fun k h1 h2 => hvbMb k h1 h2
        have hMl := MA.lt
        have hwl : w.heap.size ≤ w5'.heap.size := LA.upd.size
        have hMi : m1 d1 i i = [] := by unfold m1; rw [if_neg (by omega)]
        have hown : Hid (w5'.ownsRow w.heap.size 9 1 (vs i) 0 (([] : List (List UInt8)).map strV)) := Lib.hid (by have := MA.own i hi8; rw [hMi] at this; exact this)
        obtain ⟨sB, hsB⟩ : ∃ sB, d1.reads (i : Int) = sB := ⟨_, rfl⟩
        rw [hsB] at AB
        have ABh := Lib.hid AB
        replace MA := Lib.hid MA
        replace LA := Lib.hid LA
        clear AB hvbM hvbMb
        simp only []
        go_wp2_with fail
        refine wp_region_held_drew (S := fun w' => Bytes w' (.slice ba bn bcap) sB) (by kernel_rfl) (by exact ABh.out.has.non (Upd.drew Non w5')) (fun hHeld => ?_)
        (refine wpAnyH_take (i := 0) (oi := ?oi_p1) (v := ?v_p1) ?ho_p1 ?hs_p1 ?hf_p1 ?hr_p1 ?hQ_p1 ?hy_p1 ?hS_p1 ?rest_p1; (case hr_p1 => kernel_rfl); (case hf_p1 => kernel_rfl); (case hs_p1 => kernel_rfl); (case ho_p1 => (simp only [List.getElem?_toArray, List.getElem?_cons_succ, List.getElem?_cons_zero]; rfl)); (case hS_p1 => assumption); (case hQ_p1 => exact fun _ _ _ h => h); (case hy_p1 => (refine Or.inl ⟨by rfl, ?_⟩; (intro w hSw; (try dsimp only at hSw); go_simp) <;> with_reducible rfl)); (try simp only [Act.put, List.setIfInBounds_toArray, List.set_cons_zero, List.set_cons_succ]))
        (refine wpAnyH_take (i := 1) (oi := ?oi_p2) (v := ?v_p2) ?ho_p2 ?hs_p2 ?hf_p2 ?hr_p2 ?hQ_p2 ?hy_p2 ?hS_p2 ?rest_p2; (case hr_p2 => kernel_rfl); (case hf_p2 => kernel_rfl); (case hs_p2 => kernel_rfl); (case ho_p2 => (simp only [List.getElem?_toArray, List.getElem?_cons_succ, List.getElem?_cons_zero]; rfl)); (case hS_p2 => assumption); (case hQ_p2 => exact fun _ _ _ h => h); (case hy_p2 => (refine Or.inl ⟨by rfl, ?_⟩; (intro w hSw; (try dsimp only at hSw); go_simp) <;> with_reducible rfl)); (try simp only [Act.put, List.setIfInBounds_toArray, List.set_cons_zero, List.set_cons_succ]))
        (refine wpAnyH_take (i := 2) (oi := ?oi_p3) (v := ?v_p3) ?ho_p3 ?hs_p3 ?hf_p3 ?hr_p3 ?hQ_p3 ?hy_p3 ?hS_p3 ?rest_p3; (case hr_p3 => kernel_rfl); (case hf_p3 => kernel_rfl); (case hs_p3 => kernel_rfl); (case ho_p3 => (simp only [List.getElem?_toArray, List.getElem?_cons_succ, List.getElem?_cons_zero]; rfl)); (case hS_p3 => assumption); (case hQ_p3 => exact fun _ _ _ h => h); (case hy_p3 => (refine Or.inl ⟨by rfl, ?_⟩; (intro w hSw; (try dsimp only at hSw); go_simp) <;> with_reducible rfl)); (try simp only [Act.put, List.setIfInBounds_toArray, List.set_cons_zero, List.set_cons_succ]))
        (refine wpAnyH_take (i := 3) (oi := ?oi_p4) (v := ?v_p4) ?ho_p4 ?hs_p4 ?hf_p4 ?hr_p4 ?hQ_p4 ?hy_p4 ?hS_p4 ?rest_p4; (case hr_p4 => kernel_rfl); (case hf_p4 => kernel_rfl); (case hs_p4 => kernel_rfl); (case ho_p4 => (simp only [List.getElem?_toArray, List.getElem?_cons_succ, List.getElem?_cons_zero]; rfl)); (case hS_p4 => assumption); (case hQ_p4 => exact fun _ _ _ h => h); (case hy_p4 => (refine Or.inl ⟨by rfl, ?_⟩; (intro w hSw; (try dsimp only at hSw); go_simp) <;> with_reducible rfl)); (try simp only [Act.put, List.setIfInBounds_toArray, List.set_cons_zero, List.set_cons_succ]))
        (refine wpAnyH_take (i := 4) (oi := ?oi_p5) (v := ?v_p5) ?ho_p5 ?hs_p5 ?hf_p5 ?hr_p5 ?hQ_p5 ?hy_p5 ?hS_p5 ?rest_p5; (case hr_p5 => kernel_rfl); (case hf_p5 => kernel_rfl); (case hs_p5 => kernel_rfl); (case ho_p5 => (simp only [List.getElem?_toArray, List.getElem?_cons_succ, List.getElem?_cons_zero]; rfl)); (case hS_p5 => assumption); (case hQ_p5 => exact fun _ _ _ h => h); (case hy_p5 => (refine Or.inl ⟨by rfl, ?_⟩; (intro w hSw; (try dsimp only at hSw); go_simp) <;> with_reducible rfl)); (try simp only [Act.put, List.setIfInBounds_toArray, List.set_cons_zero, List.set_cons_succ]))
        (refine wpAnyH_take (i := 6) (oi := ?oi_p6) (v := ?v_p6) ?ho_p6 ?hs_p6 ?hf_p6 ?hr_p6 ?hQ_p6 ?hy_p6 ?hS_p6 ?rest_p6; (case hr_p6 => kernel_rfl); (case hf_p6 => kernel_rfl); (case hs_p6 => kernel_rfl); (case ho_p6 => (simp only [List.getElem?_toArray, List.getElem?_cons_succ, List.getElem?_cons_zero]; rfl)); (case hS_p6 => assumption); (case hQ_p6 => exact fun _ _ _ h => h); (case hy_p6 => (refine Or.inl ⟨by rfl, ?_⟩; (intro w hSw; (try dsimp only at hSw); go_simp) <;> with_reducible rfl)); (try simp only [Act.put, List.setIfInBounds_toArray, List.set_cons_zero, List.set_cons_succ]))
        (refine wpAnyH_take (i := 7) (oi := ?oi_p7) (v := ?v_p7) ?ho_p7 ?hs_p7 ?hf_p7 ?hr_p7 ?hQ_p7 ?hy_p7 ?hS_p7 ?rest_p7; (case hr_p7 => kernel_rfl); (case hf_p7 => kernel_rfl); (case hs_p7 => kernel_rfl); (case ho_p7 => (simp only [List.getElem?_toArray, List.getElem?_cons_succ, List.getElem?_cons_zero]; rfl)); (case hS_p7 => assumption); (case hQ_p7 => exact fun _ _ _ h => h); (case hy_p7 => (refine Or.inl ⟨by rfl, ?_⟩; (intro w hSw; have hst := run_str (P := Try.prog) _ 30 9 5 Try.underlying30 Try.underlying5 Try.underlying9 _ _ hSw; go_simp) <;> with_reducible rfl)); (try simp only [Act.put, List.setIfInBounds_toArray, List.set_cons_zero, List.set_cons_succ]))
        refine wpAnyH_ready (rs := [5, 8]) (by kernel_rfl) (by simp) ?_
        refine (AllReadyH.cons (o := ?oop8_0) ?hop8_0 ?hsp8_0 (AllReadyH.cons (o := ?oop8_1) ?hop8_1 ?hsp8_1 AllReadyH.nil))
        case hop8_0 => (simp only [List.getElem?_toArray, List.getElem?_cons_succ, List.getElem?_cons_zero]; rfl)
        case hop8_1 => (simp only [List.getElem?_toArray, List.getElem?_cons_succ, List.getElem?_cons_zero]; rfl)
        case hsp8_0 =>
          intro K hK
          go_simp
          try go_wp2_with fail
          refine hK.out _ _ (by exact ABh.out.has.non (Upd.drew Non w5')) (fun hHeld => ?_)
          clear hK K
          try simp only [Act.put, List.setIfInBounds_toArray, List.set_cons_zero, List.set_cons_succ]
          refine wpAnyH_ready (rs := [8]) (by kernel_rfl) (by simp) ?_
          refine (AllReadyH.cons (o := ?oop9_0) ?hop9_0 ?hsp9_0 AllReadyH.nil)
          case hop9_0 => (simp only [List.getElem?_toArray, List.getElem?_cons_succ, List.getElem?_cons_zero]; rfl)
          case hsp9_0 =>
            intro K hK
            go_simp
            try go_wp2_with fail
            refine hK.out _ _ (by exact ABh.out.has.non (((Upd.refl Non w5').then_alloc _).then_drew)) (fun hHeld => ?_)
            clear hK K
            try simp only [Act.put, List.setIfInBounds_toArray, List.set_cons_zero, List.set_cons_succ]
            refine wpAnyH_ready (rs := [9]) (by kernel_rfl) (by simp) ?_
            refine (AllReadyH.cons (o := ?oop10_0) ?hop10_0 ?hsp10_0 AllReadyH.nil)
            case hop10_0 => (simp only [List.getElem?_toArray, List.getElem?_cons_succ, List.getElem?_cons_zero]; rfl)
            case hsp10_0 =>
              intro K hK
              (refine step_app1 ?ygpx13 ?yspx13 ?yxpx13 40 ?yopx13 w.heap.size 9 (.string ⟨#[]⟩) 1 16 Try.underlying40 info_str rfl (vs i) 0 (([] : List (List UInt8)).map strV) ?yhpx13 hown.out [strV sB] w5'.heap.size ?yipx13 rfl rfl (one_str _) (by unfold maxLen; omega) (by omega) hwl ?ykpx13; (case yopx13 => exact rfl); (case ygpx13 => rfl); (case yhpx13 => rfl); (case yipx13 => rfl))
              case' ykpx13 => intro v5 w5 hoA huA hnA
              obtain ⟨_, a5, c5, rfl, -⟩ := has_of_owns hoA
              refine hK.out _ _ (by exact ABh.out.has.upd huA hvA.out) (fun hHeld => ?_)
              clear hK K
              try simp only [Act.put, List.setIfInBounds_toArray, List.set_cons_zero, List.set_cons_succ]
              have y1 := huA.cell x1 hvMb
              have z1 : w5.frozen? ⟨Mb, i, none⟩ = false := (World.frozen?_of_block (a := ⟨Mb, i, none⟩) (huA.block Mb hMl hvMb)).trans q1
              clear x1 q1
              refine wpAnyH_ready (rs := [10]) (by kernel_rfl) (by simp) ?_
              refine (AllReadyH.cons (o := ?oop11_0) ?hop11_0 ?hsp11_0 AllReadyH.nil)
              case hop11_0 => (simp only [List.getElem?_toArray, List.getElem?_cons_succ, List.getElem?_cons_zero]; rfl)
              case hsp11_0 =>
                intro K hK
                go_simp
                try go_wp2_with fail
                refine hK.out _ _ (by exact ABh.out.has.upd huA hvA.out) (fun hHeld => ?_)
                clear hK K
                try simp only [Act.put, List.setIfInBounds_toArray, List.set_cons_zero, List.set_cons_succ]
                refine wpAnyH_ready (rs := [11]) (by kernel_rfl) (by simp) ?_
                refine (AllReadyH.cons (o := ?oop12_0) ?hop12_0 ?hsp12_0 AllReadyH.nil)
                case hop12_0 => (simp only [List.getElem?_toArray, List.getElem?_cons_succ, List.getElem?_cons_zero]; rfl)
                case hsp12_0 =>
                  intro K hK
                  go_simp
                  try go_wp2_with fail
                  refine hK.out _ _ (by exact (ABh.out.has.upd huA hvA.out).upd (Upd.setCell (S := fun k => k = Mb) w5 (a := ⟨Mb, i, none⟩) rfl _) hvM.out) (fun hHeld => ?_)
                  clear hK K
                  try simp only [Act.put, List.setIfInBounds_toArray, List.set_cons_zero, List.set_cons_succ]
                  refine wpAnyH_done (by kernel_rfl) ?_ _
                  clear hHeld
                  obtain ⟨L6, M6⟩ := may_step LA.out MA.out hi8 (s := sB) (by rw [hMi]; exact hoA) huA hnA
                  rw [← hsB, m1_add] at M6
                  replace L6 := Lib.hid L6
                  replace M6 := Lib.hid M6
                  clear hoA huA hnA y1 z1
                  go_wp2_with fail
                  go_roundw
                  case rel => exact ⟨i + 1, _, by go_num, by omega, L6.out, M6.out⟩
                  case measure => simp [intOf]; omega
        case hsp8_1 =>
          intro K hK
          go_simp
          try go_wp2_with fail
          refine hK.out _ _ (by exact ABh.out.has.non (((Upd.refl Non w5').then_alloc _).then_drew)) (fun hHeld => ?_)
          clear hK K
          try simp only [Act.put, List.setIfInBounds_toArray, List.set_cons_zero, List.set_cons_succ]
          have x1' : ((w5'.alloc (.cells #[strV sB] 9)).drew).cell? ⟨Mb, i, none⟩ = some (vs i) := (((Upd.refl Non w5').then_alloc _).then_drew).cell x1 (fun h => h)
          refine wpAnyH_ready (rs := [5]) (by kernel_rfl) (by simp) ?_
          refine (AllReadyH.cons (o := ?oop14_0) ?hop14_0 ?hsp14_0 AllReadyH.nil)
          case hop14_0 => (simp only [List.getElem?_toArray, List.getElem?_cons_succ, List.getElem?_cons_zero]; rfl)
          case hsp14_0 =>
            intro K hK
            go_simp
            try go_wp2_with fail
            refine hK.out _ _ (by exact ABh.out.has.non (((Upd.refl Non w5').then_alloc _).then_drew)) (fun hHeld => ?_)
            clear hK K
            try simp only [Act.put, List.setIfInBounds_toArray, List.set_cons_zero, List.set_cons_succ]
            refine wpAnyH_ready (rs := [9]) (by kernel_rfl) (by simp) ?_
            refine (AllReadyH.cons (o := ?oop15_0) ?hop15_0 ?hsp15_0 AllReadyH.nil)
            case hop15_0 => (simp only [List.getElem?_toArray, List.getElem?_cons_succ, List.getElem?_cons_zero]; rfl)
            case hsp15_0 =>
              intro K hK
              (refine step_app1 ?ygpx18 ?yspx18 ?yxpx18 40 ?yopx18 w.heap.size 9 (.string ⟨#[]⟩) 1 16 Try.underlying40 info_str rfl (vs i) 0 (([] : List (List UInt8)).map strV) ?yhpx18 hown.out [strV sB] w5'.heap.size ?yipx18 rfl rfl (one_str _) (by unfold maxLen; omega) (by omega) hwl ?ykpx18; (case yopx18 => exact rfl); (case ygpx18 => rfl); (case yhpx18 => rfl); (case yipx18 => rfl))
              case' ykpx18 => intro v5 w5 hoA huA hnA
              obtain ⟨_, a5, c5, rfl, -⟩ := has_of_owns hoA
              refine hK.out _ _ (by exact ABh.out.has.upd huA hvA.out) (fun hHeld => ?_)
              clear hK K
              try simp only [Act.put, List.setIfInBounds_toArray, List.set_cons_zero, List.set_cons_succ]
              have y1 := huA.cell x1 hvMb
              have z1 : w5.frozen? ⟨Mb, i, none⟩ = false := (World.frozen?_of_block (a := ⟨Mb, i, none⟩) (huA.block Mb hMl hvMb)).trans q1
              clear x1 q1
              refine wpAnyH_ready (rs := [10]) (by kernel_rfl) (by simp) ?_
              refine (AllReadyH.cons (o := ?oop16_0) ?hop16_0 ?hsp16_0 AllReadyH.nil)
              case hop16_0 => (simp only [List.getElem?_toArray, List.getElem?_cons_succ, List.getElem?_cons_zero]; rfl)
              case hsp16_0 =>
                intro K hK
                go_simp
                try go_wp2_with fail
                refine hK.out _ _ (by exact ABh.out.has.upd huA hvA.out) (fun hHeld => ?_)
                clear hK K
                try simp only [Act.put, List.setIfInBounds_toArray, List.set_cons_zero, List.set_cons_succ]
                refine wpAnyH_ready (rs := [11]) (by kernel_rfl) (by simp) ?_
                refine (AllReadyH.cons (o := ?oop17_0) ?hop17_0 ?hsp17_0 AllReadyH.nil)
                case hop17_0 => (simp only [List.getElem?_toArray, List.getElem?_cons_succ, List.getElem?_cons_zero]; rfl)
                case hsp17_0 =>
                  intro K hK
                  go_simp
                  try go_wp2_with fail
                  refine hK.out _ _ (by exact (ABh.out.has.upd huA hvA.out).upd (Upd.setCell (S := fun k => k = Mb) w5 (a := ⟨Mb, i, none⟩) rfl _) hvM.out) (fun hHeld => ?_)
                  clear hK K
                  try simp only [Act.put, List.setIfInBounds_toArray, List.set_cons_zero, List.set_cons_succ]
                  refine wpAnyH_done (by kernel_rfl) ?_ _
                  clear hHeld
                  obtain ⟨L6, M6⟩ := may_step LA.out MA.out hi8 (s := sB) (by rw [hMi]; exact hoA) huA hnA
                  rw [← hsB, m1_add] at M6
                  replace L6 := Lib.hid L6
                  replace M6 := Lib.hid M6
                  clear hoA huA hnA y1 z1
                  go_wp2_with fail
                  go_roundw
                  case rel => exact ⟨i + 1, _, by go_num, by omega, L6.out, M6.out⟩
                  case measure => simp [intOf]; omega
      · have hi8i : ((i : Int) < 8) = False := eq_false (by omega)
        obtain rfl : i = 8 := by omega
        rw [show (((8 : Nat)) : Int) = (8 : Int) from rfl]
        rw [show (((8 : Nat)) : Int) = (8 : Int) from rfl] at hi8i
        replace L := Lib.hid L
        replace MA := Lib.hid MA
        go_wp2_with fail
        go_loopw [12] (fun iv wr => ∃ (k : Nat) (F : Nat → Prop) (d : Dk) (M : Nat → List (List UInt8)) (vs : Nat → Value), iv = .int .i64 (k : Int) ∧ k ≤ n ∧ Lv w D wr F d ∧ WholeD d M ∧ MayAt w.heap.size wr Mb F M vs ∧ d.P.length ≤ k ∧ ∀ j, (M j).length ≤ k + 1) (fun iv _ => n - (intOf iv).toNat)
        case atStart => exact ⟨0, F2, d1, m1 d1 8, vs, rfl, by omega, L.out, hinit.out, MA.out, by omega, fun j => by unfold m1; split <;> simp⟩
        case round =>
          clear L MA hinit hwi
          obtain ⟨k, F, d, M, vs, rfl, hkn, L, hWD, MA, hP, hML⟩ := hrel
          by_cases hin : k < n
          · have hin' : (k : Int) < (n : Int) := by omega
            have hk0 : (0 : Int) ≤ (k : Int) := by omega
            have hkl : k < l2.length := by rw [hn.out]; omega
            have hk50 : k < 50 := by have := hnl.out; omega
            obtain ⟨g, off, c, hv, c0, c1, c2, c3⟩ := hA2.out.cells hkl
            injection hv with hv e1 e2
            clear e1 e2
            subst hv
            have hg := hA2.out.good _ (List.getElem_mem hkl)
            generalize l2[k] = a at *
            obtain ⟨kind, i', s', v, keep'⟩ := a
            obtain ⟨hi', hsl', -, -⟩ := hg
            simp only at c0 c1 c2 c3 hi' hsl'
            have x1' := L.upd.cell c1 fun h => h
            have x2' := L.upd.cell c2 fun h => h
            clear c0 c1 c2 c3 hi'
            obtain ⟨at8, ha8, hat⟩ := rem8w i'
            obtain ⟨c3, w3', hr, hm⟩ := run_tobytes (P := Try.prog) wr 9 30 5 Try.underlying9 Try.underlying30 Try.underlying5 s' hsl'
            have LB := L.non hm.upd
            have cW := Lib.hid (lvWrite LB (by omega) (at8 : Int) s' _ hm.bytes (fun k hk hF => by have := L.at_.lt k hF; have := at_of hk; omega))
            replace MA := MA.non hm.upd
            replace hsl' := Lib.hid hsl'
            clear LB hm
            by_cases h128 : s'.length ≤ 128
            · obtain ⟨hw0, hrd, hWn⟩ := hWD.write ha8 s' h128
              have hPd := Lib.hid (write_P d (at8 : Int) s')
              rw [hw0] at cW
              have hwd : (d.write (at8 : Int) s').1.within (at8 : Int) = 0 := (hWn (addM M at8 (full s')) (fun j t ht => by unfold addM; split; rename_i e; subst e; exact List.mem_append_left _ ht; exact ht) (by unfold addM; rw [if_pos rfl]; exact List.mem_append_right _ (List.mem_singleton.2 rfl))).within ha8
              obtain ⟨d', hd'⟩ : ∃ d', (d.write (at8 : Int) s').1 = d' := ⟨_, rfl⟩
              rw [hd'] at cW hrd hWn hPd hwd
              have hPd' : d'.P.length ≤ 1000000 := by have := hPd.out; omega
              replace hWn := Lib.hid hWn
              replace hrd := Lib.hid hrd
              clear hd' hw0 L hkl
              go_wp2_with fail
              refine cW.out.mono ?_
              rintro en w4 ⟨rfl, F4, L4, k4⟩
              replace MA := MA.keep k4
              have cR := Lib.hid (lvRead2 L4 hPd' (at8 : Int))
              rw [hwd] at cR
              clear cW k4 L4 hwd hr
              simp only []
              go_wp2_with fail
              refine cR.out.mono ?_
              rintro en w5' ⟨vb, rfl, AB, LA, u5, hvnew⟩
              obtain ⟨hvbM, hvbMb⟩ := apart_may MA hvnew
              replace MA := MA.non u5
              clear cR u5 hvnew
              have hvf : ∃ a n c, vb = .slice a n c := by obtain ⟨_, a, c, rfl, -⟩ := AB.has; exact ⟨_, _, _, rfl⟩
              obtain ⟨ba, bn, bcap, rfl⟩ := hvf
              have hi8 := ha8
              have hi8i : (at8 : Int) < 8 := by omega
              have x1 : w5'.cell? ⟨Mb, at8, none⟩ = some (vs at8) := MA.cell at8 hi8
              have q1 : w5'.frozen? ⟨Mb, at8, none⟩ = false := MA.free at8 hi8
              have hvMb : ¬ At (vs at8) Mb := fun hat => (MA.dis at8 hi8 Mb hat).1 rfl
              have hvA : Hid (∀ k, At (.slice ba bn bcap) k → ¬ At (vs at8) k) := Lib.hid fun k h1 h2 => hvbM at8 hi8 k h1 h2
              have hvM : Hid (∀ k, At (.slice ba bn bcap) k → ¬ k = Mb) := Lib.hid fun k h1 h2 => hvbMb k h1 h2
              have hMl := MA.lt
              have hwl : w.heap.size ≤ w5'.heap.size := LA.upd.size
              have hmn : (M at8).length ≤ 1000 := by have := hML at8; omega
              have hown : Hid (w5'.ownsRow w.heap.size 9 1 (vs at8) (M at8).length ((M at8).map strV)) := Lib.hid (MA.own at8 hi8)
              obtain ⟨sB, hsB⟩ : ∃ sB, d'.reads (at8 : Int) = sB := ⟨_, rfl⟩
              rw [hsB] at AB
              have ABh := Lib.hid AB
              replace MA := Lib.hid MA
              replace LA := Lib.hid LA
              replace hsB := Lib.hid hsB
              clear AB hvbM hvbMb
              simp only []
              go_wp2_with fail
              refine wp_region_held_drew (S := fun w' => Bytes w' (.slice ba bn bcap) sB) (by kernel_rfl) (by exact ABh.out.has.non (Upd.drew Non w5')) (fun hHeld => ?_)
              (refine wpAnyH_take (i := 0) (oi := ?oi_q1) (v := ?v_q1) ?ho_q1 ?hs_q1 ?hf_q1 ?hr_q1 ?hQ_q1 ?hy_q1 ?hS_q1 ?rest_q1; (case hr_q1 => kernel_rfl); (case hf_q1 => kernel_rfl); (case hs_q1 => kernel_rfl); (case ho_q1 => (simp only [List.getElem?_toArray, List.getElem?_cons_succ, List.getElem?_cons_zero]; rfl)); (case hS_q1 => assumption); (case hQ_q1 => exact fun _ _ _ h => h); (case hy_q1 => (refine Or.inl ⟨by rfl, ?_⟩; (intro w hSw; (try dsimp only at hSw); go_simp) <;> with_reducible rfl)); (try simp only [Act.put, List.setIfInBounds_toArray, List.set_cons_zero, List.set_cons_succ]))
              (refine wpAnyH_take (i := 1) (oi := ?oi_q2) (v := ?v_q2) ?ho_q2 ?hs_q2 ?hf_q2 ?hr_q2 ?hQ_q2 ?hy_q2 ?hS_q2 ?rest_q2; (case hr_q2 => kernel_rfl); (case hf_q2 => kernel_rfl); (case hs_q2 => kernel_rfl); (case ho_q2 => (simp only [List.getElem?_toArray, List.getElem?_cons_succ, List.getElem?_cons_zero]; rfl)); (case hS_q2 => assumption); (case hQ_q2 => exact fun _ _ _ h => h); (case hy_q2 => (refine Or.inl ⟨by rfl, ?_⟩; (intro w hSw; (try dsimp only at hSw); go_simp) <;> with_reducible rfl)); (try simp only [Act.put, List.setIfInBounds_toArray, List.set_cons_zero, List.set_cons_succ]))
              (refine wpAnyH_take (i := 2) (oi := ?oi_q3) (v := ?v_q3) ?ho_q3 ?hs_q3 ?hf_q3 ?hr_q3 ?hQ_q3 ?hy_q3 ?hS_q3 ?rest_q3; (case hr_q3 => kernel_rfl); (case hf_q3 => kernel_rfl); (case hs_q3 => kernel_rfl); (case ho_q3 => (simp only [List.getElem?_toArray, List.getElem?_cons_succ, List.getElem?_cons_zero]; rfl)); (case hS_q3 => assumption); (case hQ_q3 => exact fun _ _ _ h => h); (case hy_q3 => (refine Or.inl ⟨by rfl, ?_⟩; (intro w hSw; (try dsimp only at hSw); go_simp) <;> with_reducible rfl)); (try simp only [Act.put, List.setIfInBounds_toArray, List.set_cons_zero, List.set_cons_succ]))
              (refine wpAnyH_take (i := 3) (oi := ?oi_q4) (v := ?v_q4) ?ho_q4 ?hs_q4 ?hf_q4 ?hr_q4 ?hQ_q4 ?hy_q4 ?hS_q4 ?rest_q4; (case hr_q4 => kernel_rfl); (case hf_q4 => kernel_rfl); (case hs_q4 => kernel_rfl); (case ho_q4 => (simp only [List.getElem?_toArray, List.getElem?_cons_succ, List.getElem?_cons_zero]; rfl)); (case hS_q4 => assumption); (case hQ_q4 => exact fun _ _ _ h => h); (case hy_q4 => (refine Or.inl ⟨by rfl, ?_⟩; (intro w hSw; (try dsimp only at hSw); go_simp) <;> with_reducible rfl)); (try simp only [Act.put, List.setIfInBounds_toArray, List.set_cons_zero, List.set_cons_succ]))
              (refine wpAnyH_take (i := 4) (oi := ?oi_q5) (v := ?v_q5) ?ho_q5 ?hs_q5 ?hf_q5 ?hr_q5 ?hQ_q5 ?hy_q5 ?hS_q5 ?rest_q5; (case hr_q5 => kernel_rfl); (case hf_q5 => kernel_rfl); (case hs_q5 => kernel_rfl); (case ho_q5 => (simp only [List.getElem?_toArray, List.getElem?_cons_succ, List.getElem?_cons_zero]; rfl)); (case hS_q5 => assumption); (case hQ_q5 => exact fun _ _ _ h => h); (case hy_q5 => (refine Or.inl ⟨by rfl, ?_⟩; (intro w hSw; (try dsimp only at hSw); go_simp) <;> with_reducible rfl)); (try simp only [Act.put, List.setIfInBounds_toArray, List.set_cons_zero, List.set_cons_succ]))
              (refine wpAnyH_take (i := 6) (oi := ?oi_q6) (v := ?v_q6) ?ho_q6 ?hs_q6 ?hf_q6 ?hr_q6 ?hQ_q6 ?hy_q6 ?hS_q6 ?rest_q6; (case hr_q6 => kernel_rfl); (case hf_q6 => kernel_rfl); (case hs_q6 => kernel_rfl); (case ho_q6 => (simp only [List.getElem?_toArray, List.getElem?_cons_succ, List.getElem?_cons_zero]; rfl)); (case hS_q6 => assumption); (case hQ_q6 => exact fun _ _ _ h => h); (case hy_q6 => (refine Or.inl ⟨by rfl, ?_⟩; (intro w hSw; (try dsimp only at hSw); go_simp) <;> with_reducible rfl)); (try simp only [Act.put, List.setIfInBounds_toArray, List.set_cons_zero, List.set_cons_succ]))
              (refine wpAnyH_take (i := 7) (oi := ?oi_q7) (v := ?v_q7) ?ho_q7 ?hs_q7 ?hf_q7 ?hr_q7 ?hQ_q7 ?hy_q7 ?hS_q7 ?rest_q7; (case hr_q7 => kernel_rfl); (case hf_q7 => kernel_rfl); (case hs_q7 => kernel_rfl); (case ho_q7 => (simp only [List.getElem?_toArray, List.getElem?_cons_succ, List.getElem?_cons_zero]; rfl)); (case hS_q7 => assumption); (case hQ_q7 => exact fun _ _ _ h => h); (case hy_q7 => (refine Or.inl ⟨by rfl, ?_⟩; (intro w hSw; have hst := run_str (P := Try.prog) _ 30 9 5 Try.underlying30 Try.underlying5 Try.underlying9 _ _ hSw; go_simp) <;> with_reducible rfl)); (try simp only [Act.put, List.setIfInBounds_toArray, List.set_cons_zero, List.set_cons_succ]))
              refine wpAnyH_ready (rs := [5, 8]) (by kernel_rfl) (by simp) ?_
              refine (AllReadyH.cons (o := ?ooq8_0) ?hoq8_0 ?hsq8_0 (AllReadyH.cons (o := ?ooq8_1) ?hoq8_1 ?hsq8_1 AllReadyH.nil))
              case hoq8_0 => (simp only [List.getElem?_toArray, List.getElem?_cons_succ, List.getElem?_cons_zero]; rfl)
              case hoq8_1 => (simp only [List.getElem?_toArray, List.getElem?_cons_succ, List.getElem?_cons_zero]; rfl)
              case hsq8_0 =>
                intro K hK
                go_simp
                try go_wp2_with fail
                refine hK.out _ _ (by exact ABh.out.has.non (Upd.drew Non w5')) (fun hHeld => ?_)
                clear hK K
                try simp only [Act.put, List.setIfInBounds_toArray, List.set_cons_zero, List.set_cons_succ]
                refine wpAnyH_ready (rs := [8]) (by kernel_rfl) (by simp) ?_
                refine (AllReadyH.cons (o := ?ooq9_0) ?hoq9_0 ?hsq9_0 AllReadyH.nil)
                case hoq9_0 => (simp only [List.getElem?_toArray, List.getElem?_cons_succ, List.getElem?_cons_zero]; rfl)
                case hsq9_0 =>
                  intro K hK
                  go_simp
                  try go_wp2_with fail
                  refine hK.out _ _ (by exact ABh.out.has.non (((Upd.refl Non w5').then_alloc _).then_drew)) (fun hHeld => ?_)
                  clear hK K
                  try simp only [Act.put, List.setIfInBounds_toArray, List.set_cons_zero, List.set_cons_succ]
                  refine wpAnyH_ready (rs := [9]) (by kernel_rfl) (by simp) ?_
                  refine (AllReadyH.cons (o := ?ooq10_0) ?hoq10_0 ?hsq10_0 AllReadyH.nil)
                  case hoq10_0 => (simp only [List.getElem?_toArray, List.getElem?_cons_succ, List.getElem?_cons_zero]; rfl)
                  case hsq10_0 =>
                    intro K hK
                    (refine step_app1 ?ygqx13 ?ysqx13 ?yxqx13 40 ?yoqx13 w.heap.size 9 (.string ⟨#[]⟩) 1 16 Try.underlying40 info_str rfl (vs at8) (M at8).length ((M at8).map strV) ?yhqx13 hown.out [strV sB] w5'.heap.size ?yiqx13 rfl rfl (one_str _) (by unfold maxLen; omega) (by omega) hwl ?ykqx13; (case yoqx13 => exact rfl); (case ygqx13 => rfl); (case yhqx13 => rfl); (case yiqx13 => rfl))
                    case' ykqx13 => intro v5 w5 hoA huA hnA
                    obtain ⟨_, a5, c5, rfl, -⟩ := has_of_owns hoA
                    refine hK.out _ _ (by exact ABh.out.has.upd huA hvA.out) (fun hHeld => ?_)
                    clear hK K
                    try simp only [Act.put, List.setIfInBounds_toArray, List.set_cons_zero, List.set_cons_succ]
                    have y1 := huA.cell x1 hvMb
                    have z1 : w5.frozen? ⟨Mb, at8, none⟩ = false := (World.frozen?_of_block (a := ⟨Mb, at8, none⟩) (huA.block Mb hMl hvMb)).trans q1
                    clear x1 q1
                    refine wpAnyH_ready (rs := [10]) (by kernel_rfl) (by simp) ?_
                    refine (AllReadyH.cons (o := ?ooq11_0) ?hoq11_0 ?hsq11_0 AllReadyH.nil)
                    case hoq11_0 => (simp only [List.getElem?_toArray, List.getElem?_cons_succ, List.getElem?_cons_zero]; rfl)
                    case hsq11_0 =>
                      intro K hK
                      go_simp
                      try go_wp2_with fail
                      refine hK.out _ _ (by exact ABh.out.has.upd huA hvA.out) (fun hHeld => ?_)
                      clear hK K
                      try simp only [Act.put, List.setIfInBounds_toArray, List.set_cons_zero, List.set_cons_succ]
                      refine wpAnyH_ready (rs := [11]) (by kernel_rfl) (by simp) ?_
                      refine (AllReadyH.cons (o := ?ooq12_0) ?hoq12_0 ?hsq12_0 AllReadyH.nil)
                      case hoq12_0 => (simp only [List.getElem?_toArray, List.getElem?_cons_succ, List.getElem?_cons_zero]; rfl)
                      case hsq12_0 =>
                        intro K hK
                        go_simp
                        try go_wp2_with fail
                        refine hK.out _ _ (by exact (ABh.out.has.upd huA hvA.out).upd (Upd.setCell (S := fun k => k = Mb) w5 (a := ⟨Mb, at8, none⟩) rfl _) hvM.out) (fun hHeld => ?_)
                        clear hK K
                        try simp only [Act.put, List.setIfInBounds_toArray, List.set_cons_zero, List.set_cons_succ]
                        refine wpAnyH_done (by kernel_rfl) ?_ _
                        clear hHeld
                        obtain ⟨L6, M6⟩ := may_step LA.out MA.out hi8 (s := sB) hoA huA hnA
                        have hWD2 := hWn.out (addM M at8 sB) (fun j t ht => by unfold addM; split; rename_i e; subst e; exact List.mem_append_left _ ht; exact ht) (by unfold addM; rw [if_pos rfl, ← hsB.out]; exact List.mem_append_right _ (List.mem_singleton.2 hrd.out.symm))
                        have hML2 : ∀ j, (addM M at8 sB j).length ≤ k + 1 + 1 := fun j => by unfold addM; split; rw [List.length_append]; have := hML at8; simp only [List.length_cons, List.length_nil]; omega; have := hML j; omega
                        replace L6 := Lib.hid L6
                        replace M6 := Lib.hid M6
                        replace hWD2 := Lib.hid hWD2
                        replace hML2 := Lib.hid hML2
                        clear hoA huA hnA y1 z1
                        go_wp2_with fail
                        go_roundw
                        case rel => exact ⟨k + 1, F4, _, _, _, by go_num, by omega, L6.out, hWD2.out, M6.out, by have := hPd.out; omega, hML2.out⟩
                        case measure => simp [intOf]; omega
              case hsq8_1 =>
                intro K hK
                go_simp
                try go_wp2_with fail
                refine hK.out _ _ (by exact ABh.out.has.non (((Upd.refl Non w5').then_alloc _).then_drew)) (fun hHeld => ?_)
                clear hK K
                try simp only [Act.put, List.setIfInBounds_toArray, List.set_cons_zero, List.set_cons_succ]
                have x1' : ((w5'.alloc (.cells #[strV sB] 9)).drew).cell? ⟨Mb, at8, none⟩ = some (vs at8) := (((Upd.refl Non w5').then_alloc _).then_drew).cell x1 (fun h => h)
                refine wpAnyH_ready (rs := [5]) (by kernel_rfl) (by simp) ?_
                refine (AllReadyH.cons (o := ?ooq14_0) ?hoq14_0 ?hsq14_0 AllReadyH.nil)
                case hoq14_0 => (simp only [List.getElem?_toArray, List.getElem?_cons_succ, List.getElem?_cons_zero]; rfl)
                case hsq14_0 =>
                  intro K hK
                  go_simp
                  try go_wp2_with fail
                  refine hK.out _ _ (by exact ABh.out.has.non (((Upd.refl Non w5').then_alloc _).then_drew)) (fun hHeld => ?_)
                  clear hK K
                  try simp only [Act.put, List.setIfInBounds_toArray, List.set_cons_zero, List.set_cons_succ]
                  refine wpAnyH_ready (rs := [9]) (by kernel_rfl) (by simp) ?_
                  refine (AllReadyH.cons (o := ?ooq15_0) ?hoq15_0 ?hsq15_0 AllReadyH.nil)
                  case hoq15_0 => (simp only [List.getElem?_toArray, List.getElem?_cons_succ, List.getElem?_cons_zero]; rfl)
                  case hsq15_0 =>
                    intro K hK
                    (refine step_app1 ?ygqx18 ?ysqx18 ?yxqx18 40 ?yoqx18 w.heap.size 9 (.string ⟨#[]⟩) 1 16 Try.underlying40 info_str rfl (vs at8) (M at8).length ((M at8).map strV) ?yhqx18 hown.out [strV sB] w5'.heap.size ?yiqx18 rfl rfl (one_str _) (by unfold maxLen; omega) (by omega) hwl ?ykqx18; (case yoqx18 => exact rfl); (case ygqx18 => rfl); (case yhqx18 => rfl); (case yiqx18 => rfl))
                    case' ykqx18 => intro v5 w5 hoA huA hnA
                    obtain ⟨_, a5, c5, rfl, -⟩ := has_of_owns hoA
                    refine hK.out _ _ (by exact ABh.out.has.upd huA hvA.out) (fun hHeld => ?_)
                    clear hK K
                    try simp only [Act.put, List.setIfInBounds_toArray, List.set_cons_zero, List.set_cons_succ]
                    have y1 := huA.cell x1 hvMb
                    have z1 : w5.frozen? ⟨Mb, at8, none⟩ = false := (World.frozen?_of_block (a := ⟨Mb, at8, none⟩) (huA.block Mb hMl hvMb)).trans q1
                    clear x1 q1
                    refine wpAnyH_ready (rs := [10]) (by kernel_rfl) (by simp) ?_
                    refine (AllReadyH.cons (o := ?ooq16_0) ?hoq16_0 ?hsq16_0 AllReadyH.nil)
                    case hoq16_0 => (simp only [List.getElem?_toArray, List.getElem?_cons_succ, List.getElem?_cons_zero]; rfl)
                    case hsq16_0 =>
                      intro K hK
                      go_simp
                      try go_wp2_with fail
                      refine hK.out _ _ (by exact ABh.out.has.upd huA hvA.out) (fun hHeld => ?_)
                      clear hK K
                      try simp only [Act.put, List.setIfInBounds_toArray, List.set_cons_zero, List.set_cons_succ]
                      refine wpAnyH_ready (rs := [11]) (by kernel_rfl) (by simp) ?_
                      refine (AllReadyH.cons (o := ?ooq17_0) ?hoq17_0 ?hsq17_0 AllReadyH.nil)
                      case hoq17_0 => (simp only [List.getElem?_toArray, List.getElem?_cons_succ, List.getElem?_cons_zero]; rfl)
                      case hsq17_0 =>
                        intro K hK
                        go_simp
                        try go_wp2_with fail
                        refine hK.out _ _ (by exact (ABh.out.has.upd huA hvA.out).upd (Upd.setCell (S := fun k => k = Mb) w5 (a := ⟨Mb, at8, none⟩) rfl _) hvM.out) (fun hHeld => ?_)
                        clear hK K
                        try simp only [Act.put, List.setIfInBounds_toArray, List.set_cons_zero, List.set_cons_succ]
                        refine wpAnyH_done (by kernel_rfl) ?_ _
                        clear hHeld
                        obtain ⟨L6, M6⟩ := may_step LA.out MA.out hi8 (s := sB) hoA huA hnA
                        have hWD2 := hWn.out (addM M at8 sB) (fun j t ht => by unfold addM; split; rename_i e; subst e; exact List.mem_append_left _ ht; exact ht) (by unfold addM; rw [if_pos rfl, ← hsB.out]; exact List.mem_append_right _ (List.mem_singleton.2 hrd.out.symm))
                        have hML2 : ∀ j, (addM M at8 sB j).length ≤ k + 1 + 1 := fun j => by unfold addM; split; rw [List.length_append]; have := hML at8; simp only [List.length_cons, List.length_nil]; omega; have := hML j; omega
                        replace L6 := Lib.hid L6
                        replace M6 := Lib.hid M6
                        replace hWD2 := Lib.hid hWD2
                        replace hML2 := Lib.hid hML2
                        clear hoA huA hnA y1 z1
                        go_wp2_with fail
                        go_roundw
                        case rel => exact ⟨k + 1, F4, _, _, _, by go_num, by omega, L6.out, hWD2.out, M6.out, by have := hPd.out; omega, hML2.out⟩
                        case measure => simp [intOf]; omega
            · rw [hWD.long ha8 s' (by omega)] at cW
              replace hWD := Lib.hid hWD
              replace hML := Lib.hid hML
              clear L hkl
              go_wp2_with fail
              refine cW.out.mono ?_
              rintro en w4 ⟨rfl, F4, L4, k4⟩
              replace MA := Lib.hid (MA.keep k4)
              replace L4 := Lib.hid L4
              clear cW k4 hr
              simp only []
              go_wp2_with fail
              go_roundw
              case rel => exact ⟨k + 1, F4, d, M, vs, by go_num, by omega, L4.out, hWD.out, MA.out, by omega, fun j => by have := hML.out j; omega⟩
              case measure => simp [intOf]; omega
          · have hin' : ((k : Int) < (n : Int)) = False := eq_false (by omega)
            have cX := Lib.hid (lvCrash L (by have := hnl.out; omega) (.slice ka keep.length kc) keep (hI3.out.non L.upd) (fun h0 k hk hF => by have := hold3.out h0 k hk; have := L.own k hF; omega))
            have hfin := Lib.hid (fun i (hi : i < 8) => hWD.reads keep (i := i) hi)
            have hml : Hid (∀ j, (M j).length ≤ 1000) := Lib.hid (fun j => by have := hML j; have := hnl.out; omega)
            clear L hWD hML hP
            go_wp2_with fail
            refine cX.out.mono ?_
            rintro en w6 ⟨rfl, F6, L6, k6⟩
            replace MA := Lib.hid (MA.keep k6)
            have hP2 : (d.crash keep).P.length = 0 := crash_P d keep
            obtain ⟨d2, hd2⟩ : ∃ d2, d.crash keep = d2 := ⟨_, rfl⟩
            rw [hd2] at L6 hP2 hfin
            replace L6 := Lib.hid L6
            clear cX k6 hd2
            simp only []
            go_wp2_with fail
            go_loopw [16] (fun iv wr => ∃ i : Nat, iv = .int .i64 (i : Int) ∧ i ≤ 8 ∧ Lv w D wr F6 d2 ∧ MayAt w.heap.size wr Mb F6 M vs) (fun iv _ => 8 - (intOf iv).toNat)
            case atStart => exact ⟨0, rfl, by omega, L6.out, MA.out⟩
            case round =>
              clear L6 MA
              obtain ⟨i, rfl, hi8', L, MA⟩ := hrel
              by_cases hi8 : i < 8
              · have hi8i : (i : Int) < 8 := by omega
                have cR := Lib.hid (lvRead2 L (by omega) (i : Int))
                obtain ⟨hmem, hwi⟩ := hfin.out i hi8
                rw [hwi] at cR
                obtain ⟨b, hb⟩ : ∃ b, d2.reads (i : Int) = b := ⟨_, rfl⟩
                rw [hb] at cR hmem
                replace hmem := Lib.hid hmem
                clear L hwi hb
                go_wp2_with fail
                refine cR.out.mono ?_
                rintro en w8 ⟨vb, rfl, AB, L8, u8, -⟩
                have hvf : ∃ a n c, vb = .slice a n c := by obtain ⟨_, a, c, rfl, -⟩ := AB.has; exact ⟨_, _, _, rfl⟩
                obtain ⟨ba, bn, bcap, rfl⟩ := hvf
                replace MA := MA.non u8
                obtain ⟨_, ae, ce, hvs, -, -, hel⟩ := has_of_owns (MA.own i hi8)
                have hmi := hml.out i
                obtain ⟨m, hm⟩ : ∃ m, (M i).length = m := ⟨_, rfl⟩
                rw [hm] at hvs hel hmi
                replace AB := Lib.hid AB
                replace L8 := Lib.hid L8
                replace MA := Lib.hid MA
                replace hel := Lib.hid hel
                replace hm := Lib.hid hm
                clear cR u8
                simp only []
                go_wp2_with fail
                go_loopw [19, 20] (fun fv kv wr => ∃ k' : Nat, kv = .int .i64 (k' : Int) ∧ k' ≤ m ∧ fv = .bool (decide (b ∈ (M i).take k')) ∧ Upd Non w8 wr) (fun _ kv _ => m - (intOf kv).toNat)
                case atStart => exact ⟨0, rfl, by omega, by simp, Upd.refl _ _⟩
                case round =>
                  obtain ⟨k', rfl, hkm, rfl, hq⟩ := hrel
                  have x1 := (MA.out.non hq).cell i hi8
                  rw [hvs] at x1
                  by_cases hkl : k' < m
                  · have hkl' : (k' : Int) < (m : Int) := by omega
                    have hk'0 : (0 : Int) ≤ (k' : Int) := by omega
                    obtain ⟨ge, oe, rfl, hce⟩ := hel.out.resolve_left (by omega)
                    have hoe : oe = 0 := by
                      rcases (MA.out.own i hi8).2 with ⟨h1, h2⟩ | ⟨g', cap', cur', h1, -⟩
                      · rw [hvs] at h1; injection h1 with h1; cases h1
                      · rw [hvs] at h1; injection h1 with h1; injection h1 with h1; injection h1
                    subst hoe
                    have hkM : k' < (M i).length := by rw [hm.out]; exact hkl
                    have xe := hq.cell (hce k' (strV (M i)[k']) (by rw [List.getElem?_map, List.getElem?_eq_getElem hkM]; rfl)) fun h => h
                    rw [Nat.zero_add] at xe
                    have htk : (M i).take (k' + 1) = (M i).take k' ++ [(M i)[k']] := by rw [List.take_succ_eq_append_getElem hkM]
                    obtain ⟨e, he⟩ : ∃ e, (M i)[k'] = e := ⟨_, rfl⟩
                    rw [he] at xe htk
                    replace xe : wr.drew.cell? ⟨ge, k', none⟩ = some (.string ⟨e.toArray⟩) := xe
                    replace x1 : wr.drew.cell? ⟨Mb, i, none⟩ = some (.slice (some ⟨ge, 0, none⟩) m ce) := x1
                    have x1w : wr.cell? ⟨Mb, i, none⟩ = some (.slice (some ⟨ge, 0, none⟩) m ce) := x1
                    have ABh := Lib.hid ((AB.out.has.non hq).non (Upd.drew Non wr))
                    replace htk := Lib.hid htk
                    clear he hce
                    by_cases hf : b ∈ (M i).take k'
                    · rw [decide_eq_true hf]
                      have hdec : Hid (decide (b ∈ (M i).take (k' + 1)) = true) := Lib.hid (decide_eq_true (by rw [htk.out]; exact List.mem_append_left _ hf))
                      replace hf := Lib.hid hf
                      go_wp2_with fail
                      refine wp_region_held_drew (S := fun w' => w'.cell? ⟨Mb, i, none⟩ = some (.slice (some ⟨ge, 0, none⟩) m ce) ∧ w'.cell? ⟨ge, k', none⟩ = some (.string ⟨e.toArray⟩) ∧ Bytes w' (.slice ba bn bcap) b) (by kernel_rfl) (by exact ⟨x1, xe, ABh.out⟩) (fun hHeld => ?_)
                      (refine wpAnyH_take (i := 0) (oi := ?oi_r1) (v := ?v_r1) ?ho_r1 ?hs_r1 ?hf_r1 ?hr_r1 ?hQ_r1 ?hy_r1 ?hS_r1 ?rest_r1; (case hr_r1 => kernel_rfl); (case hf_r1 => kernel_rfl); (case hs_r1 => kernel_rfl); (case ho_r1 => (simp only [List.getElem?_toArray, List.getElem?_cons_succ, List.getElem?_cons_zero]; rfl)); (case hS_r1 => assumption); (case hQ_r1 => exact fun _ _ _ h => h); (case hy_r1 => (refine Or.inl ⟨by rfl, ?_⟩; (intro w hSw; obtain ⟨s0, s1, s2⟩ := hSw; go_simp) <;> with_reducible rfl)); (try simp only [Act.put, List.setIfInBounds_toArray, List.set_cons_zero, List.set_cons_succ]))
                      (refine wpAnyH_take (i := 1) (oi := ?oi_r2) (v := ?v_r2) ?ho_r2 ?hs_r2 ?hf_r2 ?hr_r2 ?hQ_r2 ?hy_r2 ?hS_r2 ?rest_r2; (case hr_r2 => kernel_rfl); (case hf_r2 => kernel_rfl); (case hs_r2 => kernel_rfl); (case ho_r2 => (simp only [List.getElem?_toArray, List.getElem?_cons_succ, List.getElem?_cons_zero]; rfl)); (case hS_r2 => assumption); (case hQ_r2 => exact fun _ _ _ h => h); (case hy_r2 => (refine Or.inl ⟨by rfl, ?_⟩; (intro w hSw; obtain ⟨s0, s1, s2⟩ := hSw; go_simp) <;> with_reducible rfl)); (try simp only [Act.put, List.setIfInBounds_toArray, List.set_cons_zero, List.set_cons_succ]))
                      (refine wpAnyH_take (i := 2) (oi := ?oi_r3) (v := ?v_r3) ?ho_r3 ?hs_r3 ?hf_r3 ?hr_r3 ?hQ_r3 ?hy_r3 ?hS_r3 ?rest_r3; (case hr_r3 => kernel_rfl); (case hf_r3 => kernel_rfl); (case hs_r3 => kernel_rfl); (case ho_r3 => (simp only [List.getElem?_toArray, List.getElem?_cons_succ, List.getElem?_cons_zero]; rfl)); (case hS_r3 => assumption); (case hQ_r3 => exact fun _ _ _ h => h); (case hy_r3 => exact Or.inr ⟨by rfl, by rfl⟩); (try simp only [Act.put, List.setIfInBounds_toArray, List.set_cons_zero, List.set_cons_succ]))
                      (refine wpAnyH_take (i := 3) (oi := ?oi_r4) (v := ?v_r4) ?ho_r4 ?hs_r4 ?hf_r4 ?hr_r4 ?hQ_r4 ?hy_r4 ?hS_r4 ?rest_r4; (case hr_r4 => kernel_rfl); (case hf_r4 => kernel_rfl); (case hs_r4 => kernel_rfl); (case ho_r4 => (simp only [List.getElem?_toArray, List.getElem?_cons_succ, List.getElem?_cons_zero]; rfl)); (case hS_r4 => assumption); (case hQ_r4 => exact fun _ _ _ h => h); (case hy_r4 => exact Or.inr ⟨by rfl, by rfl⟩); (try simp only [Act.put, List.setIfInBounds_toArray, List.set_cons_zero, List.set_cons_succ]))
                      (refine wpAnyH_take (i := 4) (oi := ?oi_r5) (v := ?v_r5) ?ho_r5 ?hs_r5 ?hf_r5 ?hr_r5 ?hQ_r5 ?hy_r5 ?hS_r5 ?rest_r5; (case hr_r5 => kernel_rfl); (case hf_r5 => kernel_rfl); (case hs_r5 => kernel_rfl); (case ho_r5 => (simp only [List.getElem?_toArray, List.getElem?_cons_succ, List.getElem?_cons_zero]; rfl)); (case hS_r5 => assumption); (case hQ_r5 => exact fun _ _ _ h => h); (case hy_r5 => exact Or.inr ⟨by rfl, by rfl⟩); (try simp only [Act.put, List.setIfInBounds_toArray, List.set_cons_zero, List.set_cons_succ]))
                      (refine wpAnyH_take (i := 5) (oi := ?oi_r6) (v := ?v_r6) ?ho_r6 ?hs_r6 ?hf_r6 ?hr_r6 ?hQ_r6 ?hy_r6 ?hS_r6 ?rest_r6; (case hr_r6 => kernel_rfl); (case hf_r6 => kernel_rfl); (case hs_r6 => kernel_rfl); (case ho_r6 => (simp only [List.getElem?_toArray, List.getElem?_cons_succ, List.getElem?_cons_zero]; rfl)); (case hS_r6 => assumption); (case hQ_r6 => exact fun _ _ _ h => h); (case hy_r6 => exact Or.inr ⟨by rfl, by rfl⟩); (try simp only [Act.put, List.setIfInBounds_toArray, List.set_cons_zero, List.set_cons_succ]))
                      (refine wpAnyH_take (i := 6) (oi := ?oi_r7) (v := ?v_r7) ?ho_r7 ?hs_r7 ?hf_r7 ?hr_r7 ?hQ_r7 ?hy_r7 ?hS_r7 ?rest_r7; (case hr_r7 => kernel_rfl); (case hf_r7 => kernel_rfl); (case hs_r7 => kernel_rfl); (case ho_r7 => (simp only [List.getElem?_toArray, List.getElem?_cons_succ, List.getElem?_cons_zero]; rfl)); (case hS_r7 => assumption); (case hQ_r7 => exact fun _ _ _ h => h); (case hy_r7 => exact Or.inr ⟨by rfl, by rfl⟩); (try simp only [Act.put, List.setIfInBounds_toArray, List.set_cons_zero, List.set_cons_succ]))
                      (refine wpAnyH_take (i := 7) (oi := ?oi_r8) (v := ?v_r8) ?ho_r8 ?hs_r8 ?hf_r8 ?hr_r8 ?hQ_r8 ?hy_r8 ?hS_r8 ?rest_r8; (case hr_r8 => kernel_rfl); (case hf_r8 => kernel_rfl); (case hs_r8 => kernel_rfl); (case ho_r8 => (simp only [List.getElem?_toArray, List.getElem?_cons_succ, List.getElem?_cons_zero]; rfl)); (case hS_r8 => assumption); (case hQ_r8 => exact fun _ _ _ h => h); (case hy_r8 => exact Or.inr ⟨by rfl, by rfl⟩); (try simp only [Act.put, List.setIfInBounds_toArray, List.set_cons_zero, List.set_cons_succ]))
                      (refine wpAnyH_take (i := 8) (oi := ?oi_r9) (v := ?v_r9) ?ho_r9 ?hs_r9 ?hf_r9 ?hr_r9 ?hQ_r9 ?hy_r9 ?hS_r9 ?rest_r9; (case hr_r9 => kernel_rfl); (case hf_r9 => kernel_rfl); (case hs_r9 => kernel_rfl); (case ho_r9 => (simp only [List.getElem?_toArray, List.getElem?_cons_succ, List.getElem?_cons_zero]; rfl)); (case hS_r9 => assumption); (case hQ_r9 => exact fun _ _ _ h => h); (case hy_r9 => exact Or.inr ⟨by rfl, by rfl⟩); (try simp only [Act.put, List.setIfInBounds_toArray, List.set_cons_zero, List.set_cons_succ]))
                      (refine wpAnyH_take (i := 9) (oi := ?oi_r10) (v := ?v_r10) ?ho_r10 ?hs_r10 ?hf_r10 ?hr_r10 ?hQ_r10 ?hy_r10 ?hS_r10 ?rest_r10; (case hr_r10 => kernel_rfl); (case hf_r10 => kernel_rfl); (case hs_r10 => kernel_rfl); (case ho_r10 => (simp only [List.getElem?_toArray, List.getElem?_cons_succ, List.getElem?_cons_zero]; rfl)); (case hS_r10 => assumption); (case hQ_r10 => exact fun _ _ _ h => h); (case hy_r10 => exact Or.inr ⟨by rfl, by rfl⟩); (try simp only [Act.put, List.setIfInBounds_toArray, List.set_cons_zero, List.set_cons_succ]))
                      (refine wpAnyH_take (i := 10) (oi := ?oi_r11) (v := ?v_r11) ?ho_r11 ?hs_r11 ?hf_r11 ?hr_r11 ?hQ_r11 ?hy_r11 ?hS_r11 ?rest_r11; (case hr_r11 => kernel_rfl); (case hf_r11 => kernel_rfl); (case hs_r11 => kernel_rfl); (case ho_r11 => (simp only [List.getElem?_toArray, List.getElem?_cons_succ, List.getElem?_cons_zero]; rfl)); (case hS_r11 => assumption); (case hQ_r11 => exact fun _ _ _ h => h); (case hy_r11 => exact Or.inr ⟨by rfl, by rfl⟩); (try simp only [Act.put, List.setIfInBounds_toArray, List.set_cons_zero, List.set_cons_succ]))
                      (refine wpAnyH_take (i := 11) (oi := ?oi_r12) (v := ?v_r12) ?ho_r12 ?hs_r12 ?hf_r12 ?hr_r12 ?hQ_r12 ?hy_r12 ?hS_r12 ?rest_r12; (case hr_r12 => kernel_rfl); (case hf_r12 => kernel_rfl); (case hs_r12 => kernel_rfl); (case ho_r12 => (simp only [List.getElem?_toArray, List.getElem?_cons_succ, List.getElem?_cons_zero]; rfl)); (case hS_r12 => assumption); (case hQ_r12 => exact fun _ _ _ h => h); (case hy_r12 => exact Or.inr ⟨by rfl, by rfl⟩); (try simp only [Act.put, List.setIfInBounds_toArray, List.set_cons_zero, List.set_cons_succ]))
                      (refine wpAnyH_take (i := 12) (oi := ?oi_r13) (v := ?v_r13) ?ho_r13 ?hs_r13 ?hf_r13 ?hr_r13 ?hQ_r13 ?hy_r13 ?hS_r13 ?rest_r13; (case hr_r13 => kernel_rfl); (case hf_r13 => kernel_rfl); (case hs_r13 => kernel_rfl); (case ho_r13 => (simp only [List.getElem?_toArray, List.getElem?_cons_succ, List.getElem?_cons_zero]; rfl)); (case hS_r13 => assumption); (case hQ_r13 => exact fun _ _ _ h => h); (case hy_r13 => (refine Or.inl ⟨by rfl, ?_⟩; (intro w hSw; obtain ⟨s0, s1, s2⟩ := hSw; go_simp) <;> with_reducible rfl)); (try simp only [Act.put, List.setIfInBounds_toArray, List.set_cons_zero, List.set_cons_succ]))
                      (refine wpAnyH_take (i := 13) (oi := ?oi_r14) (v := ?v_r14) ?ho_r14 ?hs_r14 ?hf_r14 ?hr_r14 ?hQ_r14 ?hy_r14 ?hS_r14 ?rest_r14; (case hr_r14 => kernel_rfl); (case hf_r14 => kernel_rfl); (case hs_r14 => kernel_rfl); (case ho_r14 => (simp only [List.getElem?_toArray, List.getElem?_cons_succ, List.getElem?_cons_zero]; rfl)); (case hS_r14 => assumption); (case hQ_r14 => exact fun _ _ _ h => h); (case hy_r14 => (refine Or.inl ⟨by rfl, ?_⟩; (intro w hSw; obtain ⟨s0, s1, s2⟩ := hSw; go_simp) <;> with_reducible rfl)); (try simp only [Act.put, List.setIfInBounds_toArray, List.set_cons_zero, List.set_cons_succ]))
                      refine wpAnyH_done (by kernel_rfl) ?_ _
                      clear hHeld
                      go_wp2_with fail
                      go_roundw
                      case rel => exact ⟨k' + 1, by go_num, by omega, by rw [hdec.out], hq.then_drew⟩
                      case measure => simp [intOf]; omega
                    · rw [decide_eq_false hf]
                      by_cases heb : e = b
                      · have hdec : Hid (decide (b ∈ (M i).take (k' + 1)) = true) := Lib.hid (decide_eq_true (by rw [htk.out, heb]; exact List.mem_append_right _ (List.mem_singleton.2 rfl)))
                        have heb' : b = e := heb.symm
                        subst heb'
                        replace hf := Lib.hid hf
                        go_wp2_with fail
                        refine wp_region_held_drew (S := fun w' => w'.cell? ⟨Mb, i, none⟩ = some (.slice (some ⟨ge, 0, none⟩) m ce) ∧ w'.cell? ⟨ge, k', none⟩ = some (.string ⟨b.toArray⟩) ∧ Bytes w' (.slice ba bn bcap) b) (by kernel_rfl) (by exact ⟨x1, xe, ABh.out⟩) (fun hHeld => ?_)
                        (refine wpAnyH_take (i := 0) (oi := ?oi_r15) (v := ?v_r15) ?ho_r15 ?hs_r15 ?hf_r15 ?hr_r15 ?hQ_r15 ?hy_r15 ?hS_r15 ?rest_r15; (case hr_r15 => kernel_rfl); (case hf_r15 => kernel_rfl); (case hs_r15 => kernel_rfl); (case ho_r15 => (simp only [List.getElem?_toArray, List.getElem?_cons_succ, List.getElem?_cons_zero]; rfl)); (case hS_r15 => assumption); (case hQ_r15 => exact fun _ _ _ h => h); (case hy_r15 => (refine Or.inl ⟨by rfl, ?_⟩; (intro w hSw; obtain ⟨s0, s1, s2⟩ := hSw; go_simp) <;> with_reducible rfl)); (try simp only [Act.put, List.setIfInBounds_toArray, List.set_cons_zero, List.set_cons_succ]))
                        (refine wpAnyH_take (i := 1) (oi := ?oi_r16) (v := ?v_r16) ?ho_r16 ?hs_r16 ?hf_r16 ?hr_r16 ?hQ_r16 ?hy_r16 ?hS_r16 ?rest_r16; (case hr_r16 => kernel_rfl); (case hf_r16 => kernel_rfl); (case hs_r16 => kernel_rfl); (case ho_r16 => (simp only [List.getElem?_toArray, List.getElem?_cons_succ, List.getElem?_cons_zero]; rfl)); (case hS_r16 => assumption); (case hQ_r16 => exact fun _ _ _ h => h); (case hy_r16 => (refine Or.inl ⟨by rfl, ?_⟩; (intro w hSw; obtain ⟨s0, s1, s2⟩ := hSw; go_simp) <;> with_reducible rfl)); (try simp only [Act.put, List.setIfInBounds_toArray, List.set_cons_zero, List.set_cons_succ]))
                        (refine wpAnyH_take (i := 2) (oi := ?oi_r17) (v := ?v_r17) ?ho_r17 ?hs_r17 ?hf_r17 ?hr_r17 ?hQ_r17 ?hy_r17 ?hS_r17 ?rest_r17; (case hr_r17 => kernel_rfl); (case hf_r17 => kernel_rfl); (case hs_r17 => kernel_rfl); (case ho_r17 => (simp only [List.getElem?_toArray, List.getElem?_cons_succ, List.getElem?_cons_zero]; rfl)); (case hS_r17 => assumption); (case hQ_r17 => exact fun _ _ _ h => h); (case hy_r17 => (refine Or.inl ⟨by rfl, ?_⟩; (intro w hSw; obtain ⟨s0, s1, s2⟩ := hSw; go_simp) <;> with_reducible rfl)); (try simp only [Act.put, List.setIfInBounds_toArray, List.set_cons_zero, List.set_cons_succ]))
                        (refine wpAnyH_take (i := 3) (oi := ?oi_r18) (v := ?v_r18) ?ho_r18 ?hs_r18 ?hf_r18 ?hr_r18 ?hQ_r18 ?hy_r18 ?hS_r18 ?rest_r18; (case hr_r18 => kernel_rfl); (case hf_r18 => kernel_rfl); (case hs_r18 => kernel_rfl); (case ho_r18 => (simp only [List.getElem?_toArray, List.getElem?_cons_succ, List.getElem?_cons_zero]; rfl)); (case hS_r18 => assumption); (case hQ_r18 => exact fun _ _ _ h => h); (case hy_r18 => (refine Or.inl ⟨by rfl, ?_⟩; (intro w hSw; obtain ⟨s0, s1, s2⟩ := hSw; go_simp) <;> with_reducible rfl)); (try simp only [Act.put, List.setIfInBounds_toArray, List.set_cons_zero, List.set_cons_succ]))
                        (refine wpAnyH_take (i := 4) (oi := ?oi_r19) (v := ?v_r19) ?ho_r19 ?hs_r19 ?hf_r19 ?hr_r19 ?hQ_r19 ?hy_r19 ?hS_r19 ?rest_r19; (case hr_r19 => kernel_rfl); (case hf_r19 => kernel_rfl); (case hs_r19 => kernel_rfl); (case ho_r19 => (simp only [List.getElem?_toArray, List.getElem?_cons_succ, List.getElem?_cons_zero]; rfl)); (case hS_r19 => assumption); (case hQ_r19 => exact fun _ _ _ h => h); (case hy_r19 => (refine Or.inl ⟨by rfl, ?_⟩; (intro w hSw; obtain ⟨s0, s1, s2⟩ := hSw; go_simp) <;> with_reducible rfl)); (try simp only [Act.put, List.setIfInBounds_toArray, List.set_cons_zero, List.set_cons_succ]))
                        (refine wpAnyH_take (i := 5) (oi := ?oi_r20) (v := ?v_r20) ?ho_r20 ?hs_r20 ?hf_r20 ?hr_r20 ?hQ_r20 ?hy_r20 ?hS_r20 ?rest_r20; (case hr_r20 => kernel_rfl); (case hf_r20 => kernel_rfl); (case hs_r20 => kernel_rfl); (case ho_r20 => (simp only [List.getElem?_toArray, List.getElem?_cons_succ, List.getElem?_cons_zero]; rfl)); (case hS_r20 => assumption); (case hQ_r20 => exact fun _ _ _ h => h); (case hy_r20 => (refine Or.inl ⟨by rfl, ?_⟩; (intro w hSw; obtain ⟨s0, s1, s2⟩ := hSw; go_simp) <;> with_reducible rfl)); (try simp only [Act.put, List.setIfInBounds_toArray, List.set_cons_zero, List.set_cons_succ]))
                        (refine wpAnyH_take (i := 6) (oi := ?oi_r21) (v := ?v_r21) ?ho_r21 ?hs_r21 ?hf_r21 ?hr_r21 ?hQ_r21 ?hy_r21 ?hS_r21 ?rest_r21; (case hr_r21 => kernel_rfl); (case hf_r21 => kernel_rfl); (case hs_r21 => kernel_rfl); (case ho_r21 => (simp only [List.getElem?_toArray, List.getElem?_cons_succ, List.getElem?_cons_zero]; rfl)); (case hS_r21 => assumption); (case hQ_r21 => exact fun _ _ _ h => h); (case hy_r21 => (refine Or.inl ⟨by rfl, ?_⟩; (intro w hSw; obtain ⟨s0, s1, s2⟩ := hSw; go_simp) <;> with_reducible rfl)); (try simp only [Act.put, List.setIfInBounds_toArray, List.set_cons_zero, List.set_cons_succ]))
                        (refine wpAnyH_take (i := 7) (oi := ?oi_r22) (v := ?v_r22) ?ho_r22 ?hs_r22 ?hf_r22 ?hr_r22 ?hQ_r22 ?hy_r22 ?hS_r22 ?rest_r22; (case hr_r22 => kernel_rfl); (case hf_r22 => kernel_rfl); (case hs_r22 => kernel_rfl); (case ho_r22 => (simp only [List.getElem?_toArray, List.getElem?_cons_succ, List.getElem?_cons_zero]; rfl)); (case hS_r22 => assumption); (case hQ_r22 => exact fun _ _ _ h => h); (case hy_r22 => (refine Or.inl ⟨by rfl, ?_⟩; (intro w hSw; obtain ⟨s0, s1, s2⟩ := hSw; go_simp) <;> with_reducible rfl)); (try simp only [Act.put, List.setIfInBounds_toArray, List.set_cons_zero, List.set_cons_succ]))
                        (refine wpAnyH_take (i := 8) (oi := ?oi_r23) (v := ?v_r23) ?ho_r23 ?hs_r23 ?hf_r23 ?hr_r23 ?hQ_r23 ?hy_r23 ?hS_r23 ?rest_r23; (case hr_r23 => kernel_rfl); (case hf_r23 => kernel_rfl); (case hs_r23 => kernel_rfl); (case ho_r23 => (simp only [List.getElem?_toArray, List.getElem?_cons_succ, List.getElem?_cons_zero]; rfl)); (case hS_r23 => assumption); (case hQ_r23 => exact fun _ _ _ h => h); (case hy_r23 => (refine Or.inl ⟨by rfl, ?_⟩; (intro w hSw; obtain ⟨s0, s1, s2⟩ := hSw; go_simp) <;> with_reducible rfl)); (try simp only [Act.put, List.setIfInBounds_toArray, List.set_cons_zero, List.set_cons_succ]))
                        (refine wpAnyH_take (i := 9) (oi := ?oi_r24) (v := ?v_r24) ?ho_r24 ?hs_r24 ?hf_r24 ?hr_r24 ?hQ_r24 ?hy_r24 ?hS_r24 ?rest_r24; (case hr_r24 => kernel_rfl); (case hf_r24 => kernel_rfl); (case hs_r24 => kernel_rfl); (case ho_r24 => (simp only [List.getElem?_toArray, List.getElem?_cons_succ, List.getElem?_cons_zero]; rfl)); (case hS_r24 => assumption); (case hQ_r24 => exact fun _ _ _ h => h); (case hy_r24 => (refine Or.inl ⟨by rfl, ?_⟩; (intro w hSw; obtain ⟨s0, s1, s2⟩ := hSw; go_simp) <;> with_reducible rfl)); (try simp only [Act.put, List.setIfInBounds_toArray, List.set_cons_zero, List.set_cons_succ]))
                        (refine wpAnyH_take (i := 10) (oi := ?oi_r25) (v := ?v_r25) ?ho_r25 ?hs_r25 ?hf_r25 ?hr_r25 ?hQ_r25 ?hy_r25 ?hS_r25 ?rest_r25; (case hr_r25 => kernel_rfl); (case hf_r25 => kernel_rfl); (case hs_r25 => kernel_rfl); (case ho_r25 => (simp only [List.getElem?_toArray, List.getElem?_cons_succ, List.getElem?_cons_zero]; rfl)); (case hS_r25 => assumption); (case hQ_r25 => exact fun _ _ _ h => h); (case hy_r25 => (refine Or.inl ⟨by rfl, ?_⟩; (intro w hSw; obtain ⟨s0, s1, s2⟩ := hSw; have hst := run_str (P := Try.prog) _ 30 9 5 Try.underlying30 Try.underlying5 Try.underlying9 _ _ s2; go_simp) <;> with_reducible rfl)); (try simp only [Act.put, List.setIfInBounds_toArray, List.set_cons_zero, List.set_cons_succ]))
                        (refine wpAnyH_take (i := 11) (oi := ?oi_r26) (v := ?v_r26) ?ho_r26 ?hs_r26 ?hf_r26 ?hr_r26 ?hQ_r26 ?hy_r26 ?hS_r26 ?rest_r26; (case hr_r26 => kernel_rfl); (case hf_r26 => kernel_rfl); (case hs_r26 => kernel_rfl); (case ho_r26 => (simp only [List.getElem?_toArray, List.getElem?_cons_succ, List.getElem?_cons_zero]; rfl)); (case hS_r26 => assumption); (case hQ_r26 => exact fun _ _ _ h => h); (case hy_r26 => (refine Or.inl ⟨by rfl, ?_⟩; (intro w hSw; obtain ⟨s0, s1, s2⟩ := hSw; go_simp) <;> with_reducible rfl)); (try simp only [Act.put, List.setIfInBounds_toArray, List.set_cons_zero, List.set_cons_succ]))
                        (refine wpAnyH_take (i := 12) (oi := ?oi_r27) (v := ?v_r27) ?ho_r27 ?hs_r27 ?hf_r27 ?hr_r27 ?hQ_r27 ?hy_r27 ?hS_r27 ?rest_r27; (case hr_r27 => kernel_rfl); (case hf_r27 => kernel_rfl); (case hs_r27 => kernel_rfl); (case ho_r27 => (simp only [List.getElem?_toArray, List.getElem?_cons_succ, List.getElem?_cons_zero]; rfl)); (case hS_r27 => assumption); (case hQ_r27 => exact fun _ _ _ h => h); (case hy_r27 => (refine Or.inl ⟨by rfl, ?_⟩; (intro w hSw; obtain ⟨s0, s1, s2⟩ := hSw; go_simp) <;> with_reducible rfl)); (try simp only [Act.put, List.setIfInBounds_toArray, List.set_cons_zero, List.set_cons_succ]))
                        (refine wpAnyH_take (i := 13) (oi := ?oi_r28) (v := ?v_r28) ?ho_r28 ?hs_r28 ?hf_r28 ?hr_r28 ?hQ_r28 ?hy_r28 ?hS_r28 ?rest_r28; (case hr_r28 => kernel_rfl); (case hf_r28 => kernel_rfl); (case hs_r28 => kernel_rfl); (case ho_r28 => (simp only [List.getElem?_toArray, List.getElem?_cons_succ, List.getElem?_cons_zero]; rfl)); (case hS_r28 => assumption); (case hQ_r28 => exact fun _ _ _ h => h); (case hy_r28 => (refine Or.inl ⟨by rfl, ?_⟩; (intro w hSw; obtain ⟨s0, s1, s2⟩ := hSw; go_simp) <;> with_reducible rfl)); (try simp only [Act.put, List.setIfInBounds_toArray, List.set_cons_zero, List.set_cons_succ]))
                        refine wpAnyH_done (by kernel_rfl) ?_ _
                        clear hHeld
                        go_wp2_with fail
                        go_roundw
                        case rel => exact ⟨k' + 1, by go_num, by omega, by rw [hdec.out], hq.then_drew⟩
                        case measure => simp [intOf]; omega
                      · have hdec : Hid (decide (b ∈ (M i).take (k' + 1)) = false) := Lib.hid (decide_eq_false (by rw [htk.out]; intro h; rcases List.mem_append.1 h with h | h; exact hf h; exact heb (List.mem_singleton.1 h).symm))
                        have q1 : (e == b) = false := by simp [heb]
                        have q2 : (e = b) = False := eq_false heb
                        replace hf := Lib.hid hf
                        replace heb := Lib.hid heb
                        go_wp2_with fail
                        refine wp_region_held_drew (S := fun w' => w'.cell? ⟨Mb, i, none⟩ = some (.slice (some ⟨ge, 0, none⟩) m ce) ∧ w'.cell? ⟨ge, k', none⟩ = some (.string ⟨e.toArray⟩) ∧ Bytes w' (.slice ba bn bcap) b) (by kernel_rfl) (by exact ⟨x1, xe, ABh.out⟩) (fun hHeld => ?_)
                        (refine wpAnyH_take (i := 0) (oi := ?oi_r29) (v := ?v_r29) ?ho_r29 ?hs_r29 ?hf_r29 ?hr_r29 ?hQ_r29 ?hy_r29 ?hS_r29 ?rest_r29; (case hr_r29 => kernel_rfl); (case hf_r29 => kernel_rfl); (case hs_r29 => kernel_rfl); (case ho_r29 => (simp only [List.getElem?_toArray, List.getElem?_cons_succ, List.getElem?_cons_zero]; rfl)); (case hS_r29 => assumption); (case hQ_r29 => exact fun _ _ _ h => h); (case hy_r29 => (refine Or.inl ⟨by rfl, ?_⟩; (intro w hSw; obtain ⟨s0, s1, s2⟩ := hSw; go_simp) <;> with_reducible rfl)); (try simp only [Act.put, List.setIfInBounds_toArray, List.set_cons_zero, List.set_cons_succ]))
                        (refine wpAnyH_take (i := 1) (oi := ?oi_r30) (v := ?v_r30) ?ho_r30 ?hs_r30 ?hf_r30 ?hr_r30 ?hQ_r30 ?hy_r30 ?hS_r30 ?rest_r30; (case hr_r30 => kernel_rfl); (case hf_r30 => kernel_rfl); (case hs_r30 => kernel_rfl); (case ho_r30 => (simp only [List.getElem?_toArray, List.getElem?_cons_succ, List.getElem?_cons_zero]; rfl)); (case hS_r30 => assumption); (case hQ_r30 => exact fun _ _ _ h => h); (case hy_r30 => (refine Or.inl ⟨by rfl, ?_⟩; (intro w hSw; obtain ⟨s0, s1, s2⟩ := hSw; go_simp) <;> with_reducible rfl)); (try simp only [Act.put, List.setIfInBounds_toArray, List.set_cons_zero, List.set_cons_succ]))
                        (refine wpAnyH_take (i := 2) (oi := ?oi_r31) (v := ?v_r31) ?ho_r31 ?hs_r31 ?hf_r31 ?hr_r31 ?hQ_r31 ?hy_r31 ?hS_r31 ?rest_r31; (case hr_r31 => kernel_rfl); (case hf_r31 => kernel_rfl); (case hs_r31 => kernel_rfl); (case ho_r31 => (simp only [List.getElem?_toArray, List.getElem?_cons_succ, List.getElem?_cons_zero]; rfl)); (case hS_r31 => assumption); (case hQ_r31 => exact fun _ _ _ h => h); (case hy_r31 => (refine Or.inl ⟨by rfl, ?_⟩; (intro w hSw; obtain ⟨s0, s1, s2⟩ := hSw; go_simp) <;> with_reducible rfl)); (try simp only [Act.put, List.setIfInBounds_toArray, List.set_cons_zero, List.set_cons_succ]))
                        (refine wpAnyH_take (i := 3) (oi := ?oi_r32) (v := ?v_r32) ?ho_r32 ?hs_r32 ?hf_r32 ?hr_r32 ?hQ_r32 ?hy_r32 ?hS_r32 ?rest_r32; (case hr_r32 => kernel_rfl); (case hf_r32 => kernel_rfl); (case hs_r32 => kernel_rfl); (case ho_r32 => (simp only [List.getElem?_toArray, List.getElem?_cons_succ, List.getElem?_cons_zero]; rfl)); (case hS_r32 => assumption); (case hQ_r32 => exact fun _ _ _ h => h); (case hy_r32 => (refine Or.inl ⟨by rfl, ?_⟩; (intro w hSw; obtain ⟨s0, s1, s2⟩ := hSw; go_simp) <;> with_reducible rfl)); (try simp only [Act.put, List.setIfInBounds_toArray, List.set_cons_zero, List.set_cons_succ]))
                        (refine wpAnyH_take (i := 4) (oi := ?oi_r33) (v := ?v_r33) ?ho_r33 ?hs_r33 ?hf_r33 ?hr_r33 ?hQ_r33 ?hy_r33 ?hS_r33 ?rest_r33; (case hr_r33 => kernel_rfl); (case hf_r33 => kernel_rfl); (case hs_r33 => kernel_rfl); (case ho_r33 => (simp only [List.getElem?_toArray, List.getElem?_cons_succ, List.getElem?_cons_zero]; rfl)); (case hS_r33 => assumption); (case hQ_r33 => exact fun _ _ _ h => h); (case hy_r33 => (refine Or.inl ⟨by rfl, ?_⟩; (intro w hSw; obtain ⟨s0, s1, s2⟩ := hSw; go_simp) <;> with_reducible rfl)); (try simp only [Act.put, List.setIfInBounds_toArray, List.set_cons_zero, List.set_cons_succ]))
                        (refine wpAnyH_take (i := 5) (oi := ?oi_r34) (v := ?v_r34) ?ho_r34 ?hs_r34 ?hf_r34 ?hr_r34 ?hQ_r34 ?hy_r34 ?hS_r34 ?rest_r34; (case hr_r34 => kernel_rfl); (case hf_r34 => kernel_rfl); (case hs_r34 => kernel_rfl); (case ho_r34 => (simp only [List.getElem?_toArray, List.getElem?_cons_succ, List.getElem?_cons_zero]; rfl)); (case hS_r34 => assumption); (case hQ_r34 => exact fun _ _ _ h => h); (case hy_r34 => (refine Or.inl ⟨by rfl, ?_⟩; (intro w hSw; obtain ⟨s0, s1, s2⟩ := hSw; go_simp) <;> with_reducible rfl)); (try simp only [Act.put, List.setIfInBounds_toArray, List.set_cons_zero, List.set_cons_succ]))
                        (refine wpAnyH_take (i := 6) (oi := ?oi_r35) (v := ?v_r35) ?ho_r35 ?hs_r35 ?hf_r35 ?hr_r35 ?hQ_r35 ?hy_r35 ?hS_r35 ?rest_r35; (case hr_r35 => kernel_rfl); (case hf_r35 => kernel_rfl); (case hs_r35 => kernel_rfl); (case ho_r35 => (simp only [List.getElem?_toArray, List.getElem?_cons_succ, List.getElem?_cons_zero]; rfl)); (case hS_r35 => assumption); (case hQ_r35 => exact fun _ _ _ h => h); (case hy_r35 => (refine Or.inl ⟨by rfl, ?_⟩; (intro w hSw; obtain ⟨s0, s1, s2⟩ := hSw; go_simp) <;> with_reducible rfl)); (try simp only [Act.put, List.setIfInBounds_toArray, List.set_cons_zero, List.set_cons_succ]))
                        (refine wpAnyH_take (i := 7) (oi := ?oi_r36) (v := ?v_r36) ?ho_r36 ?hs_r36 ?hf_r36 ?hr_r36 ?hQ_r36 ?hy_r36 ?hS_r36 ?rest_r36; (case hr_r36 => kernel_rfl); (case hf_r36 => kernel_rfl); (case hs_r36 => kernel_rfl); (case ho_r36 => (simp only [List.getElem?_toArray, List.getElem?_cons_succ, List.getElem?_cons_zero]; rfl)); (case hS_r36 => assumption); (case hQ_r36 => exact fun _ _ _ h => h); (case hy_r36 => (refine Or.inl ⟨by rfl, ?_⟩; (intro w hSw; obtain ⟨s0, s1, s2⟩ := hSw; go_simp) <;> with_reducible rfl)); (try simp only [Act.put, List.setIfInBounds_toArray, List.set_cons_zero, List.set_cons_succ]))
                        (refine wpAnyH_take (i := 8) (oi := ?oi_r37) (v := ?v_r37) ?ho_r37 ?hs_r37 ?hf_r37 ?hr_r37 ?hQ_r37 ?hy_r37 ?hS_r37 ?rest_r37; (case hr_r37 => kernel_rfl); (case hf_r37 => kernel_rfl); (case hs_r37 => kernel_rfl); (case ho_r37 => (simp only [List.getElem?_toArray, List.getElem?_cons_succ, List.getElem?_cons_zero]; rfl)); (case hS_r37 => assumption); (case hQ_r37 => exact fun _ _ _ h => h); (case hy_r37 => (refine Or.inl ⟨by rfl, ?_⟩; (intro w hSw; obtain ⟨s0, s1, s2⟩ := hSw; go_simp) <;> with_reducible rfl)); (try simp only [Act.put, List.setIfInBounds_toArray, List.set_cons_zero, List.set_cons_succ]))
                        (refine wpAnyH_take (i := 9) (oi := ?oi_r38) (v := ?v_r38) ?ho_r38 ?hs_r38 ?hf_r38 ?hr_r38 ?hQ_r38 ?hy_r38 ?hS_r38 ?rest_r38; (case hr_r38 => kernel_rfl); (case hf_r38 => kernel_rfl); (case hs_r38 => kernel_rfl); (case ho_r38 => (simp only [List.getElem?_toArray, List.getElem?_cons_succ, List.getElem?_cons_zero]; rfl)); (case hS_r38 => assumption); (case hQ_r38 => exact fun _ _ _ h => h); (case hy_r38 => (refine Or.inl ⟨by rfl, ?_⟩; (intro w hSw; obtain ⟨s0, s1, s2⟩ := hSw; go_simp) <;> with_reducible rfl)); (try simp only [Act.put, List.setIfInBounds_toArray, List.set_cons_zero, List.set_cons_succ]))
                        (refine wpAnyH_take (i := 10) (oi := ?oi_r39) (v := ?v_r39) ?ho_r39 ?hs_r39 ?hf_r39 ?hr_r39 ?hQ_r39 ?hy_r39 ?hS_r39 ?rest_r39; (case hr_r39 => kernel_rfl); (case hf_r39 => kernel_rfl); (case hs_r39 => kernel_rfl); (case ho_r39 => (simp only [List.getElem?_toArray, List.getElem?_cons_succ, List.getElem?_cons_zero]; rfl)); (case hS_r39 => assumption); (case hQ_r39 => exact fun _ _ _ h => h); (case hy_r39 => (refine Or.inl ⟨by rfl, ?_⟩; (intro w hSw; obtain ⟨s0, s1, s2⟩ := hSw; have hst := run_str (P := Try.prog) _ 30 9 5 Try.underlying30 Try.underlying5 Try.underlying9 _ _ s2; go_simp) <;> with_reducible rfl)); (try simp only [Act.put, List.setIfInBounds_toArray, List.set_cons_zero, List.set_cons_succ]))
                        (refine wpAnyH_take (i := 11) (oi := ?oi_r40) (v := ?v_r40) ?ho_r40 ?hs_r40 ?hf_r40 ?hr_r40 ?hQ_r40 ?hy_r40 ?hS_r40 ?rest_r40; (case hr_r40 => kernel_rfl); (case hf_r40 => kernel_rfl); (case hs_r40 => kernel_rfl); (case ho_r40 => (simp only [List.getElem?_toArray, List.getElem?_cons_succ, List.getElem?_cons_zero]; rfl)); (case hS_r40 => assumption); (case hQ_r40 => exact fun _ _ _ h => h); (case hy_r40 => (refine Or.inl ⟨by rfl, ?_⟩; (intro w hSw; obtain ⟨s0, s1, s2⟩ := hSw; go_simp) <;> with_reducible rfl)); (try simp only [Act.put, List.setIfInBounds_toArray, List.set_cons_zero, List.set_cons_succ]))
                        (refine wpAnyH_take (i := 12) (oi := ?oi_r41) (v := ?v_r41) ?ho_r41 ?hs_r41 ?hf_r41 ?hr_r41 ?hQ_r41 ?hy_r41 ?hS_r41 ?rest_r41; (case hr_r41 => kernel_rfl); (case hf_r41 => kernel_rfl); (case hs_r41 => kernel_rfl); (case ho_r41 => (simp only [List.getElem?_toArray, List.getElem?_cons_succ, List.getElem?_cons_zero]; rfl)); (case hS_r41 => assumption); (case hQ_r41 => exact fun _ _ _ h => h); (case hy_r41 => (refine Or.inl ⟨by rfl, ?_⟩; (intro w hSw; obtain ⟨s0, s1, s2⟩ := hSw; go_simp) <;> with_reducible rfl)); (try simp only [Act.put, List.setIfInBounds_toArray, List.set_cons_zero, List.set_cons_succ]))
                        (refine wpAnyH_take (i := 13) (oi := ?oi_r42) (v := ?v_r42) ?ho_r42 ?hs_r42 ?hf_r42 ?hr_r42 ?hQ_r42 ?hy_r42 ?hS_r42 ?rest_r42; (case hr_r42 => kernel_rfl); (case hf_r42 => kernel_rfl); (case hs_r42 => kernel_rfl); (case ho_r42 => (simp only [List.getElem?_toArray, List.getElem?_cons_succ, List.getElem?_cons_zero]; rfl)); (case hS_r42 => assumption); (case hQ_r42 => exact fun _ _ _ h => h); (case hy_r42 => (refine Or.inl ⟨by rfl, ?_⟩; (intro w hSw; obtain ⟨s0, s1, s2⟩ := hSw; go_simp) <;> with_reducible rfl)); (try simp only [Act.put, List.setIfInBounds_toArray, List.set_cons_zero, List.set_cons_succ]))
                        refine wpAnyH_done (by kernel_rfl) ?_ _
                        clear hHeld
                        go_wp2_with fail
                        go_roundw
                        case rel => exact ⟨k' + 1, by go_num, by omega, by rw [hdec.out], hq.then_drew⟩
                        case measure => simp [intOf]; omega
                  · obtain rfl : k' = m := by omega
                    have hkl' : ((k' : Int) < (k' : Int)) = False := eq_false (by omega)
                    have hkl'' : (k' < k') = False := eq_false (by omega)
                    rw [List.take_of_length_le (by rw [hm.out]; exact Nat.le_refl _), decide_eq_true hmem.out]
                    have L9 := Lib.hid (L8.out.non hq)
                    have M9 := Lib.hid (MA.out.non hq)
                    go_wp2_with fail
                    go_roundw
                    case rel => exact ⟨i + 1, by go_num, by omega, L9.out, M9.out⟩
                    case measure => simp [intOf]; omega
              · have hi8i : ((i : Int) < 8) = False := eq_false (by omega)
                have cP := Lib.hid (lvPending L)
                rw [hP2] at cP
                clear L MA
                go_wp2_with fail
                refine cP.out.mono ?_
                rintro en w9 ⟨rfl, L9⟩
                have hU9 := L9.upd
                clear cP L9
                simp only []
                go_wp2_with fail
                refine (lives04 _).mono ?_
                rintro en w10 ⟨rfl, hu10⟩
                have hU10 := hU9.trans hu10 fun _ _ h => h
                simp only []
                go_wp2_with fail
                go_ret
                exact ⟨rfl, hU10⟩
end Go.Proofs.Ytgkiglodhhlnmaa
