/- The reference's Read. -/
import Derived.Test.YtiadbijholnbjaaSlQ
import Derived.Test.YtiadbijholnbjaaSlotWritesW
import Derived.Test.YtiadbijholnbjaaRefN
namespace Go.Proofs.Ytiadbijholnbjaa
open Go.RowKit Go.Amb Go.Shelf
set_option linter.unusedVariables false
set_option linter.unusedSimpArgs false
def slot0 : S5 := ⟨0, 0, false, false, []⟩
/-- What bytes are read as. -/
def readS (b : List UInt8) : S5 × Int := if b.length = 128 ∧ datN b ≤ 108 ∧ rightS (slotOf b) = true ∧ slotB (slotOf b) = b then (slotOf b, 0) else (slot0, 4)
theorem set5 {w w0 : World} {M : Nat} {c0 c1 c2 c3 c4 : Value} {t : TypeId} (h : w.heap[M]? = some (.cells #[c0, c1, c2, c3, c4] t (0, 0))) (hu : Upd Non w0 w) (hM : w0.heap.size ≤ M) (a b c d e : Value) :
    (∀ j, (((((w.setCell ⟨M, 0, none⟩ a).setCell ⟨M, 1, none⟩ b).setCell ⟨M, 2, none⟩ c).setCell ⟨M, 3, none⟩ d).setCell ⟨M, 4, none⟩ e).cell? ⟨M, j, none⟩ = #[a, b, c, d, e][j]?) ∧
    Upd Non w0 (((((w.setCell ⟨M, 0, none⟩ a).setCell ⟨M, 1, none⟩ b).setCell ⟨M, 2, none⟩ c).setCell ⟨M, 3, none⟩ d).setCell ⟨M, 4, none⟩ e) := by
  refine ⟨(cells_of (e := t) ?_).1, ?_⟩
  · rw [heap_setCell_same _ M 4 _ _ _ (heap_setCell_same _ M 3 _ _ _ (heap_setCell_same _ M 2 _ _ _ (heap_setCell_same _ M 1 _ _ _ (heap_setCell_same _ M 0 _ _ _ h))))]
    rfl
  · have hn : M < w0.heap.size → Non M := fun h => absurd h (by omega)
    exact Upd.then_setCell (p := ⟨M, 4, none⟩) (Upd.then_setCell (p := ⟨M, 3, none⟩) (Upd.then_setCell (p := ⟨M, 2, none⟩) (Upd.then_setCell (p := ⟨M, 1, none⟩) (Upd.then_setCell (p := ⟨M, 0, none⟩) hu hn a) hn b) hn c) hn d) hn e
theorem flgN_is {b : List UInt8} (h : 1 < b.length) (hz : 1 < ByteArray.size ⟨b.toArray⟩) : (((⟨b.toArray⟩ : ByteArray)[1]'hz).toNat) = flgN b := by
  have hp : pf b 1 1 = [b[1]] := by
    unfold pf
    rw [List.drop_eq_getElem_cons h]; rfl
  unfold flgN
  rw [hp]
  show b[1].toNat = _
  simp [numL]
theorem flg_f (n : Nat) : ((n : Int).tmod 2 == 1) = decide (n % 2 = 1) := by
  rw [Bool.eq_iff_iff]
  have : (n : Int).tmod 2 = ((n % 2 : Nat) : Int) := by rw [Int.tmod_eq_emod_of_nonneg (by omega)]; omega
  rw [this]; simp; omega
theorem flg_l (n : Nat) (h : n < 256) : ((IntKind.u8.wrap ((n : Int) / 2)).tmod 2 == 1) = decide (n / 2 % 2 = 1) := by
  rw [IntWalk.u8_in _ ⟨by omega, by omega⟩, show (n : Int) / 2 = ((n / 2 : Nat) : Int) by omega]
  exact flg_f (n / 2)
set_option maxRecDepth 100000
set_option maxHeartbeats 2000000 in
theorem refRead (b : List UInt8) (w : World) (hm : b.length ≤ 140737488355328) : Calls Try.prog 19 #[.string ⟨b.toArray⟩] w (Ret (.tuple #[(readS b).1.v, .int .i64 (readS b).2]) w) := by
  by_cases hl : b.length = 128
  · have hl1 : (b.length : Int) = 128 := by omega
    have hn0 : (pf b 14 2).length = 2 := pf_length (by omega)
    have hdn := numL_wrap hn0 (by omega)
    have hdn2 := datN_eq hl
    by_cases hd : datN b ≤ 108
    · have hd' : ¬ (108 : Int) < (datN b : Int) := by omega
      have c1 := fun w => refNumber b 14 2 w (by omega) hm (by decide)
      have c2 := Lib.hid (fun w => refNumber b 2 4 w (by omega) hm (by decide))
      have c3 := Lib.hid (fun w => refNumber b 6 8 w (by omega) hm (by decide))
      rw [show (b.drop 14).take 2 = pf b 14 2 from rfl, hdn, ← hdn2] at c1
      rw [show (b.drop 2).take 4 = pf b 2 4 from rfl] at c2
      rw [show (b.drop 6).take 8 = pf b 6 8 from rfl] at c3
      replace c1 := Lib.hid c1
      clear hdn hdn2
      have hlH := Lib.hid hl
      obtain ⟨n, hnn⟩ : ∃ n, datN b = n := ⟨_, rfl⟩
      rw [hnn] at c1 hd hd'
      have hsl := fun w => run_sub (P := Try.prog) 9 Try.underlying9 b 16 (16 + (n : Int)) 16 (16 + n) rfl (by omega) (Nat.le_add_right _ _) (by omega) w
      rw [Nat.add_sub_cancel_left] at hsl
      clear hl
      go_enter Try.func19, Try.ntmps19
      go_wp2_with fail
      refine (c1.out _).mono ?_
      rintro en w1 ⟨rfl, rfl⟩
      have hw16 : IntKind.i64.wrap (16 + (n : Int)) = 16 + (n : Int) := IntWalk.i64_in _ ⟨by omega, by omega⟩
      have hfl := flgN_lt hlH.out
      have h1l : (1 : Int) < (b.length : Int) := by omega
      go_wp2_with fail
      refine wp_region_held_drew (S := fun _ => True) (by kernel_rfl) trivial (fun hHeld => ?_)
      (refine wpAnyH_take (i := 0) (oi := ?oi_1) (v := ?v_1) ?ho_1 ?hs_1 ?hf_1 ?hr_1 ?hQ_1 ?hy_1 ?hS_1 ?rest_1; (case hr_1 => kernel_rfl); (case hf_1 => kernel_rfl); (case hs_1 => kernel_rfl); (case ho_1 => (simp only [List.getElem?_toArray, List.getElem?_cons_succ, List.getElem?_cons_zero]; rfl)); (case hS_1 => exact trivial); (case hQ_1 => exact fun _ _ _ h => h); (case hy_1 => (refine Or.inl ⟨by rfl, ?_⟩; (intro w hSw; go_simp) <;> with_reducible rfl)); (try simp only [Act.put, List.setIfInBounds_toArray, List.set_cons_zero, List.set_cons_succ]))
      (refine wpAnyH_take (i := 2) (oi := ?oi_2) (v := ?v_2) ?ho_2 ?hs_2 ?hf_2 ?hr_2 ?hQ_2 ?hy_2 ?hS_2 ?rest_2; (case hr_2 => kernel_rfl); (case hf_2 => kernel_rfl); (case hs_2 => kernel_rfl); (case ho_2 => (simp only [List.getElem?_toArray, List.getElem?_cons_succ, List.getElem?_cons_zero]; rfl)); (case hS_2 => exact trivial); (case hQ_2 => exact fun _ _ _ h => h); (case hy_2 => (refine Or.inl ⟨by rfl, ?_⟩; (intro w hSw; go_simp) <;> with_reducible rfl)); (try simp only [Act.put, List.setIfInBounds_toArray, List.set_cons_zero, List.set_cons_succ]))
      (refine wpAnyH_take (i := 4) (oi := ?oi_3) (v := ?v_3) ?ho_3 ?hs_3 ?hf_3 ?hr_3 ?hQ_3 ?hy_3 ?hS_3 ?rest_3; (case hr_3 => kernel_rfl); (case hf_3 => kernel_rfl); (case hs_3 => kernel_rfl); (case ho_3 => (simp only [List.getElem?_toArray, List.getElem?_cons_succ, List.getElem?_cons_zero]; rfl)); (case hS_3 => exact trivial); (case hQ_3 => exact fun _ _ _ h => h); (case hy_3 => (refine Or.inl ⟨by rfl, ?_⟩; (intro w hSw; go_simp) <;> with_reducible rfl)); (try simp only [Act.put, List.setIfInBounds_toArray, List.set_cons_zero, List.set_cons_succ]))
      (refine wpAnyH_take (i := 5) (oi := ?oi_4) (v := ?v_4) ?ho_4 ?hs_4 ?hf_4 ?hr_4 ?hQ_4 ?hy_4 ?hS_4 ?rest_4; (case hr_4 => kernel_rfl); (case hf_4 => kernel_rfl); (case hs_4 => kernel_rfl); (case ho_4 => (simp only [List.getElem?_toArray, List.getElem?_cons_succ, List.getElem?_cons_zero]; rfl)); (case hS_4 => exact trivial); (case hQ_4 => exact fun _ _ _ h => h); (case hy_4 => (refine Or.inl ⟨by rfl, ?_⟩; (intro w hSw; go_simp) <;> with_reducible rfl)); (try simp only [Act.put, List.setIfInBounds_toArray, List.set_cons_zero, List.set_cons_succ]))
      (refine wpAnyH_take (i := 6) (oi := ?oi_5) (v := ?v_5) ?ho_5 ?hs_5 ?hf_5 ?hr_5 ?hQ_5 ?hy_5 ?hS_5 ?rest_5; (case hr_5 => kernel_rfl); (case hf_5 => kernel_rfl); (case hs_5 => kernel_rfl); (case ho_5 => (simp only [List.getElem?_toArray, List.getElem?_cons_succ, List.getElem?_cons_zero]; rfl)); (case hS_5 => exact trivial); (case hQ_5 => exact fun _ _ _ h => h); (case hy_5 => (refine Or.inl ⟨by rfl, ?_⟩; (intro w hSw; go_simp) <;> with_reducible rfl)); (try simp only [Act.put, List.setIfInBounds_toArray, List.set_cons_zero, List.set_cons_succ]))
      (refine wpAnyH_take (i := 7) (oi := ?oi_6) (v := ?v_6) ?ho_6 ?hs_6 ?hf_6 ?hr_6 ?hQ_6 ?hy_6 ?hS_6 ?rest_6; (case hr_6 => kernel_rfl); (case hf_6 => kernel_rfl); (case hs_6 => kernel_rfl); (case ho_6 => (simp only [List.getElem?_toArray, List.getElem?_cons_succ, List.getElem?_cons_zero]; rfl)); (case hS_6 => exact trivial); (case hQ_6 => exact fun _ _ _ h => h); (case hy_6 => (refine Or.inl ⟨by rfl, ?_⟩; (intro w hSw; go_simp) <;> with_reducible rfl)); (try simp only [Act.put, List.setIfInBounds_toArray, List.set_cons_zero, List.set_cons_succ]))
      (refine wpAnyH_take (i := 8) (oi := ?oi_7) (v := ?v_7) ?ho_7 ?hs_7 ?hf_7 ?hr_7 ?hQ_7 ?hy_7 ?hS_7 ?rest_7; (case hr_7 => kernel_rfl); (case hf_7 => kernel_rfl); (case hs_7 => kernel_rfl); (case ho_7 => (simp only [List.getElem?_toArray, List.getElem?_cons_succ, List.getElem?_cons_zero]; rfl)); (case hS_7 => exact trivial); (case hQ_7 => exact fun _ _ _ h => h); (case hy_7 => (refine Or.inl ⟨by rfl, ?_⟩; (intro w hSw; go_simp) <;> with_reducible rfl)); (try simp only [Act.put, List.setIfInBounds_toArray, List.set_cons_zero, List.set_cons_succ]))
      (refine wpAnyH_take (i := 9) (oi := ?oi_8) (v := ?v_8) ?ho_8 ?hs_8 ?hf_8 ?hr_8 ?hQ_8 ?hy_8 ?hS_8 ?rest_8; (case hr_8 => kernel_rfl); (case hf_8 => kernel_rfl); (case hs_8 => kernel_rfl); (case ho_8 => (simp only [List.getElem?_toArray, List.getElem?_cons_succ, List.getElem?_cons_zero]; rfl)); (case hS_8 => exact trivial); (case hQ_8 => exact fun _ _ _ h => h); (case hy_8 => (refine Or.inl ⟨by rfl, ?_⟩; (intro w hSw; go_simp) <;> with_reducible rfl)); (try simp only [Act.put, List.setIfInBounds_toArray, List.set_cons_zero, List.set_cons_succ]))
      (refine wpAnyH_take (i := 10) (oi := ?oi_9) (v := ?v_9) ?ho_9 ?hs_9 ?hf_9 ?hr_9 ?hQ_9 ?hy_9 ?hS_9 ?rest_9; (case hr_9 => kernel_rfl); (case hf_9 => kernel_rfl); (case hs_9 => kernel_rfl); (case ho_9 => (simp only [List.getElem?_toArray, List.getElem?_cons_succ, List.getElem?_cons_zero]; rfl)); (case hS_9 => exact trivial); (case hQ_9 => exact fun _ _ _ h => h); (case hy_9 => (refine Or.inl ⟨by rfl, ?_⟩; (intro w hSw; go_simp) <;> with_reducible rfl)); (try simp only [Act.put, List.setIfInBounds_toArray, List.set_cons_zero, List.set_cons_succ]))
      (refine wpAnyH_take (i := 11) (oi := ?oi_10) (v := ?v_10) ?ho_10 ?hs_10 ?hf_10 ?hr_10 ?hQ_10 ?hy_10 ?hS_10 ?rest_10; (case hr_10 => kernel_rfl); (case hf_10 => kernel_rfl); (case hs_10 => kernel_rfl); (case ho_10 => (simp only [List.getElem?_toArray, List.getElem?_cons_succ, List.getElem?_cons_zero]; rfl)); (case hS_10 => exact trivial); (case hQ_10 => exact fun _ _ _ h => h); (case hy_10 => (refine Or.inl ⟨by rfl, ?_⟩; (intro w hSw; go_simp) <;> with_reducible rfl)); (try simp only [Act.put, List.setIfInBounds_toArray, List.set_cons_zero, List.set_cons_succ]))
      (refine wpAnyH_take (i := 12) (oi := ?oi_11) (v := ?v_11) ?ho_11 ?hs_11 ?hf_11 ?hr_11 ?hQ_11 ?hy_11 ?hS_11 ?rest_11; (case hr_11 => kernel_rfl); (case hf_11 => kernel_rfl); (case hs_11 => kernel_rfl); (case ho_11 => (simp only [List.getElem?_toArray, List.getElem?_cons_succ, List.getElem?_cons_zero]; rfl)); (case hS_11 => exact trivial); (case hQ_11 => exact fun _ _ _ h => h); (case hy_11 => (refine Or.inl ⟨by rfl, ?_⟩; (intro w hSw; go_simp) <;> with_reducible rfl)); (try simp only [Act.put, List.setIfInBounds_toArray, List.set_cons_zero, List.set_cons_succ]))
      (refine wpAnyH_take (i := 13) (oi := ?oi_12) (v := ?v_12) ?ho_12 ?hs_12 ?hf_12 ?hr_12 ?hQ_12 ?hy_12 ?hS_12 ?rest_12; (case hr_12 => kernel_rfl); (case hf_12 => kernel_rfl); (case hs_12 => kernel_rfl); (case ho_12 => (simp only [List.getElem?_toArray, List.getElem?_cons_succ, List.getElem?_cons_zero]; rfl)); (case hS_12 => exact trivial); (case hQ_12 => exact fun _ _ _ h => h); (case hy_12 => (refine Or.inl ⟨by rfl, ?_⟩; (intro w hSw; go_simp) <;> with_reducible rfl)); (try simp only [Act.put, List.setIfInBounds_toArray, List.set_cons_zero, List.set_cons_succ]))
      (refine wpAnyH_take (i := 14) (oi := ?oi_13) (v := ?v_13) ?ho_13 ?hs_13 ?hf_13 ?hr_13 ?hQ_13 ?hy_13 ?hS_13 ?rest_13; (case hr_13 => kernel_rfl); (case hf_13 => kernel_rfl); (case hs_13 => kernel_rfl); (case ho_13 => (simp only [List.getElem?_toArray, List.getElem?_cons_succ, List.getElem?_cons_zero]; rfl)); (case hS_13 => exact trivial); (case hQ_13 => exact fun _ _ _ h => h); (case hy_13 => (refine Or.inl ⟨by rfl, ?_⟩; (intro w hSw; go_simp) <;> with_reducible rfl)); (try simp only [Act.put, List.setIfInBounds_toArray, List.set_cons_zero, List.set_cons_succ]))
      (refine wpAnyH_take (i := 15) (oi := ?oi_14) (v := ?v_14) ?ho_14 ?hs_14 ?hf_14 ?hr_14 ?hQ_14 ?hy_14 ?hS_14 ?rest_14; (case hr_14 => kernel_rfl); (case hf_14 => kernel_rfl); (case hs_14 => kernel_rfl); (case ho_14 => (simp only [List.getElem?_toArray, List.getElem?_cons_succ, List.getElem?_cons_zero]; rfl)); (case hS_14 => exact trivial); (case hQ_14 => exact fun _ _ _ h => h); (case hy_14 => (refine Or.inl ⟨by rfl, ?_⟩; (intro w hSw; go_simp) <;> with_reducible rfl)); (try simp only [Act.put, List.setIfInBounds_toArray, List.set_cons_zero, List.set_cons_succ]))
      (refine wpAnyH_take (i := 16) (oi := ?oi_15) (v := ?v_15) ?ho_15 ?hs_15 ?hf_15 ?hr_15 ?hQ_15 ?hy_15 ?hS_15 ?rest_15; (case hr_15 => kernel_rfl); (case hf_15 => kernel_rfl); (case hs_15 => kernel_rfl); (case ho_15 => (simp only [List.getElem?_toArray, List.getElem?_cons_succ, List.getElem?_cons_zero]; rfl)); (case hS_15 => exact trivial); (case hQ_15 => exact fun _ _ _ h => h); (case hy_15 => (refine Or.inl ⟨by rfl, ?_⟩; (intro w hSw; go_simp) <;> with_reducible rfl)); (try simp only [Act.put, List.setIfInBounds_toArray, List.set_cons_zero, List.set_cons_succ]))
      refine wpAnyH_ready (rs := [1, 18]) (by kernel_rfl) (by simp) ?_
      refine AllReadyH.cons (o := ?ooy16_0) ?hoy16_0 ?hsy16_0 (AllReadyH.cons (o := ?ooy16_1) ?hoy16_1 ?hsy16_1 AllReadyH.nil)
      case hoy16_0 => (simp only [List.getElem?_toArray, List.getElem?_cons_succ, List.getElem?_cons_zero]; rfl)
      case hoy16_1 => (simp only [List.getElem?_toArray, List.getElem?_cons_succ, List.getElem?_cons_zero]; rfl)
      case hsy16_0 =>
        intro K hK; go_simp; go_at_call 36; refine (c2.out _).mono ?_; rintro en w3 ⟨rfl, rfl⟩
        try go_wp2_with fail
        refine hK.out _ _ trivial (fun hHeld => ?_)
        clear hK K
        try simp only [Act.put, List.setIfInBounds_toArray, List.set_cons_zero, List.set_cons_succ]
        refine wpAnyH_ready (rs := [3, 18]) (by kernel_rfl) (by simp) ?_
        refine AllReadyH.cons (o := ?ooy17_0) ?hoy17_0 ?hsy17_0 (AllReadyH.cons (o := ?ooy17_1) ?hoy17_1 ?hsy17_1 AllReadyH.nil)
        case hoy17_0 => (simp only [List.getElem?_toArray, List.getElem?_cons_succ, List.getElem?_cons_zero]; rfl)
        case hoy17_1 => (simp only [List.getElem?_toArray, List.getElem?_cons_succ, List.getElem?_cons_zero]; rfl)
        case hsy17_0 =>
          intro K hK; go_simp; go_at_call 36; refine (c3.out _).mono ?_; rintro en w3 ⟨rfl, rfl⟩
          try go_wp2_with fail
          refine hK.out _ _ trivial (fun hHeld => ?_)
          clear hK K
          try simp only [Act.put, List.setIfInBounds_toArray, List.set_cons_zero, List.set_cons_succ]
          (refine wpAnyH_take (i := 17) (oi := ?oi_18) (v := ?v_18) ?ho_18 ?hs_18 ?hf_18 ?hr_18 ?hQ_18 ?hy_18 ?hS_18 ?rest_18; (case hr_18 => kernel_rfl); (case hf_18 => kernel_rfl); (case hs_18 => kernel_rfl); (case ho_18 => (simp only [List.getElem?_toArray, List.getElem?_cons_succ, List.getElem?_cons_zero]; rfl)); (case hS_18 => exact trivial); (case hQ_18 => exact fun _ _ _ h => h); (case hy_18 => (refine Or.inl ⟨by rfl, ?_⟩; (intro w hSw; go_simp) <;> with_reducible rfl)); (try simp only [Act.put, List.setIfInBounds_toArray, List.set_cons_zero, List.set_cons_succ]))
          refine wpAnyH_ready (rs := [18]) (by kernel_rfl) (by simp) ?_
          refine AllReadyH.cons (o := ?ooy19_0) ?hoy19_0 ?hsy19_0 AllReadyH.nil
          case hoy19_0 => (simp only [List.getElem?_toArray, List.getElem?_cons_succ, List.getElem?_cons_zero]; rfl)
          case hsy19_0 =>
            intro K hK; go_simp
            try go_wp2_with fail
            refine hK.out _ _ trivial (fun hHeld => ?_)
            clear hK K
            try simp only [Act.put, List.setIfInBounds_toArray, List.set_cons_zero, List.set_cons_succ]
            refine wpAnyH_ready (rs := [19]) (by kernel_rfl) (by simp) ?_
            refine AllReadyH.cons (o := ?oox20) ?hox20 ?hsx20 AllReadyH.nil
            case hox20 => (simp only [List.getElem?_toArray, List.getElem?_cons_succ, List.getElem?_cons_zero]; rfl)
            case hsx20 =>
              intro K hK; go_simp
              try go_wp2_with fail
              refine hK.out _ _ trivial (fun hHeld => ?_)
              clear hK K
              try simp only [Act.put, List.setIfInBounds_toArray, List.set_cons_zero, List.set_cons_succ]
              refine wpAnyH_done (by kernel_rfl) ?_ _
              rw [flgN_is (by omega), flg_f, flg_l _ hfl]
              have hx : slotOf b = ⟨wrap64 (numL (pf b 2 4)), wrap64 (numL (pf b 6 8)), decide (flgN b % 2 = 1), decide (flgN b / 2 % 2 = 1), (b.drop 16).take n⟩ := by unfold slotOf pf; rw [hnn]
              replace hx := Lib.hid hx
              clear c1 c2 c3 hsl hw16 hn0
              obtain ⟨e, he⟩ : ∃ e, wrap64 (numL (pf b 2 4)) = e := ⟨_, rfl⟩
              obtain ⟨q, hq⟩ : ∃ q, wrap64 (numL (pf b 6 8)) = q := ⟨_, rfl⟩
              obtain ⟨f, hf⟩ : ∃ f, decide (flgN b % 2 = 1) = f := ⟨_, rfl⟩
              obtain ⟨l, hll⟩ : ∃ l, decide (flgN b / 2 % 2 = 1) = l := ⟨_, rfl⟩
              obtain ⟨d, hdd⟩ : ∃ d, (b.drop 16).take n = d := ⟨_, rfl⟩
              simp only [he, hq, hf, hll, hdd] at hx ⊢
              clear he hq hf hll hdd
              have hX : ((w.alloc (.cells #[.int .i64 0, .int .i64 0, .bool false, .bool false, .string ⟨#[]⟩] 41)).alloc (.cells #[.int .i64 e, .int .i64 q, .bool f, .bool l, .string ⟨d.toArray⟩] 41)).drew.heap[w.heap.size]? = some (.cells #[.int .i64 0, .int .i64 0, .bool false, .bool false, .string ⟨#[]⟩] 41) := heap_alloc2_old w _ _
              have hY : ((w.alloc (.cells #[.int .i64 0, .int .i64 0, .bool false, .bool false, .string ⟨#[]⟩] 41)).alloc (.cells #[.int .i64 e, .int .i64 q, .bool f, .bool l, .string ⟨d.toArray⟩] 41)).drew.heap[w.heap.size + 1]? = some (.cells #[.int .i64 e, .int .i64 q, .bool f, .bool l, .string ⟨d.toArray⟩] 41) := heap_alloc2_new w _ _
              have hU2 : Upd Non w ((w.alloc (.cells #[.int .i64 0, .int .i64 0, .bool false, .bool false, .string ⟨#[]⟩] 41)).alloc (.cells #[.int .i64 e, .int .i64 q, .bool f, .bool l, .string ⟨d.toArray⟩] 41)).drew := by (repeat (first | (with_reducible exact Upd.refl _ _) | (with_reducible assumption) | (with_reducible refine Upd.then_drew ?_) | (with_reducible refine Upd.then_drewN ?_ _) | (with_reducible refine Upd.then_alloc ?_ _) | (with_reducible refine Upd.then_setCell ?_ (fun h => absurd h (by simp <;> omega)) _) | (with_reducible refine Upd.trans ?_ (Upd.non (by assumption)) (fun _ _ h => h))))
              generalize ((w.alloc (.cells #[.int .i64 0, .int .i64 0, .bool false, .bool false, .string ⟨#[]⟩] 41)).alloc (.cells #[.int .i64 e, .int .i64 q, .bool f, .bool l, .string ⟨d.toArray⟩] 41)).drew = w2 at hX hY hU2 ⊢
              have y0 := (cells_of hY).1 0
              have y1 := (cells_of hY).1 1
              have y2 := (cells_of hY).1 2
              have y3 := (cells_of hY).1 3
              have y4 := (cells_of hY).1 4
              have cR := Lib.hid (fun w => refRight ⟨e, q, f, l, d⟩ w)
              cases hR : rightS ⟨e, q, f, l, d⟩ with
              | false =>
                have hro : readS b = (slot0, 4) := by unfold readS; rw [hx.out, hR, if_neg (fun h => by simp at h)]
                rw [hR] at cR
                replace hro := Lib.hid hro
                clear hR
                go_wp2_with fail
                refine (cR.out _).mono ?_
                rintro en w3 ⟨rfl, hu3⟩
                have hX := hu3.heap hX fun h => h
                have hU3 := hU2.trans hu3 fun _ _ h => h
                obtain ⟨hx', hz'⟩ := cells_of hX
                have x0 := hx' 0
                have x1 := hx' 1
                have x2 := hx' 2
                have x3 := hx' 3
                have x4 := hx' 4
                have z0 := hz' 0
                have z1 := hz' 1
                have z2 := hz' 2
                have z3 := hz' 3
                have z4 := hz' 4
                clear hu3 hx' hz'
                go_wp2_with fail
                rw [hro.out]
                obtain ⟨hr, hU4⟩ := set5 hX hU3 (Nat.le_refl _) (.int .i64 0) (.int .i64 0) (.bool false) (.bool false) (.string ⟨#[]⟩)
                refine bodyPost_ret (v := .tuple #[slot0.v, .int .i64 4]) (by simp [results, Try.results19, go_sem, hr 0, hr 1, hr 2, hr 3, hr 4, slot0]; try rfl) rfl ⟨rfl, hU4⟩
              | true =>
                have cP := Lib.hid (fun w => refPut ⟨e, q, f, l, d⟩ w hR)
                rw [hR] at cR
                obtain ⟨B, hB⟩ : ∃ B, slotB ⟨e, q, f, l, d⟩ = B := ⟨_, rfl⟩
                rw [hB] at cP
                have hro : readS b = if B = b then (⟨e, q, f, l, d⟩, 0) else (slot0, 4) := by
                  unfold readS
                  rw [hx.out, hR, hB, hnn]
                  by_cases h : B = b
                  · rw [if_pos h, if_pos ⟨hlH.out, hd, rfl, h⟩]
                  · rw [if_neg h, if_neg fun h' => h h'.2.2.2]
                replace hro := Lib.hid hro
                clear hR hB
                go_wp2_with fail
                refine (cR.out _).mono ?_
                rintro en w3 ⟨rfl, hu3⟩
                have hX := hu3.heap hX fun h => h
                have hY := hu3.heap hY fun h => h
                have hU3 := hU2.trans hu3 fun _ _ h => h
                have y0 := (cells_of hY).1 0
                have y1 := (cells_of hY).1 1
                have y2 := (cells_of hY).1 2
                have y3 := (cells_of hY).1 3
                have y4 := (cells_of hY).1 4
                clear hu3
                go_wp2_with fail
                refine (cP.out _).mono ?_
                rintro en w4 ⟨rfl, hu4⟩
                have hX := hu4.heap hX fun h => h
                have hY := hu4.heap hY fun h => h
                have hU4 := hU3.trans hu4 fun _ _ h => h
                clear hu4
                obtain ⟨hx', hz'⟩ := cells_of hX
                have x0 := hx' 0
                have x1 := hx' 1
                have x2 := hx' 2
                have x3 := hx' 3
                have x4 := hx' 4
                have z0 := hz' 0
                have z1 := hz' 1
                have z2 := hz' 2
                have z3 := hz' 3
                have z4 := hz' 4
                have y0 := (cells_of hY).1 0
                have y1 := (cells_of hY).1 1
                have y2 := (cells_of hY).1 2
                have y3 := (cells_of hY).1 3
                have y4 := (cells_of hY).1 4
                clear hx' hz'
                by_cases hBb : B = b
                · have hb1 : (!(B == b)) = false := by simp [hBb]
                  go_wp2_with fail
                  obtain ⟨hr, hU5⟩ := set5 hX hU4 (Nat.le_refl _) (.int .i64 e) (.int .i64 q) (.bool f) (.bool l) (.string ⟨d.toArray⟩)
                  rw [hro.out, if_pos hBb]
                  refine bodyPost_ret (v := .tuple #[S5.v ⟨e, q, f, l, d⟩, .int .i64 0]) (by simp [results, Try.results19, go_sem, hr 0, hr 1, hr 2, hr 3, hr 4]; try rfl) rfl ⟨rfl, hU5⟩
                · have hb1 : (!(B == b)) = true := by simp [hBb]
                  go_wp2_with fail
                  obtain ⟨hr, hU5⟩ := set5 hX hU4 (Nat.le_refl _) (.int .i64 0) (.int .i64 0) (.bool false) (.bool false) (.string ⟨#[]⟩)
                  rw [hro.out, if_neg hBb]
                  refine bodyPost_ret (v := .tuple #[slot0.v, .int .i64 4]) (by simp [results, Try.results19, go_sem, hr 0, hr 1, hr 2, hr 3, hr 4, slot0]; try rfl) rfl ⟨rfl, hU5⟩
        case hsy17_1 =>
          intro K hK; go_simp
          try go_wp2_with fail
          refine hK.out _ _ trivial (fun hHeld => ?_)
          clear hK K
          try simp only [Act.put, List.setIfInBounds_toArray, List.set_cons_zero, List.set_cons_succ]
          refine wpAnyH_ready (rs := [3]) (by kernel_rfl) (by simp) ?_
          refine AllReadyH.cons (o := ?ooy21_0) ?hoy21_0 ?hsy21_0 AllReadyH.nil
          case hoy21_0 => (simp only [List.getElem?_toArray, List.getElem?_cons_succ, List.getElem?_cons_zero]; rfl)
          case hsy21_0 =>
            intro K hK; go_simp; go_at_call 36; refine (c3.out _).mono ?_; rintro en w3 ⟨rfl, rfl⟩
            try go_wp2_with fail
            refine hK.out _ _ trivial (fun hHeld => ?_)
            clear hK K
            try simp only [Act.put, List.setIfInBounds_toArray, List.set_cons_zero, List.set_cons_succ]
            (refine wpAnyH_take (i := 17) (oi := ?oi_22) (v := ?v_22) ?ho_22 ?hs_22 ?hf_22 ?hr_22 ?hQ_22 ?hy_22 ?hS_22 ?rest_22; (case hr_22 => kernel_rfl); (case hf_22 => kernel_rfl); (case hs_22 => kernel_rfl); (case ho_22 => (simp only [List.getElem?_toArray, List.getElem?_cons_succ, List.getElem?_cons_zero]; rfl)); (case hS_22 => exact trivial); (case hQ_22 => exact fun _ _ _ h => h); (case hy_22 => (refine Or.inl ⟨by rfl, ?_⟩; (intro w hSw; go_simp) <;> with_reducible rfl)); (try simp only [Act.put, List.setIfInBounds_toArray, List.set_cons_zero, List.set_cons_succ]))
            refine wpAnyH_ready (rs := [19]) (by kernel_rfl) (by simp) ?_
            refine AllReadyH.cons (o := ?oox23) ?hox23 ?hsx23 AllReadyH.nil
            case hox23 => (simp only [List.getElem?_toArray, List.getElem?_cons_succ, List.getElem?_cons_zero]; rfl)
            case hsx23 =>
              intro K hK; go_simp
              try go_wp2_with fail
              refine hK.out _ _ trivial (fun hHeld => ?_)
              clear hK K
              try simp only [Act.put, List.setIfInBounds_toArray, List.set_cons_zero, List.set_cons_succ]
              refine wpAnyH_done (by kernel_rfl) ?_ _
              rw [flgN_is (by omega), flg_f, flg_l _ hfl]
              have hx : slotOf b = ⟨wrap64 (numL (pf b 2 4)), wrap64 (numL (pf b 6 8)), decide (flgN b % 2 = 1), decide (flgN b / 2 % 2 = 1), (b.drop 16).take n⟩ := by unfold slotOf pf; rw [hnn]
              replace hx := Lib.hid hx
              clear c1 c2 c3 hsl hw16 hn0
              obtain ⟨e, he⟩ : ∃ e, wrap64 (numL (pf b 2 4)) = e := ⟨_, rfl⟩
              obtain ⟨q, hq⟩ : ∃ q, wrap64 (numL (pf b 6 8)) = q := ⟨_, rfl⟩
              obtain ⟨f, hf⟩ : ∃ f, decide (flgN b % 2 = 1) = f := ⟨_, rfl⟩
              obtain ⟨l, hll⟩ : ∃ l, decide (flgN b / 2 % 2 = 1) = l := ⟨_, rfl⟩
              obtain ⟨d, hdd⟩ : ∃ d, (b.drop 16).take n = d := ⟨_, rfl⟩
              simp only [he, hq, hf, hll, hdd] at hx ⊢
              clear he hq hf hll hdd
              have hX : ((w.alloc (.cells #[.int .i64 0, .int .i64 0, .bool false, .bool false, .string ⟨#[]⟩] 41)).alloc (.cells #[.int .i64 e, .int .i64 q, .bool f, .bool l, .string ⟨d.toArray⟩] 41)).drew.heap[w.heap.size]? = some (.cells #[.int .i64 0, .int .i64 0, .bool false, .bool false, .string ⟨#[]⟩] 41) := heap_alloc2_old w _ _
              have hY : ((w.alloc (.cells #[.int .i64 0, .int .i64 0, .bool false, .bool false, .string ⟨#[]⟩] 41)).alloc (.cells #[.int .i64 e, .int .i64 q, .bool f, .bool l, .string ⟨d.toArray⟩] 41)).drew.heap[w.heap.size + 1]? = some (.cells #[.int .i64 e, .int .i64 q, .bool f, .bool l, .string ⟨d.toArray⟩] 41) := heap_alloc2_new w _ _
              have hU2 : Upd Non w ((w.alloc (.cells #[.int .i64 0, .int .i64 0, .bool false, .bool false, .string ⟨#[]⟩] 41)).alloc (.cells #[.int .i64 e, .int .i64 q, .bool f, .bool l, .string ⟨d.toArray⟩] 41)).drew := by (repeat (first | (with_reducible exact Upd.refl _ _) | (with_reducible assumption) | (with_reducible refine Upd.then_drew ?_) | (with_reducible refine Upd.then_drewN ?_ _) | (with_reducible refine Upd.then_alloc ?_ _) | (with_reducible refine Upd.then_setCell ?_ (fun h => absurd h (by simp <;> omega)) _) | (with_reducible refine Upd.trans ?_ (Upd.non (by assumption)) (fun _ _ h => h))))
              generalize ((w.alloc (.cells #[.int .i64 0, .int .i64 0, .bool false, .bool false, .string ⟨#[]⟩] 41)).alloc (.cells #[.int .i64 e, .int .i64 q, .bool f, .bool l, .string ⟨d.toArray⟩] 41)).drew = w2 at hX hY hU2 ⊢
              have y0 := (cells_of hY).1 0
              have y1 := (cells_of hY).1 1
              have y2 := (cells_of hY).1 2
              have y3 := (cells_of hY).1 3
              have y4 := (cells_of hY).1 4
              have cR := Lib.hid (fun w => refRight ⟨e, q, f, l, d⟩ w)
              cases hR : rightS ⟨e, q, f, l, d⟩ with
              | false =>
                have hro : readS b = (slot0, 4) := by unfold readS; rw [hx.out, hR, if_neg (fun h => by simp at h)]
                rw [hR] at cR
                replace hro := Lib.hid hro
                clear hR
                go_wp2_with fail
                refine (cR.out _).mono ?_
                rintro en w3 ⟨rfl, hu3⟩
                have hX := hu3.heap hX fun h => h
                have hU3 := hU2.trans hu3 fun _ _ h => h
                obtain ⟨hx', hz'⟩ := cells_of hX
                have x0 := hx' 0
                have x1 := hx' 1
                have x2 := hx' 2
                have x3 := hx' 3
                have x4 := hx' 4
                have z0 := hz' 0
                have z1 := hz' 1
                have z2 := hz' 2
                have z3 := hz' 3
                have z4 := hz' 4
                clear hu3 hx' hz'
                go_wp2_with fail
                rw [hro.out]
                obtain ⟨hr, hU4⟩ := set5 hX hU3 (Nat.le_refl _) (.int .i64 0) (.int .i64 0) (.bool false) (.bool false) (.string ⟨#[]⟩)
                refine bodyPost_ret (v := .tuple #[slot0.v, .int .i64 4]) (by simp [results, Try.results19, go_sem, hr 0, hr 1, hr 2, hr 3, hr 4, slot0]; try rfl) rfl ⟨rfl, hU4⟩
              | true =>
                have cP := Lib.hid (fun w => refPut ⟨e, q, f, l, d⟩ w hR)
                rw [hR] at cR
                obtain ⟨B, hB⟩ : ∃ B, slotB ⟨e, q, f, l, d⟩ = B := ⟨_, rfl⟩
                rw [hB] at cP
                have hro : readS b = if B = b then (⟨e, q, f, l, d⟩, 0) else (slot0, 4) := by
                  unfold readS
                  rw [hx.out, hR, hB, hnn]
                  by_cases h : B = b
                  · rw [if_pos h, if_pos ⟨hlH.out, hd, rfl, h⟩]
                  · rw [if_neg h, if_neg fun h' => h h'.2.2.2]
                replace hro := Lib.hid hro
                clear hR hB
                go_wp2_with fail
                refine (cR.out _).mono ?_
                rintro en w3 ⟨rfl, hu3⟩
                have hX := hu3.heap hX fun h => h
                have hY := hu3.heap hY fun h => h
                have hU3 := hU2.trans hu3 fun _ _ h => h
                have y0 := (cells_of hY).1 0
                have y1 := (cells_of hY).1 1
                have y2 := (cells_of hY).1 2
                have y3 := (cells_of hY).1 3
                have y4 := (cells_of hY).1 4
                clear hu3
                go_wp2_with fail
                refine (cP.out _).mono ?_
                rintro en w4 ⟨rfl, hu4⟩
                have hX := hu4.heap hX fun h => h
                have hY := hu4.heap hY fun h => h
                have hU4 := hU3.trans hu4 fun _ _ h => h
                clear hu4
                obtain ⟨hx', hz'⟩ := cells_of hX
                have x0 := hx' 0
                have x1 := hx' 1
                have x2 := hx' 2
                have x3 := hx' 3
                have x4 := hx' 4
                have z0 := hz' 0
                have z1 := hz' 1
                have z2 := hz' 2
                have z3 := hz' 3
                have z4 := hz' 4
                have y0 := (cells_of hY).1 0
                have y1 := (cells_of hY).1 1
                have y2 := (cells_of hY).1 2
                have y3 := (cells_of hY).1 3
                have y4 := (cells_of hY).1 4
                clear hx' hz'
                by_cases hBb : B = b
                · have hb1 : (!(B == b)) = false := by simp [hBb]
                  go_wp2_with fail
                  obtain ⟨hr, hU5⟩ := set5 hX hU4 (Nat.le_refl _) (.int .i64 e) (.int .i64 q) (.bool f) (.bool l) (.string ⟨d.toArray⟩)
                  rw [hro.out, if_pos hBb]
                  refine bodyPost_ret (v := .tuple #[S5.v ⟨e, q, f, l, d⟩, .int .i64 0]) (by simp [results, Try.results19, go_sem, hr 0, hr 1, hr 2, hr 3, hr 4]; try rfl) rfl ⟨rfl, hU5⟩
                · have hb1 : (!(B == b)) = true := by simp [hBb]
                  go_wp2_with fail
                  obtain ⟨hr, hU5⟩ := set5 hX hU4 (Nat.le_refl _) (.int .i64 0) (.int .i64 0) (.bool false) (.bool false) (.string ⟨#[]⟩)
                  rw [hro.out, if_neg hBb]
                  refine bodyPost_ret (v := .tuple #[slot0.v, .int .i64 4]) (by simp [results, Try.results19, go_sem, hr 0, hr 1, hr 2, hr 3, hr 4, slot0]; try rfl) rfl ⟨rfl, hU5⟩
      case hsy16_1 =>
        intro K hK; go_simp
        try go_wp2_with fail
        refine hK.out _ _ trivial (fun hHeld => ?_)
        clear hK K
        try simp only [Act.put, List.setIfInBounds_toArray, List.set_cons_zero, List.set_cons_succ]
        refine wpAnyH_ready (rs := [1]) (by kernel_rfl) (by simp) ?_
        refine AllReadyH.cons (o := ?ooy24_0) ?hoy24_0 ?hsy24_0 AllReadyH.nil
        case hoy24_0 => (simp only [List.getElem?_toArray, List.getElem?_cons_succ, List.getElem?_cons_zero]; rfl)
        case hsy24_0 =>
          intro K hK; go_simp; go_at_call 36; refine (c2.out _).mono ?_; rintro en w3 ⟨rfl, rfl⟩
          try go_wp2_with fail
          refine hK.out _ _ trivial (fun hHeld => ?_)
          clear hK K
          try simp only [Act.put, List.setIfInBounds_toArray, List.set_cons_zero, List.set_cons_succ]
          refine wpAnyH_ready (rs := [3]) (by kernel_rfl) (by simp) ?_
          refine AllReadyH.cons (o := ?ooy25_0) ?hoy25_0 ?hsy25_0 AllReadyH.nil
          case hoy25_0 => (simp only [List.getElem?_toArray, List.getElem?_cons_succ, List.getElem?_cons_zero]; rfl)
          case hsy25_0 =>
            intro K hK; go_simp; go_at_call 36; refine (c3.out _).mono ?_; rintro en w3 ⟨rfl, rfl⟩
            try go_wp2_with fail
            refine hK.out _ _ trivial (fun hHeld => ?_)
            clear hK K
            try simp only [Act.put, List.setIfInBounds_toArray, List.set_cons_zero, List.set_cons_succ]
            (refine wpAnyH_take (i := 17) (oi := ?oi_26) (v := ?v_26) ?ho_26 ?hs_26 ?hf_26 ?hr_26 ?hQ_26 ?hy_26 ?hS_26 ?rest_26; (case hr_26 => kernel_rfl); (case hf_26 => kernel_rfl); (case hs_26 => kernel_rfl); (case ho_26 => (simp only [List.getElem?_toArray, List.getElem?_cons_succ, List.getElem?_cons_zero]; rfl)); (case hS_26 => exact trivial); (case hQ_26 => exact fun _ _ _ h => h); (case hy_26 => (refine Or.inl ⟨by rfl, ?_⟩; (intro w hSw; go_simp) <;> with_reducible rfl)); (try simp only [Act.put, List.setIfInBounds_toArray, List.set_cons_zero, List.set_cons_succ]))
            refine wpAnyH_ready (rs := [19]) (by kernel_rfl) (by simp) ?_
            refine AllReadyH.cons (o := ?oox27) ?hox27 ?hsx27 AllReadyH.nil
            case hox27 => (simp only [List.getElem?_toArray, List.getElem?_cons_succ, List.getElem?_cons_zero]; rfl)
            case hsx27 =>
              intro K hK; go_simp
              try go_wp2_with fail
              refine hK.out _ _ trivial (fun hHeld => ?_)
              clear hK K
              try simp only [Act.put, List.setIfInBounds_toArray, List.set_cons_zero, List.set_cons_succ]
              refine wpAnyH_done (by kernel_rfl) ?_ _
              rw [flgN_is (by omega), flg_f, flg_l _ hfl]
              have hx : slotOf b = ⟨wrap64 (numL (pf b 2 4)), wrap64 (numL (pf b 6 8)), decide (flgN b % 2 = 1), decide (flgN b / 2 % 2 = 1), (b.drop 16).take n⟩ := by unfold slotOf pf; rw [hnn]
              replace hx := Lib.hid hx
              clear c1 c2 c3 hsl hw16 hn0
              obtain ⟨e, he⟩ : ∃ e, wrap64 (numL (pf b 2 4)) = e := ⟨_, rfl⟩
              obtain ⟨q, hq⟩ : ∃ q, wrap64 (numL (pf b 6 8)) = q := ⟨_, rfl⟩
              obtain ⟨f, hf⟩ : ∃ f, decide (flgN b % 2 = 1) = f := ⟨_, rfl⟩
              obtain ⟨l, hll⟩ : ∃ l, decide (flgN b / 2 % 2 = 1) = l := ⟨_, rfl⟩
              obtain ⟨d, hdd⟩ : ∃ d, (b.drop 16).take n = d := ⟨_, rfl⟩
              simp only [he, hq, hf, hll, hdd] at hx ⊢
              clear he hq hf hll hdd
              have hX : ((w.alloc (.cells #[.int .i64 0, .int .i64 0, .bool false, .bool false, .string ⟨#[]⟩] 41)).alloc (.cells #[.int .i64 e, .int .i64 q, .bool f, .bool l, .string ⟨d.toArray⟩] 41)).drew.heap[w.heap.size]? = some (.cells #[.int .i64 0, .int .i64 0, .bool false, .bool false, .string ⟨#[]⟩] 41) := heap_alloc2_old w _ _
              have hY : ((w.alloc (.cells #[.int .i64 0, .int .i64 0, .bool false, .bool false, .string ⟨#[]⟩] 41)).alloc (.cells #[.int .i64 e, .int .i64 q, .bool f, .bool l, .string ⟨d.toArray⟩] 41)).drew.heap[w.heap.size + 1]? = some (.cells #[.int .i64 e, .int .i64 q, .bool f, .bool l, .string ⟨d.toArray⟩] 41) := heap_alloc2_new w _ _
              have hU2 : Upd Non w ((w.alloc (.cells #[.int .i64 0, .int .i64 0, .bool false, .bool false, .string ⟨#[]⟩] 41)).alloc (.cells #[.int .i64 e, .int .i64 q, .bool f, .bool l, .string ⟨d.toArray⟩] 41)).drew := by (repeat (first | (with_reducible exact Upd.refl _ _) | (with_reducible assumption) | (with_reducible refine Upd.then_drew ?_) | (with_reducible refine Upd.then_drewN ?_ _) | (with_reducible refine Upd.then_alloc ?_ _) | (with_reducible refine Upd.then_setCell ?_ (fun h => absurd h (by simp <;> omega)) _) | (with_reducible refine Upd.trans ?_ (Upd.non (by assumption)) (fun _ _ h => h))))
              generalize ((w.alloc (.cells #[.int .i64 0, .int .i64 0, .bool false, .bool false, .string ⟨#[]⟩] 41)).alloc (.cells #[.int .i64 e, .int .i64 q, .bool f, .bool l, .string ⟨d.toArray⟩] 41)).drew = w2 at hX hY hU2 ⊢
              have y0 := (cells_of hY).1 0
              have y1 := (cells_of hY).1 1
              have y2 := (cells_of hY).1 2
              have y3 := (cells_of hY).1 3
              have y4 := (cells_of hY).1 4
              have cR := Lib.hid (fun w => refRight ⟨e, q, f, l, d⟩ w)
              cases hR : rightS ⟨e, q, f, l, d⟩ with
              | false =>
                have hro : readS b = (slot0, 4) := by unfold readS; rw [hx.out, hR, if_neg (fun h => by simp at h)]
                rw [hR] at cR
                replace hro := Lib.hid hro
                clear hR
                go_wp2_with fail
                refine (cR.out _).mono ?_
                rintro en w3 ⟨rfl, hu3⟩
                have hX := hu3.heap hX fun h => h
                have hU3 := hU2.trans hu3 fun _ _ h => h
                obtain ⟨hx', hz'⟩ := cells_of hX
                have x0 := hx' 0
                have x1 := hx' 1
                have x2 := hx' 2
                have x3 := hx' 3
                have x4 := hx' 4
                have z0 := hz' 0
                have z1 := hz' 1
                have z2 := hz' 2
                have z3 := hz' 3
                have z4 := hz' 4
                clear hu3 hx' hz'
                go_wp2_with fail
                rw [hro.out]
                obtain ⟨hr, hU4⟩ := set5 hX hU3 (Nat.le_refl _) (.int .i64 0) (.int .i64 0) (.bool false) (.bool false) (.string ⟨#[]⟩)
                refine bodyPost_ret (v := .tuple #[slot0.v, .int .i64 4]) (by simp [results, Try.results19, go_sem, hr 0, hr 1, hr 2, hr 3, hr 4, slot0]; try rfl) rfl ⟨rfl, hU4⟩
              | true =>
                have cP := Lib.hid (fun w => refPut ⟨e, q, f, l, d⟩ w hR)
                rw [hR] at cR
                obtain ⟨B, hB⟩ : ∃ B, slotB ⟨e, q, f, l, d⟩ = B := ⟨_, rfl⟩
                rw [hB] at cP
                have hro : readS b = if B = b then (⟨e, q, f, l, d⟩, 0) else (slot0, 4) := by
                  unfold readS
                  rw [hx.out, hR, hB, hnn]
                  by_cases h : B = b
                  · rw [if_pos h, if_pos ⟨hlH.out, hd, rfl, h⟩]
                  · rw [if_neg h, if_neg fun h' => h h'.2.2.2]
                replace hro := Lib.hid hro
                clear hR hB
                go_wp2_with fail
                refine (cR.out _).mono ?_
                rintro en w3 ⟨rfl, hu3⟩
                have hX := hu3.heap hX fun h => h
                have hY := hu3.heap hY fun h => h
                have hU3 := hU2.trans hu3 fun _ _ h => h
                have y0 := (cells_of hY).1 0
                have y1 := (cells_of hY).1 1
                have y2 := (cells_of hY).1 2
                have y3 := (cells_of hY).1 3
                have y4 := (cells_of hY).1 4
                clear hu3
                go_wp2_with fail
                refine (cP.out _).mono ?_
                rintro en w4 ⟨rfl, hu4⟩
                have hX := hu4.heap hX fun h => h
                have hY := hu4.heap hY fun h => h
                have hU4 := hU3.trans hu4 fun _ _ h => h
                clear hu4
                obtain ⟨hx', hz'⟩ := cells_of hX
                have x0 := hx' 0
                have x1 := hx' 1
                have x2 := hx' 2
                have x3 := hx' 3
                have x4 := hx' 4
                have z0 := hz' 0
                have z1 := hz' 1
                have z2 := hz' 2
                have z3 := hz' 3
                have z4 := hz' 4
                have y0 := (cells_of hY).1 0
                have y1 := (cells_of hY).1 1
                have y2 := (cells_of hY).1 2
                have y3 := (cells_of hY).1 3
                have y4 := (cells_of hY).1 4
                clear hx' hz'
                by_cases hBb : B = b
                · have hb1 : (!(B == b)) = false := by simp [hBb]
                  go_wp2_with fail
                  obtain ⟨hr, hU5⟩ := set5 hX hU4 (Nat.le_refl _) (.int .i64 e) (.int .i64 q) (.bool f) (.bool l) (.string ⟨d.toArray⟩)
                  rw [hro.out, if_pos hBb]
                  refine bodyPost_ret (v := .tuple #[S5.v ⟨e, q, f, l, d⟩, .int .i64 0]) (by simp [results, Try.results19, go_sem, hr 0, hr 1, hr 2, hr 3, hr 4]; try rfl) rfl ⟨rfl, hU5⟩
                · have hb1 : (!(B == b)) = true := by simp [hBb]
                  go_wp2_with fail
                  obtain ⟨hr, hU5⟩ := set5 hX hU4 (Nat.le_refl _) (.int .i64 0) (.int .i64 0) (.bool false) (.bool false) (.string ⟨#[]⟩)
                  rw [hro.out, if_neg hBb]
                  refine bodyPost_ret (v := .tuple #[slot0.v, .int .i64 4]) (by simp [results, Try.results19, go_sem, hr 0, hr 1, hr 2, hr 3, hr 4, slot0]; try rfl) rfl ⟨rfl, hU5⟩
    · have hro : readS b = (slot0, 4) := by unfold readS; rw [if_neg (fun h => hd h.2.1)]
      rw [hro]
      clear hro
      have hd' : (108 : Int) < (datN b : Int) := by omega
      have c1 := fun w => refNumber b 14 2 w (by omega) hm (by decide)
      rw [show (b.drop 14).take 2 = pf b 14 2 from rfl, hdn, ← hdn2] at c1
      replace c1 := Lib.hid c1
      clear hdn hdn2 hn0
      obtain ⟨n, hnn⟩ : ∃ n, datN b = n := ⟨_, rfl⟩
      rw [hnn] at c1 hd hd'
      clear hl hnn
      go_enter Try.func19, Try.ntmps19
      go_wp2_with fail
      refine (c1.out _).mono ?_
      rintro en w1 ⟨rfl, rfl⟩
      have hX := heap_alloc_new w (.cells #[.int .i64 0, .int .i64 0, .bool false, .bool false, .string ⟨#[]⟩] 41)
      obtain ⟨hx', hz'⟩ := cells_of hX
      have x0 := hx' 0
      have x1 := hx' 1
      have x2 := hx' 2
      have x3 := hx' 3
      have x4 := hx' 4
      have z0 := hz' 0
      have z1 := hz' 1
      have z2 := hz' 2
      have z3 := hz' 3
      have z4 := hz' 4
      clear hx' hz'
      go_wp2_with fail
      refine bodyPost_ret (v := .tuple #[slot0.v, .int .i64 4]) (by simp [results, Try.results19, go_sem, x0, x1, x2, x3, x4, slot0]; try rfl) rfl ⟨rfl, Upd.alloc _ _ _⟩
  · have hro : readS b = (slot0, 4) := by unfold readS; rw [if_neg (fun h => hl h.1)]
    rw [hro]
    have hl1 : ((b.length : Int) == 128) = false := by simp; omega
    have hl2 : ¬ b.length = 128 := hl
    clear hro
    go_enter Try.func19, Try.ntmps19
    go_wp2_with fail
    have hA := cells_of (heap_alloc_new w (.cells #[.int .i64 0, .int .i64 0, .bool false, .bool false, .string ⟨#[]⟩] 41))
    have z0 := hA.1 0
    have z1 := hA.1 1
    have z2 := hA.1 2
    have z3 := hA.1 3
    have z4 := hA.1 4
    refine bodyPost_ret (v := .tuple #[slot0.v, .int .i64 4]) (by simp [results, Try.results19, go_sem, z0, z1, z2, z3, z4, slot0]; try rfl) rfl ⟨rfl, Upd.alloc _ _ _⟩
end Go.Proofs.Ytiadbijholnbjaa
