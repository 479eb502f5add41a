/- The walk over pager.Read (printed by gen/mkover.py). -/
import Derived.Test.YtfjcjppfihafgaaMPgG
namespace Go.Proofs.Ytfjcjppfihafgaa
open Go.RowKit Go.Amb Go.Shelf
set_option linter.unusedVariables false
set_option linter.unusedSimpArgs false
set_option maxRecDepth 100000
section
variable {w0 w w' : World} {P D : Nat} {F F' : Nat → Prop} {r g I fr : Nat} {st : List Nat} {B : Nat} {d d' : Dk}
theorem reads_len {d : Dk} (h : d.Ok) (i : Int) : (d.reads i).length ≤ 128 := by
  unfold Dk.reads
  split
  · rename_i hw
    have := Dk.within_0 hw
    rw [h.has (by omega)]
    exact Nat.le_refl _
  · simp
/-- What Read answers. -/
def rdV (fr : Nat) (st : List Nat) (d : Dk) (i : Int) : List UInt8 × Int := if 0 ≤ i ∧ i < (st.length : Int) then (if st.getD i.toNat 0 = 0 then ([], 7) else ((readD (fr + i.toNat * 8) d 8 0 []).1, 0)) else ([], 6)
/-- New bytes are answered, and an error. -/
def BytesE (x : List UInt8 × Int) (w : World) : Ending → World → Prop := fun en w' => ∃ a c, en = .returned (.tuple #[.slice a x.1.length c, .int .i64 x.2]) ∧ Bytes w' (.slice a x.1.length c) x.1 ∧ Upd Non w w' ∧ ∀ k, At (.slice a x.1.length c) k → w.heap.size ≤ k
set_option maxHeartbeats 4000000 in
theorem gRead (h : Pg w0 w P D F r g I fr st d) (hP : d.P.length ≤ 999000) (i : Int) :
    Calls Try.prog 8 #[.pointer (some ⟨P, 0, none⟩), .int .i64 i] w (BytesE (rdV fr st d i) w) := by
  have hm := Lib.hid (gMade h.pb)
  have ht := Lib.hid (fun w' (hu : Upd Non w w') => gThere (h.pb.non hu) i)
  have hn := h.pb.al.most
  have hh := Lib.hid h
  have hi8 : Hid ((Try.prog.info? 5).map (fun i => (i.zero, i.size, i.bytes)) = some (some (.int .u8 0), 1, 1)) := Lib.hid (by kernel_rfl)
  unfold rdV
  by_cases hi : 0 ≤ i ∧ i < (st.length : Int)
  · rw [if_pos hi]
    rw [decide_eq_true hi] at ht
    obtain ⟨h0, h1⟩ := hi
    obtain ⟨j, rfl⟩ := Int.eq_ofNat_of_zero_le h0
    rw [Int.toNat_natCast]
    have hj : Hid (j < st.length) := Lib.hid (by omega)
    obtain ⟨a, ha⟩ : ∃ a, st.getD j 0 = a := ⟨_, rfl⟩
    rw [ha]
    have hta := Lib.hid (fun w' => gTaken a w')
    replace ha := Lib.hid ha
    by_cases h2 : a = 0
    · rw [if_pos h2]
      rw [decide_eq_false (fun e => e h2)] at hta
      clear h h2
      go_enter Try.func8, Try.ntmps8
      go_wp2_with fail
      refine hm.out.mono ?_
      rintro en w1 ⟨rfl, hu⟩
      go_wp2_with fail
      refine (ht.out _ hu).mono ?_
      rintro en w2 ⟨rfl, hu2⟩
      replace hu := hu.trans hu2 fun _ _ h => h
      have hB := hh.out.pb.non hu
      obtain ⟨p0, p1, p2, p3⟩ := cells4 hB.cell
      obtain ⟨x0, f0⟩ := hB.at j hj.out
      rw [ha.out] at x0
      clear hu2 hB
      go_wp2_with fail
      refine (hta.out _).mono ?_
      rintro en w3 ⟨rfl, hu3⟩
      replace hu := hu.trans hu3 fun _ _ h => h
      clear p0 p1 p2 p3 x0 f0 hu3
      go_wp2_with fail
      go_ret2
      exact ⟨none, 0, rfl, Has.nil _ _, hu, fun k hk => by simp [At, Value.ownBlock] at hk⟩
    · rw [if_neg h2]
      rw [decide_eq_true h2] at hta
      have hroom := h.room
      have hliv := Lib.hid h.liv
      have hkl := h.pb.lv.at_.ok.n2
      have hokd := Lib.hid h.pb.lv.at_.ok
      have hbase : fr + j * 8 + 8 ≤ d.K.length := by have := hj.out; omega
      have hfin : Hid (readD (fr + j * 8) d 8 0 [] = ((readD (fr + j * 8) d 8 0 []).1, 0)) := Lib.hid (by rw [read_liv h.liv 8 0 [] (by omega)])
      have hlr := Lib.hid (fun w' (hu : Upd Non w w') k => lvRead (h.pb.lv.non hu) (by omega) k)
      clear h hroom hP
      go_enter Try.func8, Try.ntmps8
      go_wp2_with fail
      refine hm.out.mono ?_
      rintro en w1 ⟨rfl, hu⟩
      go_wp2_with fail
      refine (ht.out _ hu).mono ?_
      rintro en w2 ⟨rfl, hu2⟩
      replace hu := hu.trans hu2 fun _ _ h => h
      have hB := hh.out.pb.non hu
      obtain ⟨p0, p1, p2, p3⟩ := cells4 hB.cell
      obtain ⟨x0, f0⟩ := hB.at j hj.out
      rw [ha.out] at x0
      clear hu2 hB
      go_wp2_with fail
      refine (hta.out _).mono ?_
      rintro en w3 ⟨rfl, hu3⟩
      replace hu := hu.trans hu3 fun _ _ h => h
      clear p0 p1 p2 p3 x0 f0 hu3
      go_wp2_with fail
      go_loopw [6, 29] (fun ov iv wr => ∃ (k : Nat) (acc : List UInt8), iv = .int .i64 (k : Int) ∧ k ≤ 8 ∧ wr.ownsRow w.heap.size 5 1 ov acc.length (bc acc) ∧ acc.length ≤ 128 * k ∧ readD (fr + j * 8) d (8 - k) k acc = readD (fr + j * 8) d 8 0 [] ∧ Upd Non w wr) (fun _ iv _ => 8 - (intOf iv).toNat)
      case atStart => exact ⟨0, [], rfl, by omega, ⟨by simp [bc], .inl ⟨rfl, rfl⟩⟩, by simp, rfl, hu⟩
      case round =>
        clear hu
        obtain ⟨k, acc, rfl, hk, ho, hal, hst, hU⟩ := hrel
        obtain ⟨oa, oc, rfl⟩ := own_form ho
        by_cases hlt : k < 8
        · have hltI : (k : Int) < 8 := by omega
          have hB := hh.out.pb.non hU
          have hw0 : Hid (d.within ((fr + j * 8 + k : Nat) : Int) = 0) := Lib.hid (hliv.out.within (by omega))
          have hrl := reads_len hokd.out ((fr + j * 8 + k : Nat) : Int)
          replace hst : Hid (readD (fr + j * 8) d (8 - (k + 1)) (k + 1) (acc ++ d.reads ((fr + j * 8 + k : Nat) : Int)) = readD (fr + j * 8) d 8 0 []) := Lib.hid (by
            rw [← hst, show 8 - k = (8 - (k + 1)) + 1 by omega, readD, hw0.out, if_neg (by simp)])
          have hrd := Lib.hid (fun w' (hu : Upd Non wr w') => hlr.out w' (hU.trans hu fun _ _ h => h) ((fr + j * 8 + k : Nat) : Int))
          have eidx : ((fr + j * 8 + k : Nat) : Int) = (fr : Int) + (j : Int) * 8 + (k : Int) := by omega
          have i1 : IntKind.i64.wrap ((j : Int) * 8) = (j : Int) * 8 := IntWalk.i64_in _ ⟨by omega, by omega⟩
          have i2 : IntKind.i64.wrap ((fr : Int) + (j : Int) * 8) = (fr : Int) + (j : Int) * 8 := IntWalk.i64_in _ ⟨by omega, by omega⟩
          have i3 : IntKind.i64.wrap ((fr : Int) + (j : Int) * 8 + (k : Int)) = (fr : Int) + (j : Int) * 8 + (k : Int) := IntWalk.i64_in _ ⟨by omega, by omega⟩
          rw [eidx] at *
          go_wp2_with fail
          refine wp_region_held_drew (S := (fun w' => w'.heap[P]? = some (.cells #[.pointer (some ⟨r, 0, none⟩), .pointer (some ⟨D, 0, none⟩), .int .i64 (fr : Int), .slice (some ⟨I, 0, none⟩) st.length st.length] 29 (0, 0)))) (by kernel_rfl) (by exact hB.cell) (fun hHeld => ?_)
          (refine wpAnyH_take (i := 0) (oi := ?oi_q1) (v := ?v_q1) ?ho_q1 ?hs_q1 ?hf_q1 ?hr_q1 ?hQ_q1 ?hy_q1 ?hS_q1 ?rest_q1; (case hr_q1 => kernel_rfl); (case hf_q1 => kernel_rfl); (case hs_q1 => kernel_rfl); (case ho_q1 => (simp only [List.getElem?_toArray, List.getElem?_cons_succ, List.getElem?_cons_zero]; rfl)); (case hS_q1 => assumption); (case hQ_q1 => exact fun _ _ _ h => h); (case hy_q1 => (refine Or.inl ⟨by rfl, ?_⟩; (intro w hSw; obtain ⟨e0, g0⟩ := cells_of hSw; go_simp) <;> with_reducible rfl)); (try simp only [Act.put, List.setIfInBounds_toArray, List.set_cons_zero, List.set_cons_succ]))
          (refine wpAnyH_take (i := 1) (oi := ?oi_q2) (v := ?v_q2) ?ho_q2 ?hs_q2 ?hf_q2 ?hr_q2 ?hQ_q2 ?hy_q2 ?hS_q2 ?rest_q2; (case hr_q2 => kernel_rfl); (case hf_q2 => kernel_rfl); (case hs_q2 => kernel_rfl); (case ho_q2 => (simp only [List.getElem?_toArray, List.getElem?_cons_succ, List.getElem?_cons_zero]; rfl)); (case hS_q2 => assumption); (case hQ_q2 => exact fun _ _ _ h => h); (case hy_q2 => (refine Or.inl ⟨by rfl, ?_⟩; (intro w hSw; obtain ⟨e0, g0⟩ := cells_of hSw; go_simp) <;> with_reducible rfl)); (try simp only [Act.put, List.setIfInBounds_toArray, List.set_cons_zero, List.set_cons_succ]))
          (refine wpAnyH_take (i := 2) (oi := ?oi_q3) (v := ?v_q3) ?ho_q3 ?hs_q3 ?hf_q3 ?hr_q3 ?hQ_q3 ?hy_q3 ?hS_q3 ?rest_q3; (case hr_q3 => kernel_rfl); (case hf_q3 => kernel_rfl); (case hs_q3 => kernel_rfl); (case ho_q3 => (simp only [List.getElem?_toArray, List.getElem?_cons_succ, List.getElem?_cons_zero]; rfl)); (case hS_q3 => assumption); (case hQ_q3 => exact fun _ _ _ h => h); (case hy_q3 => (refine Or.inl ⟨by rfl, ?_⟩; (intro w hSw; obtain ⟨e0, g0⟩ := cells_of hSw; go_simp) <;> with_reducible rfl)); (try simp only [Act.put, List.setIfInBounds_toArray, List.set_cons_zero, List.set_cons_succ]))
          (refine wpAnyH_take (i := 3) (oi := ?oi_q4) (v := ?v_q4) ?ho_q4 ?hs_q4 ?hf_q4 ?hr_q4 ?hQ_q4 ?hy_q4 ?hS_q4 ?rest_q4; (case hr_q4 => kernel_rfl); (case hf_q4 => kernel_rfl); (case hs_q4 => kernel_rfl); (case ho_q4 => (simp only [List.getElem?_toArray, List.getElem?_cons_succ, List.getElem?_cons_zero]; rfl)); (case hS_q4 => assumption); (case hQ_q4 => exact fun _ _ _ h => h); (case hy_q4 => (refine Or.inl ⟨by rfl, ?_⟩; (intro w hSw; obtain ⟨e0, g0⟩ := cells_of hSw; go_simp) <;> with_reducible rfl)); (try simp only [Act.put, List.setIfInBounds_toArray, List.set_cons_zero, List.set_cons_succ]))
          (refine wpAnyH_take (i := 4) (oi := ?oi_q5) (v := ?v_q5) ?ho_q5 ?hs_q5 ?hf_q5 ?hr_q5 ?hQ_q5 ?hy_q5 ?hS_q5 ?rest_q5; (case hr_q5 => kernel_rfl); (case hf_q5 => kernel_rfl); (case hs_q5 => kernel_rfl); (case ho_q5 => (simp only [List.getElem?_toArray, List.getElem?_cons_succ, List.getElem?_cons_zero]; rfl)); (case hS_q5 => assumption); (case hQ_q5 => exact fun _ _ _ h => h); (case hy_q5 => (refine Or.inl ⟨by rfl, ?_⟩; (intro w hSw; obtain ⟨e0, g0⟩ := cells_of hSw; go_simp) <;> with_reducible rfl)); (try simp only [Act.put, List.setIfInBounds_toArray, List.set_cons_zero, List.set_cons_succ]))
          (refine wpAnyH_take (i := 5) (oi := ?oi_q6) (v := ?v_q6) ?ho_q6 ?hs_q6 ?hf_q6 ?hr_q6 ?hQ_q6 ?hy_q6 ?hS_q6 ?rest_q6; (case hr_q6 => kernel_rfl); (case hf_q6 => kernel_rfl); (case hs_q6 => kernel_rfl); (case ho_q6 => (simp only [List.getElem?_toArray, List.getElem?_cons_succ, List.getElem?_cons_zero]; rfl)); (case hS_q6 => assumption); (case hQ_q6 => exact fun _ _ _ h => h); (case hy_q6 => (refine Or.inl ⟨by rfl, ?_⟩; (intro w hSw; obtain ⟨e0, g0⟩ := cells_of hSw; go_simp) <;> with_reducible rfl)); (try simp only [Act.put, List.setIfInBounds_toArray, List.set_cons_zero, List.set_cons_succ]))
          (refine wpAnyH_take (i := 6) (oi := ?oi_q7) (v := ?v_q7) ?ho_q7 ?hs_q7 ?hf_q7 ?hr_q7 ?hQ_q7 ?hy_q7 ?hS_q7 ?rest_q7; (case hr_q7 => kernel_rfl); (case hf_q7 => kernel_rfl); (case hs_q7 => kernel_rfl); (case ho_q7 => (simp only [List.getElem?_toArray, List.getElem?_cons_succ, List.getElem?_cons_zero]; rfl)); (case hS_q7 => assumption); (case hQ_q7 => exact fun _ _ _ h => h); (case hy_q7 => (refine Or.inl ⟨by rfl, ?_⟩; (intro w hSw; obtain ⟨e0, g0⟩ := cells_of hSw; go_simp) <;> with_reducible rfl)); (try simp only [Act.put, List.setIfInBounds_toArray, List.set_cons_zero, List.set_cons_succ]))
          (refine wpAnyH_take (i := 7) (oi := ?oi_q8) (v := ?v_q8) ?ho_q8 ?hs_q8 ?hf_q8 ?hr_q8 ?hQ_q8 ?hy_q8 ?hS_q8 ?rest_q8; (case hr_q8 => kernel_rfl); (case hf_q8 => kernel_rfl); (case hs_q8 => kernel_rfl); (case ho_q8 => (simp only [List.getElem?_toArray, List.getElem?_cons_succ, List.getElem?_cons_zero]; rfl)); (case hS_q8 => assumption); (case hQ_q8 => exact fun _ _ _ h => h); (case hy_q8 => (refine Or.inl ⟨by rfl, ?_⟩; (intro w hSw; obtain ⟨e0, g0⟩ := cells_of hSw; go_simp) <;> with_reducible rfl)); (try simp only [Act.put, List.setIfInBounds_toArray, List.set_cons_zero, List.set_cons_succ]))
          (refine wpAnyH_take (i := 8) (oi := ?oi_q9) (v := ?v_q9) ?ho_q9 ?hs_q9 ?hf_q9 ?hr_q9 ?hQ_q9 ?hy_q9 ?hS_q9 ?rest_q9; (case hr_q9 => kernel_rfl); (case hf_q9 => kernel_rfl); (case hs_q9 => kernel_rfl); (case ho_q9 => (simp only [List.getElem?_toArray, List.getElem?_cons_succ, List.getElem?_cons_zero]; rfl)); (case hS_q9 => assumption); (case hQ_q9 => exact fun _ _ _ h => h); (case hy_q9 => (refine Or.inl ⟨by rfl, ?_⟩; (intro w hSw; obtain ⟨e0, g0⟩ := cells_of hSw; go_simp) <;> with_reducible rfl)); (try simp only [Act.put, List.setIfInBounds_toArray, List.set_cons_zero, List.set_cons_succ]))
          (refine wpAnyH_take (i := 9) (oi := ?oi_q10) (v := ?v_q10) ?ho_q10 ?hs_q10 ?hf_q10 ?hr_q10 ?hQ_q10 ?hy_q10 ?hS_q10 ?rest_q10; (case hr_q10 => kernel_rfl); (case hf_q10 => kernel_rfl); (case hs_q10 => kernel_rfl); (case ho_q10 => (simp only [List.getElem?_toArray, List.getElem?_cons_succ, List.getElem?_cons_zero]; rfl)); (case hS_q10 => assumption); (case hQ_q10 => exact fun _ _ _ h => h); (case hy_q10 => (refine Or.inl ⟨by rfl, ?_⟩; (intro w hSw; obtain ⟨e0, g0⟩ := cells_of hSw; go_simp) <;> with_reducible rfl)); (try simp only [Act.put, List.setIfInBounds_toArray, List.set_cons_zero, List.set_cons_succ]))
          (refine wpAnyH_take (i := 10) (oi := ?oi_q11) (v := ?v_q11) ?ho_q11 ?hs_q11 ?hf_q11 ?hr_q11 ?hQ_q11 ?hy_q11 ?hS_q11 ?rest_q11; (case hr_q11 => kernel_rfl); (case hf_q11 => kernel_rfl); (case hs_q11 => kernel_rfl); (case ho_q11 => (simp only [List.getElem?_toArray, List.getElem?_cons_succ, List.getElem?_cons_zero]; rfl)); (case hS_q11 => assumption); (case hQ_q11 => exact fun _ _ _ h => h); (case hy_q11 => (refine Or.inl ⟨by rfl, ?_⟩; (intro w hSw; obtain ⟨e0, g0⟩ := cells_of hSw; go_simp) <;> with_reducible rfl)); (try simp only [Act.put, List.setIfInBounds_toArray, List.set_cons_zero, List.set_cons_succ]))
          (refine wpAnyH_take (i := 11) (oi := ?oi_q12) (v := ?v_q12) ?ho_q12 ?hs_q12 ?hf_q12 ?hr_q12 ?hQ_q12 ?hy_q12 ?hS_q12 ?rest_q12; (case hr_q12 => kernel_rfl); (case hf_q12 => kernel_rfl); (case hs_q12 => kernel_rfl); (case ho_q12 => (simp only [List.getElem?_toArray, List.getElem?_cons_succ, List.getElem?_cons_zero]; rfl)); (case hS_q12 => assumption); (case hQ_q12 => exact fun _ _ _ h => h); (case hy_q12 => (refine Or.inl ⟨by rfl, ?_⟩; (intro w hSw; obtain ⟨e0, g0⟩ := cells_of hSw; go_simp) <;> with_reducible rfl)); (try simp only [Act.put, List.setIfInBounds_toArray, List.set_cons_zero, List.set_cons_succ]))
          (refine wpAnyH_take (i := 12) (oi := ?oi_q13) (v := ?v_q13) ?ho_q13 ?hs_q13 ?hf_q13 ?hr_q13 ?hQ_q13 ?hy_q13 ?hS_q13 ?rest_q13; (case hr_q13 => kernel_rfl); (case hf_q13 => kernel_rfl); (case hs_q13 => kernel_rfl); (case ho_q13 => (simp only [List.getElem?_toArray, List.getElem?_cons_succ, List.getElem?_cons_zero]; rfl)); (case hS_q13 => assumption); (case hQ_q13 => exact fun _ _ _ h => h); (case hy_q13 => (refine Or.inl ⟨by rfl, ?_⟩; (intro w hSw; obtain ⟨e0, g0⟩ := cells_of hSw; go_simp) <;> with_reducible rfl)); (try simp only [Act.put, List.setIfInBounds_toArray, List.set_cons_zero, List.set_cons_succ]))
          refine wpAnyH_ready (rs := [13]) (by kernel_rfl) (by simp) ?_
          refine (AllReadyH.cons (o := ?ooq14_0) ?hoq14_0 ?hsq14_0 AllReadyH.nil)
          case hoq14_0 => (simp only [List.getElem?_toArray, List.getElem?_cons_succ, List.getElem?_cons_zero]; rfl)
          case hsq14_0 =>
            intro K hK
            go_simp
            go_at_call 29
            refine (hrd.out wr.drew (Upd.drew Non wr)).mono ?_
            rintro en w5 ⟨v5, rfl, hA5, -, hu5⟩
            obtain ⟨a5, c5, rfl⟩ := bytes_form hA5.has
            have hN5 : Upd Non wr w5 := (Upd.drew Non wr).trans hu5 fun _ _ h => h
            have hc5 := hN5.heap hB.cell fun h => h
            rw [hw0.out]
            try go_wp2_with fail
            refine hK.out _ _ (by exact hc5) (fun hHeld => ?_)
            clear hK K
            try simp only [Act.put, List.setIfInBounds_toArray, List.set_cons_zero, List.set_cons_succ]
            (refine wpAnyH_take (i := 14) (oi := ?oi_q15) (v := ?v_q15) ?ho_q15 ?hs_q15 ?hf_q15 ?hr_q15 ?hQ_q15 ?hy_q15 ?hS_q15 ?rest_q15; (case hr_q15 => kernel_rfl); (case hf_q15 => kernel_rfl); (case hs_q15 => kernel_rfl); (case ho_q15 => (simp only [List.getElem?_toArray, List.getElem?_cons_succ, List.getElem?_cons_zero]; rfl)); (case hS_q15 => assumption); (case hQ_q15 => exact fun _ _ _ h => h); (case hy_q15 => (refine Or.inl ⟨by rfl, ?_⟩; (intro w hSw; skip; go_simp) <;> with_reducible rfl)); (try simp only [Act.put, List.setIfInBounds_toArray, List.set_cons_zero, List.set_cons_succ]))
            (refine wpAnyH_take (i := 15) (oi := ?oi_q16) (v := ?v_q16) ?ho_q16 ?hs_q16 ?hf_q16 ?hr_q16 ?hQ_q16 ?hy_q16 ?hS_q16 ?rest_q16; (case hr_q16 => kernel_rfl); (case hf_q16 => kernel_rfl); (case hs_q16 => kernel_rfl); (case ho_q16 => (simp only [List.getElem?_toArray, List.getElem?_cons_succ, List.getElem?_cons_zero]; rfl)); (case hS_q16 => assumption); (case hQ_q16 => exact fun _ _ _ h => h); (case hy_q16 => (refine Or.inl ⟨by rfl, ?_⟩; (intro w hSw; skip; go_simp) <;> with_reducible rfl)); (try simp only [Act.put, List.setIfInBounds_toArray, List.set_cons_zero, List.set_cons_succ]))
            (refine wpAnyH_take (i := 16) (oi := ?oi_q17) (v := ?v_q17) ?ho_q17 ?hs_q17 ?hf_q17 ?hr_q17 ?hQ_q17 ?hy_q17 ?hS_q17 ?rest_q17; (case hr_q17 => kernel_rfl); (case hf_q17 => kernel_rfl); (case hs_q17 => kernel_rfl); (case ho_q17 => (simp only [List.getElem?_toArray, List.getElem?_cons_succ, List.getElem?_cons_zero]; rfl)); (case hS_q17 => assumption); (case hQ_q17 => exact fun _ _ _ h => h); (case hy_q17 => (refine Or.inl ⟨by rfl, ?_⟩; (intro w hSw; skip; go_simp) <;> with_reducible rfl)); (try simp only [Act.put, List.setIfInBounds_toArray, List.set_cons_zero, List.set_cons_succ]))
            (refine wpAnyH_take (i := 17) (oi := ?oi_q18) (v := ?v_q18) ?ho_q18 ?hs_q18 ?hf_q18 ?hr_q18 ?hQ_q18 ?hy_q18 ?hS_q18 ?rest_q18; (case hr_q18 => kernel_rfl); (case hf_q18 => kernel_rfl); (case hs_q18 => kernel_rfl); (case ho_q18 => (simp only [List.getElem?_toArray, List.getElem?_cons_succ, List.getElem?_cons_zero]; rfl)); (case hS_q18 => assumption); (case hQ_q18 => exact fun _ _ _ h => h); (case hy_q18 => (refine Or.inl ⟨by rfl, ?_⟩; (intro w hSw; skip; go_simp) <;> with_reducible rfl)); (try simp only [Act.put, List.setIfInBounds_toArray, List.set_cons_zero, List.set_cons_succ]))
            (refine wpAnyH_take (i := 18) (oi := ?oi_q19) (v := ?v_q19) ?ho_q19 ?hs_q19 ?hf_q19 ?hr_q19 ?hQ_q19 ?hy_q19 ?hS_q19 ?rest_q19; (case hr_q19 => kernel_rfl); (case hf_q19 => kernel_rfl); (case hs_q19 => kernel_rfl); (case ho_q19 => (simp only [List.getElem?_toArray, List.getElem?_cons_succ, List.getElem?_cons_zero]; rfl)); (case hS_q19 => assumption); (case hQ_q19 => exact fun _ _ _ h => h); (case hy_q19 => (refine Or.inl ⟨by rfl, ?_⟩; (intro w hSw; skip; go_simp) <;> with_reducible rfl)); (try simp only [Act.put, List.setIfInBounds_toArray, List.set_cons_zero, List.set_cons_succ]))
            refine wpAnyH_done (by kernel_rfl) ?_ _
            have hU5 := hU.trans hN5 fun _ _ h => h
            have ho5 := hN5.owns ho (fun _ _ h => h)
            have hz5 := hU5.size
            have hB5 := Lib.hid hA5.has
            clear hHeld hc5 hB hA5 hN5 hu5 hrd ho hU
            go_wp2_with (at_builtin; go_must (refine wpList_app rfl _ _ 22 22 rfl w.heap.size 5 (.int .u8 0) 1 1 Try.underlying22 hi8.out rfl _ acc.length (bc acc) rfl ho5 _ (d.reads ((fr + j * 8 + k : Nat) : Int)).length (bc (d.reads ((fr + j * 8 + k : Nat) : Int))) rfl (Src.ofHas Try.underlying22 hB5.out (bc_one _)) (by unfold maxLen; omega) (by omega) hz5 ?_))
            intro v6 w6 ho6 hu6 hf6
            rw [← bc_append] at ho6
            have hU6 := hU5.trans hu6 (fun q hq h => by have := own_ge ho5 h; omega)
            clear hu6 hf6 hU5 ho5 hB5
            go_wp2_with fail
            go_roundw
            case rel => exact ⟨k + 1, acc ++ d.reads ((fr + j * 8 + k : Nat) : Int), by go_num, by omega, by rw [List.length_append]; exact ho6, by rw [List.length_append]; omega, hst.out, hU6⟩
            case measure => simp [intOf]; omega
        · have hltI : ¬ (k : Int) < 8 := by omega
          obtain rfl : k = 8 := by omega
          replace hst : (acc, (0 : Int)) = readD (fr + j * 8) d 8 0 [] := hst
          have hacc : Hid (acc = (readD (fr + j * 8) d 8 0 []).1) := Lib.hid (by rw [← hst])
          clear hst
          go_wp2_with fail
          go_ret2
          have e := hacc.out
          subst e
          exact ⟨oa, oc, rfl, has_of_owns ho, hU, fun q hq => own_ge ho hq⟩
  · rw [if_neg hi]
    rw [decide_eq_false hi] at ht
    clear hi h
    go_enter Try.func8, Try.ntmps8
    go_wp2_with fail
    refine hm.out.mono ?_
    rintro en w1 ⟨rfl, hu⟩
    go_wp2_with fail
    refine (ht.out _ hu).mono ?_
    rintro en w2 ⟨rfl, hu2⟩
    replace hu := hu.trans hu2 fun _ _ h => h
    go_wp2_with fail
    go_ret2
    exact ⟨none, 0, rfl, Has.nil _ _, hu, fun k hk => by simp [At, Value.ownBlock] at hk⟩
end
end Go.Proofs.Ytfjcjppfihafgaa
