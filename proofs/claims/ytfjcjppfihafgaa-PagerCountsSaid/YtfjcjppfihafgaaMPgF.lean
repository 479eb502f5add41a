/- The walk over pager.over (printed by gen/mkover.py). -/
import Derived.Test.YtfjcjppfihafgaaMPgE
namespace Go.Proofs.Ytfjcjppfihafgaa
open Go.RowKit Go.Amb Go.Shelf
set_option linter.unusedVariables false
set_option linter.unusedSimpArgs false
set_option maxRecDepth 100000
theorem info_page : (Try.prog.info? 80).map (fun i => (i.zero, i.size, i.bytes)) = some (some (.agg (Array.replicate 1024 (.int .u8 0))), 1024, 1024) := by kernel_rfl
theorem info_page2 : (Try.prog.info? 80).map (fun i => (i.zero, i.size)) = some (some (.agg (Array.replicate 1024 (.int .u8 0))), 1024) := by kernel_rfl
theorem zeros_put (b : List UInt8) (hb : b.length ≤ 1024) : ((Array.replicate 1024 (Value.int .u8 0)).toList.take 0 ++ bc b ++ (Array.replicate 1024 (Value.int .u8 0)).toList.drop (0 + (bc b).length)) = bc (pad b) := by
  unfold pad
  rw [bc_append, bc_zero, bc_length, List.take_zero, List.nil_append, Nat.zero_add, Array.toList_replicate, List.drop_replicate]
/-- A page's part, as bytes of its block. -/
theorem chunk_bytes {w : World} {b : Nat} {l : List UInt8} {t : TypeId} {k : Nat} (hl : l.length ≤ 1024) (h : w.heap[b]? = some (.cells (bc (pad l)).toArray t (0, 0))) (hk : k < 8) (c : Nat) (hc : 128 ≤ c) (hc2 : c ≤ maxLen) : Bytes w (.slice (some ⟨b, k * 128, none⟩) 128 c) (chunk l k) := by
  have hcl := chunk_length hl hk
  unfold Bytes
  rw [hcl]
  refine ⟨by rw [bc_length, hcl], _, c, rfl, hc, hc2, .inr ⟨b, k * 128, rfl, fun j u hj => ?_⟩⟩
  rw [(cells_of h).1, List.getElem?_toArray]
  unfold chunk bc at hj
  unfold bc
  rw [List.getElem?_map, Option.map_eq_some_iff] at hj
  obtain ⟨x, hx, rfl⟩ := hj
  rw [List.getElem?_take] at hx
  split at hx
  · rw [List.getElem?_drop] at hx
    rw [List.getElem?_map, Nat.mul_comm k 128, hx]; rfl
  · cases hx
section
variable {w0 w w' : World} {P D : Nat} {F F' : Nat → Prop} {r g I fr : Nat} {st : List Nat} {B : Nat} {d : Dk}
/-- What the disk keeps, the pager keeps. -/
theorem own_kp {w1 w2 w3 w : World} {F1 F2 : Nat → Prop} {P I r g : Nat} (hi : P < w.heap.size ∧ I < w.heap.size ∧ r < w.heap.size ∧ g < w.heap.size) (hk : Kp w2 F1 w3 F2) (hu : Upd Non w1 w2) (hz : w.heap.size ≤ w1.heap.size) : Kp w1 (own F1 P I r g) w3 (own F2 P I r g) := by
  refine ⟨(hu.mono fun _ _ h => h.elim).trans hk.upd fun k hk1 hF => .inl hF, fun k hk2 => ?_⟩
  rcases hk2 with h | h
  · rcases hk.own k h with h1 | h1
    · exact .inl (.inl h1)
    · exact .inr (Nat.le_trans hu.size h1)
  · exact .inl (.inr h)
theorem page_slice (w : World) (b k : Nat) (hk : k < 8) : (Instr.sliceAt 80 (.pointer (some ⟨b, 0, none⟩)) (some (.int .i64 ((k : Int) * 128))) (some (.int .i64 (((k : Int) + 1) * 128))) none).run Try.prog w = .ok (.slice (some ⟨b, k * 128, none⟩) 128 (1024 - k * 128)) w := by
  have hl : Try.prog.arrayLen 80 = 1024 := by kernel_rfl
  have he : (sizeOf (Try.prog.elem 80)).run Try.prog w = .ok 1 w := by kernel_rfl
  rw [run_sliceAt_array_lh w 80 ⟨b, 0, none⟩ Try.underlying80 .i64 .i64 _ _ (by omega) (by omega) (by rw [hl]; omega), he, hl]
  have e1 : ((k : Int) * 128).toNat = k * 128 := by omega
  have e2 : (((k : Int) + 1) * 128).toNat = k * 128 + 128 := by omega
  show Result.ok (slicedAt _ _ _ _ _) w = _
  unfold slicedAt
  rw [e1, e2, if_neg (by omega)]
  simp only [Addr.add, Nat.mul_one, Nat.zero_add, Nat.add_sub_cancel_left]
  by_cases h0 : k * 128 = 0
  · rw [if_pos h0, h0]
  · rw [if_neg h0]
set_option maxHeartbeats 4000000 in
theorem gOver (h : Pb w0 w P D F r g I fr st B d) (hliv : Liv d d.K.length) (hroom : fr + 8 * st.length ≤ d.K.length) (hP : d.P.length ≤ 999000) (i : Nat) (hi : i < st.length) (v : Value) (b : List UInt8) (hl : b.length ≤ 1024) (hBy : Bytes w v b) :
    Calls Try.prog 25 #[.pointer (some ⟨P, 0, none⟩), .int .i64 (i : Int), v] w (fun en w' => en = .returned (.int .i64 0) ∧ ∃ F' d', overD (fr + i * 8) b 8 0 d = (d', 0) ∧ Pb w0 w' P D F' r g I fr st B d' ∧ Kp w (own F P I r g) w' (own F' P I r g)) := by
  have hn := h.al.most
  have hkl := h.lv.at_.ok.n2
  obtain ⟨Z9, hZ9⟩ : ∃ Z9, Array.replicate 1024 (Value.int .u8 0) = Z9 := ⟨_, rfl⟩
  have hz9 := (zero_of_info (P := Try.prog) (t := 80) (v := .agg Z9) (n := 1024) (by rw [← hZ9]; exact info_page2)).1
  have hnew := heap_alloc_new w (.cells Z9 80)
  have hu0 : Upd Non w (w.alloc (.cells Z9 80)) := Upd.alloc Non w _
  have hcp := run_copy_bytes (w.alloc (.cells Z9 80)) 3 w.heap.size 0 1024 1024 v b (hBy.upd hu0 fun _ _ h => h) hl (by
    have hc := cells_of hnew
    intro j hj
    refine ⟨?_, hc.2 _⟩
    rw [hc.1, Nat.zero_add, Array.getElem?_eq_getElem (by rw [← hZ9, Array.size_replicate]; exact hj)]; rfl)
  have hput := heap_setCells w.heap.size 80 (bc b) 0 (w.alloc (.cells Z9 80)) Z9 hnew (by rw [← hZ9, Array.size_replicate, bc_length]; omega)
  rw [← hZ9, zeros_put b hl, hZ9] at hput
  have hu1 := hu0.trans (upd_setCells w.heap.size (bc b) 0 (w.alloc (.cells Z9 80))) fun k hk e => by (have : k = w.heap.size := e); omega
  have hcl := fun k => chunk_bytes (k := k) (w := w) (b := w.heap.size) (t := 80) hl
  obtain ⟨va, vc, rfl⟩ := bytes_form hBy
  have hh := Lib.hid h
  have hlv0 := Lib.hid hliv
  have hrm := Lib.hid hroom
  have hP0 := Lib.hid hP
  have hi0 := Lib.hid hi
  have hbase : fr + i * 8 + 8 ≤ d.K.length := by omega
  have hK0 : d.K.length ≤ 16384 := hkl
  clear hnew hu0 hBy hZ9 hliv hroom hP hi hcl hn hkl h
  go_enter Try.func25, Try.ntmps25
  go_wp2_with (at_builtin; go_must (refine wpList_copy rfl _ _ _ _ rfl _ _ _ rfl rfl hcp ?_))
  obtain ⟨w3, hw3⟩ : ∃ w3, ((w.alloc (.cells Z9 80)).setCells w.heap.size 0 (bc b)) = w3 := ⟨_, rfl⟩
  rw [hw3] at hput hu1 ⊢
  clear hcp hz9 hw3
  have hB0 := hh.out.non hu1
  have hbF0 : ¬ F w.heap.size := fun e => by have := hh.out.lv.at_.lt _ e; omega
  have hKp0 : Kp w (own F P I r g) w3 (own F P I r g) := Kp.non hu1
  go_wp2_with fail
  go_loopw [14] (fun iv wr => ∃ (k : Nat) (F1 : Nat → Prop) (dk : Dk), iv = .int .i64 (k : Int) ∧ k ≤ 8 ∧ Pb w0 wr P D F1 r g I fr st B dk ∧ overD (fr + i * 8) b (8 - k) k dk = overD (fr + i * 8) b 8 0 d ∧ Liv dk d.K.length ∧ dk.P.length ≤ d.P.length + k ∧ wr.heap[w.heap.size]? = some (.cells (bc (pad b)).toArray 80 (0, 0)) ∧ ¬ F1 w.heap.size ∧ Kp w (own F P I r g) wr (own F1 P I r g)) (fun iv _ => 8 - (intOf iv).toNat)
  case atStart => exact ⟨0, F, d, rfl, by omega, hB0, rfl, hlv0.out, Nat.le_refl _, hput, hbF0, hKp0⟩
  case round =>
    clear hB0 hbF0 hKp0 hput hu1
    obtain ⟨k, F1, dk, rfl, hk, hB, hst, hlv, hPk, hb, hbF, hKp⟩ := hrel
    by_cases hlt : k < 8
    · have hltI : (k : Int) < 8 := by omega
      have hrm' := hrm.out
      have hi' := hi0.out
      have hwv := hlv.write (i := fr + i * 8 + k) (by omega) (chunk_le b k)
      have hst' : overD (fr + i * 8) b (8 - (k + 1)) (k + 1) { dk with P := dk.P ++ [(full (chunk b k), fr + i * 8 + k)] } = overD (fr + i * 8) b 8 0 d := by
        rw [← hst, show 8 - k = (8 - (k + 1)) + 1 by omega, overD, hwv, if_neg (by simp)]
      have eidx : ((fr + i * 8 + k : Nat) : Int) = (fr : Int) + (i : Int) * 8 + (k : Int) := by omega
      have hwr : Hid (∀ w' , Lv w0 D w' F1 dk → ∀ c, Bytes w' (.slice (some ⟨w.heap.size, k * 128, none⟩) 128 c) (chunk b k) → Calls Try.prog 44 #[.pointer (some ⟨D, 0, none⟩), .int .i64 ((fr : Int) + (i : Int) * 8 + (k : Int)), .slice (some ⟨w.heap.size, k * 128, none⟩) 128 c] w' (fun en w9 => en = .returned (.int .i64 0) ∧ ∃ F', Lv w0 D w9 F' { dk with P := dk.P ++ [(full (chunk b k), fr + i * 8 + k)] } ∧ Kp w' F1 w9 F')) :=
        Lib.hid (fun w' hL c hBy => by
          have := lvWrite hL (by have := hP0.out; omega) ((fr + i * 8 + k : Nat) : Int) (chunk b k) _ hBy (fun q hq => by
            have : q = w.heap.size := by simpa [At, Value.ownBlock, eq_comm] using hq
            subst this; exact hbF)
          rw [hwv, eidx] at this
          exact this)
      have hlv := Lib.hid (liv_put hlv (dk.P ++ [(full (chunk b k), fr + i * 8 + k)]))
      have hP : Hid ((dk.P ++ [(full (chunk b k), fr + i * 8 + k)]).length ≤ d.P.length + (k + 1)) := Lib.hid (by rw [List.length_append]; simp only [List.length_cons, List.length_nil]; omega)
      replace hst := Lib.hid hst'
      have s1 : IntKind.i64.wrap ((k : Int) * 128) = (k : Int) * 128 := IntWalk.i64_in _ ⟨by omega, by omega⟩
      have s2 : IntKind.i64.wrap ((k : Int) + 1) = (k : Int) + 1 := IntWalk.i64_in _ ⟨by omega, by omega⟩
      have s3 : IntKind.i64.wrap (((k : Int) + 1) * 128) = ((k : Int) + 1) * 128 := IntWalk.i64_in _ ⟨by omega, by omega⟩
      have hsl := page_slice wr w.heap.size k hlt
      have i1 : IntKind.i64.wrap ((i : Int) * 8) = (i : Int) * 8 := IntWalk.i64_in _ ⟨by omega, by omega⟩
      have i2 : IntKind.i64.wrap ((fr : Int) + (i : Int) * 8) = (fr : Int) + (i : Int) * 8 := IntWalk.i64_in _ ⟨by omega, by omega⟩
      have i3 : IntKind.i64.wrap ((fr : Int) + (i : Int) * 8 + (k : Int)) = (fr : Int) + (i : Int) * 8 + (k : Int) := IntWalk.i64_in _ ⟨by omega, by omega⟩
      have hbk := Lib.hid ((chunk_bytes (k := k) hl hb hlt (1024 - k * 128) (by omega) (by unfold maxLen; omega)).upd (Upd.drew Non wr) fun _ _ h => h)
      clear hst' eidx hwv hPk hrm' hi'
      go_wp2_with fail
      refine wp_region_held_drew (S := (fun w' => w'.heap[P]? = some (.cells #[.pointer (some ⟨r, 0, none⟩), .pointer (some ⟨D, 0, none⟩), .int .i64 (fr : Int), .slice (some ⟨I, 0, none⟩) st.length st.length] 29 (0, 0)))) (by kernel_rfl) (by exact hB.cell) (fun hHeld => ?_)
      (refine wpAnyH_take (i := 0) (oi := ?oi_o1) (v := ?v_o1) ?ho_o1 ?hs_o1 ?hf_o1 ?hr_o1 ?hQ_o1 ?hy_o1 ?hS_o1 ?rest_o1; (case hr_o1 => kernel_rfl); (case hf_o1 => kernel_rfl); (case hs_o1 => kernel_rfl); (case ho_o1 => (simp only [List.getElem?_toArray, List.getElem?_cons_succ, List.getElem?_cons_zero]; rfl)); (case hS_o1 => assumption); (case hQ_o1 => exact fun _ _ _ h => h); (case hy_o1 => (refine Or.inl ⟨by rfl, ?_⟩; (intro w hSw; obtain ⟨e0, g0⟩ := cells_of hSw; go_simp) <;> with_reducible rfl)); (try simp only [Act.put, List.setIfInBounds_toArray, List.set_cons_zero, List.set_cons_succ]))
      (refine wpAnyH_take (i := 1) (oi := ?oi_o2) (v := ?v_o2) ?ho_o2 ?hs_o2 ?hf_o2 ?hr_o2 ?hQ_o2 ?hy_o2 ?hS_o2 ?rest_o2; (case hr_o2 => kernel_rfl); (case hf_o2 => kernel_rfl); (case hs_o2 => kernel_rfl); (case ho_o2 => (simp only [List.getElem?_toArray, List.getElem?_cons_succ, List.getElem?_cons_zero]; rfl)); (case hS_o2 => assumption); (case hQ_o2 => exact fun _ _ _ h => h); (case hy_o2 => (refine Or.inl ⟨by rfl, ?_⟩; (intro w hSw; obtain ⟨e0, g0⟩ := cells_of hSw; go_simp) <;> with_reducible rfl)); (try simp only [Act.put, List.setIfInBounds_toArray, List.set_cons_zero, List.set_cons_succ]))
      (refine wpAnyH_take (i := 2) (oi := ?oi_o3) (v := ?v_o3) ?ho_o3 ?hs_o3 ?hf_o3 ?hr_o3 ?hQ_o3 ?hy_o3 ?hS_o3 ?rest_o3; (case hr_o3 => kernel_rfl); (case hf_o3 => kernel_rfl); (case hs_o3 => kernel_rfl); (case ho_o3 => (simp only [List.getElem?_toArray, List.getElem?_cons_succ, List.getElem?_cons_zero]; rfl)); (case hS_o3 => assumption); (case hQ_o3 => exact fun _ _ _ h => h); (case hy_o3 => (refine Or.inl ⟨by rfl, ?_⟩; (intro w hSw; obtain ⟨e0, g0⟩ := cells_of hSw; go_simp) <;> with_reducible rfl)); (try simp only [Act.put, List.setIfInBounds_toArray, List.set_cons_zero, List.set_cons_succ]))
      (refine wpAnyH_take (i := 3) (oi := ?oi_o4) (v := ?v_o4) ?ho_o4 ?hs_o4 ?hf_o4 ?hr_o4 ?hQ_o4 ?hy_o4 ?hS_o4 ?rest_o4; (case hr_o4 => kernel_rfl); (case hf_o4 => kernel_rfl); (case hs_o4 => kernel_rfl); (case ho_o4 => (simp only [List.getElem?_toArray, List.getElem?_cons_succ, List.getElem?_cons_zero]; rfl)); (case hS_o4 => assumption); (case hQ_o4 => exact fun _ _ _ h => h); (case hy_o4 => (refine Or.inl ⟨by rfl, ?_⟩; (intro w hSw; obtain ⟨e0, g0⟩ := cells_of hSw; go_simp) <;> with_reducible rfl)); (try simp only [Act.put, List.setIfInBounds_toArray, List.set_cons_zero, List.set_cons_succ]))
      (refine wpAnyH_take (i := 4) (oi := ?oi_o5) (v := ?v_o5) ?ho_o5 ?hs_o5 ?hf_o5 ?hr_o5 ?hQ_o5 ?hy_o5 ?hS_o5 ?rest_o5; (case hr_o5 => kernel_rfl); (case hf_o5 => kernel_rfl); (case hs_o5 => kernel_rfl); (case ho_o5 => (simp only [List.getElem?_toArray, List.getElem?_cons_succ, List.getElem?_cons_zero]; rfl)); (case hS_o5 => assumption); (case hQ_o5 => exact fun _ _ _ h => h); (case hy_o5 => (refine Or.inl ⟨by rfl, ?_⟩; (intro w hSw; obtain ⟨e0, g0⟩ := cells_of hSw; go_simp) <;> with_reducible rfl)); (try simp only [Act.put, List.setIfInBounds_toArray, List.set_cons_zero, List.set_cons_succ]))
      (refine wpAnyH_take (i := 5) (oi := ?oi_o6) (v := ?v_o6) ?ho_o6 ?hs_o6 ?hf_o6 ?hr_o6 ?hQ_o6 ?hy_o6 ?hS_o6 ?rest_o6; (case hr_o6 => kernel_rfl); (case hf_o6 => kernel_rfl); (case hs_o6 => kernel_rfl); (case ho_o6 => (simp only [List.getElem?_toArray, List.getElem?_cons_succ, List.getElem?_cons_zero]; rfl)); (case hS_o6 => assumption); (case hQ_o6 => exact fun _ _ _ h => h); (case hy_o6 => (refine Or.inl ⟨by rfl, ?_⟩; (intro w hSw; obtain ⟨e0, g0⟩ := cells_of hSw; go_simp) <;> with_reducible rfl)); (try simp only [Act.put, List.setIfInBounds_toArray, List.set_cons_zero, List.set_cons_succ]))
      (refine wpAnyH_take (i := 6) (oi := ?oi_o7) (v := ?v_o7) ?ho_o7 ?hs_o7 ?hf_o7 ?hr_o7 ?hQ_o7 ?hy_o7 ?hS_o7 ?rest_o7; (case hr_o7 => kernel_rfl); (case hf_o7 => kernel_rfl); (case hs_o7 => kernel_rfl); (case ho_o7 => (simp only [List.getElem?_toArray, List.getElem?_cons_succ, List.getElem?_cons_zero]; rfl)); (case hS_o7 => assumption); (case hQ_o7 => exact fun _ _ _ h => h); (case hy_o7 => (refine Or.inl ⟨by rfl, ?_⟩; (intro w hSw; obtain ⟨e0, g0⟩ := cells_of hSw; go_simp) <;> with_reducible rfl)); (try simp only [Act.put, List.setIfInBounds_toArray, List.set_cons_zero, List.set_cons_succ]))
      (refine wpAnyH_take (i := 7) (oi := ?oi_o8) (v := ?v_o8) ?ho_o8 ?hs_o8 ?hf_o8 ?hr_o8 ?hQ_o8 ?hy_o8 ?hS_o8 ?rest_o8; (case hr_o8 => kernel_rfl); (case hf_o8 => kernel_rfl); (case hs_o8 => kernel_rfl); (case ho_o8 => (simp only [List.getElem?_toArray, List.getElem?_cons_succ, List.getElem?_cons_zero]; rfl)); (case hS_o8 => assumption); (case hQ_o8 => exact fun _ _ _ h => h); (case hy_o8 => (refine Or.inl ⟨by rfl, ?_⟩; (intro w hSw; obtain ⟨e0, g0⟩ := cells_of hSw; go_simp) <;> with_reducible rfl)); (try simp only [Act.put, List.setIfInBounds_toArray, List.set_cons_zero, List.set_cons_succ]))
      (refine wpAnyH_take (i := 8) (oi := ?oi_o9) (v := ?v_o9) ?ho_o9 ?hs_o9 ?hf_o9 ?hr_o9 ?hQ_o9 ?hy_o9 ?hS_o9 ?rest_o9; (case hr_o9 => kernel_rfl); (case hf_o9 => kernel_rfl); (case hs_o9 => kernel_rfl); (case ho_o9 => (simp only [List.getElem?_toArray, List.getElem?_cons_succ, List.getElem?_cons_zero]; rfl)); (case hS_o9 => assumption); (case hQ_o9 => exact fun _ _ _ h => h); (case hy_o9 => (refine Or.inl ⟨by rfl, ?_⟩; (intro w hSw; obtain ⟨e0, g0⟩ := cells_of hSw; go_simp) <;> with_reducible rfl)); (try simp only [Act.put, List.setIfInBounds_toArray, List.set_cons_zero, List.set_cons_succ]))
      (refine wpAnyH_take (i := 9) (oi := ?oi_o10) (v := ?v_o10) ?ho_o10 ?hs_o10 ?hf_o10 ?hr_o10 ?hQ_o10 ?hy_o10 ?hS_o10 ?rest_o10; (case hr_o10 => kernel_rfl); (case hf_o10 => kernel_rfl); (case hs_o10 => kernel_rfl); (case ho_o10 => (simp only [List.getElem?_toArray, List.getElem?_cons_succ, List.getElem?_cons_zero]; rfl)); (case hS_o10 => assumption); (case hQ_o10 => exact fun _ _ _ h => h); (case hy_o10 => (refine Or.inl ⟨by rfl, ?_⟩; (intro w hSw; obtain ⟨e0, g0⟩ := cells_of hSw; go_simp) <;> with_reducible rfl)); (try simp only [Act.put, List.setIfInBounds_toArray, List.set_cons_zero, List.set_cons_succ]))
      (refine wpAnyH_take (i := 10) (oi := ?oi_o11) (v := ?v_o11) ?ho_o11 ?hs_o11 ?hf_o11 ?hr_o11 ?hQ_o11 ?hy_o11 ?hS_o11 ?rest_o11; (case hr_o11 => kernel_rfl); (case hf_o11 => kernel_rfl); (case hs_o11 => kernel_rfl); (case ho_o11 => (simp only [List.getElem?_toArray, List.getElem?_cons_succ, List.getElem?_cons_zero]; rfl)); (case hS_o11 => assumption); (case hQ_o11 => exact fun _ _ _ h => h); (case hy_o11 => (refine Or.inl ⟨by rfl, ?_⟩; (intro w hSw; obtain ⟨e0, g0⟩ := cells_of hSw; go_simp) <;> with_reducible rfl)); (try simp only [Act.put, List.setIfInBounds_toArray, List.set_cons_zero, List.set_cons_succ]))
      (refine wpAnyH_take (i := 11) (oi := ?oi_o12) (v := ?v_o12) ?ho_o12 ?hs_o12 ?hf_o12 ?hr_o12 ?hQ_o12 ?hy_o12 ?hS_o12 ?rest_o12; (case hr_o12 => kernel_rfl); (case hf_o12 => kernel_rfl); (case hs_o12 => kernel_rfl); (case ho_o12 => (simp only [List.getElem?_toArray, List.getElem?_cons_succ, List.getElem?_cons_zero]; rfl)); (case hS_o12 => assumption); (case hQ_o12 => exact fun _ _ _ h => h); (case hy_o12 => (refine Or.inl ⟨by rfl, ?_⟩; (intro w hSw; obtain ⟨e0, g0⟩ := cells_of hSw; go_simp) <;> with_reducible rfl)); (try simp only [Act.put, List.setIfInBounds_toArray, List.set_cons_zero, List.set_cons_succ]))
      (refine wpAnyH_take (i := 12) (oi := ?oi_o13) (v := ?v_o13) ?ho_o13 ?hs_o13 ?hf_o13 ?hr_o13 ?hQ_o13 ?hy_o13 ?hS_o13 ?rest_o13; (case hr_o13 => kernel_rfl); (case hf_o13 => kernel_rfl); (case hs_o13 => kernel_rfl); (case ho_o13 => (simp only [List.getElem?_toArray, List.getElem?_cons_succ, List.getElem?_cons_zero]; rfl)); (case hS_o13 => assumption); (case hQ_o13 => exact fun _ _ _ h => h); (case hy_o13 => (refine Or.inl ⟨by rfl, ?_⟩; (intro w hSw; obtain ⟨e0, g0⟩ := cells_of hSw; go_simp) <;> with_reducible rfl)); (try simp only [Act.put, List.setIfInBounds_toArray, List.set_cons_zero, List.set_cons_succ]))
      (refine wpAnyH_take (i := 13) (oi := ?oi_o14) (v := ?v_o14) ?ho_o14 ?hs_o14 ?hf_o14 ?hr_o14 ?hQ_o14 ?hy_o14 ?hS_o14 ?rest_o14; (case hr_o14 => kernel_rfl); (case hf_o14 => kernel_rfl); (case hs_o14 => kernel_rfl); (case ho_o14 => (simp only [List.getElem?_toArray, List.getElem?_cons_succ, List.getElem?_cons_zero]; rfl)); (case hS_o14 => assumption); (case hQ_o14 => exact fun _ _ _ h => h); (case hy_o14 => (refine Or.inl ⟨by rfl, ?_⟩; (intro w hSw; obtain ⟨e0, g0⟩ := cells_of hSw; go_simp) <;> with_reducible rfl)); (try simp only [Act.put, List.setIfInBounds_toArray, List.set_cons_zero, List.set_cons_succ]))
      refine wpAnyH_ready (rs := [14]) (by kernel_rfl) (by simp) ?_
      refine (AllReadyH.cons (o := ?ooo15_0) ?hoo15_0 ?hso15_0 AllReadyH.nil)
      case hoo15_0 => (simp only [List.getElem?_toArray, List.getElem?_cons_succ, List.getElem?_cons_zero]; rfl)
      case hso15_0 =>
        intro K hK
        go_simp
        go_at_call 44
        refine (hwr.out _ (hB.lv.non (Upd.drew Non wr)) _ hbk.out).mono ?_
        rintro en w5 ⟨rfl, F5, hL5, hK5⟩
        have hB5 := hB.non (Upd.drew Non wr) |>.disk hL5 hK5
        have hc5 := hB5.cell
        try go_wp2_with fail
        refine hK.out _ _ (by exact hc5) (fun hHeld => ?_)
        clear hK K
        try simp only [Act.put, List.setIfInBounds_toArray, List.set_cons_zero, List.set_cons_succ]
        (refine wpAnyH_take (i := 15) (oi := ?oi_o16) (v := ?v_o16) ?ho_o16 ?hs_o16 ?hf_o16 ?hr_o16 ?hQ_o16 ?hy_o16 ?hS_o16 ?rest_o16; (case hr_o16 => kernel_rfl); (case hf_o16 => kernel_rfl); (case hs_o16 => kernel_rfl); (case ho_o16 => (simp only [List.getElem?_toArray, List.getElem?_cons_succ, List.getElem?_cons_zero]; rfl)); (case hS_o16 => assumption); (case hQ_o16 => exact fun _ _ _ h => h); (case hy_o16 => (refine Or.inl ⟨by rfl, ?_⟩; (intro w hSw; skip; go_simp) <;> with_reducible rfl)); (try simp only [Act.put, List.setIfInBounds_toArray, List.set_cons_zero, List.set_cons_succ]))
        refine wpAnyH_done (by kernel_rfl) ?_ _
        have hb5 := hK5.upd.heap (show wr.drew.heap[w.heap.size]? = _ from hb) hbF
        have hbF5 : ¬ F5 w.heap.size := fun e => (hK5.own _ e).elim hbF (fun h => by have := heap_lt hb; have hz : wr.drew.heap.size = wr.heap.size := rfl; omega)
        have hKk := hKp.trans (own_kp hh.out.hi hK5 (Upd.drew Non wr) hKp.upd.size)
        replace hB5 := Lib.hid hB5
        clear hHeld hb hbF hB hc5 hL5 hK5 hKp hwr hbk hsl s1 s2 s3 i1 i2 i3
        go_wp2_with fail
        go_roundw
        case rel => exact ⟨k + 1, F5, _, by go_num, by omega, hB5.out, hst.out, hlv.out, hP.out, hb5, hbF5, hKk⟩
        case measure => simp [intOf]; omega
    · have hltI : ¬ (k : Int) < 8 := by omega
      obtain rfl : k = 8 := by omega
      replace hB := Lib.hid hB
      go_wp2_with fail
      go_ret
      exact ⟨rfl, F1, dk, hst.symm, hB.out, hKp⟩
end
end Go.Proofs.Ytfjcjppfihafgaa
