/- slot.Bytes. -/
import Derived.Test.YtmnoldikimcafaaMSlL
import Derived.Test.YtmnoldikimcafaaMTagA
import Derived.Test.YtmnoldikimcafaaMField
import Derived.Deep.RegionHeld3
namespace Go.Proofs.Ytmnoldikimcafaa
open Go.RowKit Go.Amb Go.Shelf
set_option linter.unusedVariables false
set_option linter.unusedSimpArgs false
/-- A slot's bytes. -/
def slotBody (x : S5) : List UInt8 := [83] ++ fld (flagS x.f x.l : Nat) 1 ++ fld x.e 4 ++ fld x.q 8 ++ fld x.d.length 2 ++ x.d ++ List.replicate (108 - x.d.length) 0
def slotB (x : S5) : List UInt8 := slotBody x ++ fld (sumC (slotBody x) : Nat) 4
theorem flagS_le (f l : Bool) : flagS f l ≤ 3 := by cases f <;> cases l <;> decide
theorem sumC_lt (l : List UInt8) : sumC l < 4294967296 := by
  unfold sumC; exact Nat.xor_lt_two_pow (n := 32) (by omega) (crcL_lt l _ (by omega))
/-- What Bytes tells. -/
def BytesTo (x : S5) (w : World) : Ending → World → Prop := fun en w' =>
  (rightS x = true ∧ ∃ v, en = .returned (.tuple #[v, .int .i64 0]) ∧ Go.Amb.Own w' (w.heap.size + 1) 5 v (slotB x) ∧ Upd Non w w') ∨
  (rightS x = false ∧ en = .returned (.tuple #[.slice none 0 0, .int .i64 2]) ∧ Upd Non w w')
set_option maxRecDepth 100000
set_option maxHeartbeats 2000000 in
theorem lBytes (x : S5) (w : World) : Calls Try.prog 27 #[x.v] w (BytesTo x w) := by
  have hchk := Lib.hid (fun w => lCheck x w)
  have hflg := Lib.hid (fun w => lFlags x w)
  cases hR : rightS x with
  | false =>
    rw [hR] at hchk
    obtain ⟨e, q, f, l, d⟩ := x
    replace hR := Lib.hid hR
    go_enter Try.func27, Try.ntmps27
    go_wp2_with fail
    refine (hchk.out _).mono ?_
    rintro en w1 ⟨rfl, hu1⟩
    have hU1 := ((Upd.refl Non w).then_alloc (.cells #[.int .i64 e, .int .i64 q, .bool f, .bool l, .string ⟨d.toArray⟩] 56)).trans hu1 fun _ _ h => h
    go_wp2_with fail
    refine bodyPost_ret (v := .tuple #[.slice none 0 0, .int .i64 2]) (by simp [results, Try.results27, go_sem]; try rfl) rfl (.inr ⟨hR.out, rfl, hU1⟩)
  | true =>
    rw [hR] at hchk
    have hRR := of_decide_eq_true hR
    obtain ⟨e, q, f, l, d⟩ := x
    simp only at hRR hflg
    have hd : d.length ≤ 108 := hRR.2.2
    have he1 := hRR.1.1
    have he2 := hRR.1.2
    have hq1 := hRR.2.1.1
    have hq2 := hRR.2.1.2
    clear hRR
    replace hR := Lib.hid hR
    have hfl := flagS_le f l
    generalize hfn : flagS f l = fl at *
    go_enter Try.func27, Try.ntmps27
    go_wp2_with fail
    refine (hchk.out _).mono ?_
    rintro en w1 ⟨rfl, hu1⟩
    obtain ⟨y, -, hz1, hU1⟩ := hu1.own1 (fun _ h => h.elim)
    have y0 := y 0
    have y1 := y 1
    have y2 := y 2
    have y3 := y 3
    have y4 := y 4
    clear y hu1
    go_wp2_with fail
    refine (hflg.out _).mono ?_
    rintro en w2 ⟨rfl, hu2⟩
    have hA := Upd.alloc Non w1 (.cells #[.int .u8 83] 5)
    have hU2 := (hU1.trans hA fun _ _ h => h).trans hu2 fun _ _ h => h
    have y0 := hu2.cell (hA.cell y0 fun h => h) fun h => h
    have y1 := hu2.cell (hA.cell y1 fun h => h) fun h => h
    have y4 := hu2.cell (hA.cell y4 fun h => h) fun h => h
    have ho2 : Go.Amb.Own w2 (w.heap.size + 1) 5 (.slice (some ⟨w1.heap.size, 0, none⟩) 1 1) [83] := hu2.owns (World.ownsRow_lit (size := 1) w1 #[.int .u8 83] 1 (by omega) (by unfold maxLen; omega) rfl) fun _ _ h => h
    have hz2 : w.heap.size + 1 ≤ w2.heap.size := by have := hu2.size; simp at this; omega
    go_wp2_with fail
    refine (Put8 (w.heap.size + 1) _ [83] fl w2 (by omega) (by omega) ho2 (by simp) (by omega)).mono ?_
    rintro en w3 ⟨v3, rfl, ho3, hu3, -⟩
    have y0 := hu3.cell y0 (fun h => by have := own_ge ho2 h; (try dsimp only at this) <;> omega)
    have y1 := hu3.cell y1 (fun h => by have := own_ge ho2 h; (try dsimp only at this) <;> omega)
    have y4 := hu3.cell y4 (fun h => by have := own_ge ho2 h; (try dsimp only at this) <;> omega)
    have hU3 := hU2.trans hu3 fun j hj h => absurd (own_ge ho2 h) (by omega)
    have hz3 := hU3.size
    have hk3 := hu3.size
    have hl3 : ([83] ++ fld (fl : Int) 1).length = 2 := by simp [fld, fldTo]
    generalize hL3 : [83] ++ fld (fl : Int) 1 = L3 at ho3 hl3
    clear hu3 ho2 hu2 hA hU2 hU1
    replace hL3 := Lib.hid hL3
    go_wp2_with fail
    refine wp_region_held_drew (S := (fun w' => w'.cell? ⟨w.heap.size, 0, none⟩ = some (.int .i64 e) ∧ w'.cell? ⟨w.heap.size, 1, none⟩ = some (.int .i64 q) ∧ w'.cell? ⟨w.heap.size, 4, none⟩ = some (.string ⟨d.toArray⟩))) (by kernel_rfl) (by (try dsimp only); first | exact ⟨b0, b1, b4⟩ | exact ⟨a0, a1, a4⟩ | exact ⟨y0, y1, y4⟩) (fun hHeld => ?_)
    (refine wpAnyH_take (i := 0) (oi := ?oi_1_0) (v := ?v_1_0) ?ho_1_0 ?hs_1_0 ?hf_1_0 ?hr_1_0 ?hQ_1_0 ?hy_1_0 ?hS_1_0 ?rest_1_0; (case hr_1_0 => kernel_rfl); (case hf_1_0 => kernel_rfl); (case hs_1_0 => kernel_rfl); (case ho_1_0 => (simp only [List.getElem?_toArray, List.getElem?_cons_succ, List.getElem?_cons_zero]; rfl)); (case hS_1_0 => assumption); (case hQ_1_0 => exact fun _ _ _ h => h); (case hy_1_0 => (refine Or.inl ⟨by rfl, ?_⟩; (intro w hSw; (try dsimp only at hSw); go_simp) <;> with_reducible rfl)); (try simp only [Act.put, List.setIfInBounds_toArray, List.set_cons_zero, List.set_cons_succ]))
    (refine wpAnyH_take (i := 1) (oi := ?oi_1_1) (v := ?v_1_1) ?ho_1_1 ?hs_1_1 ?hf_1_1 ?hr_1_1 ?hQ_1_1 ?hy_1_1 ?hS_1_1 ?rest_1_1; (case hr_1_1 => kernel_rfl); (case hf_1_1 => kernel_rfl); (case hs_1_1 => kernel_rfl); (case ho_1_1 => (simp only [List.getElem?_toArray, List.getElem?_cons_succ, List.getElem?_cons_zero]; rfl)); (case hS_1_1 => assumption); (case hQ_1_1 => exact fun _ _ _ h => h); (case hy_1_1 => (refine Or.inl ⟨by rfl, ?_⟩; (intro w hSw; (try dsimp only at hSw); go_simp) <;> with_reducible rfl)); (try simp only [Act.put, List.setIfInBounds_toArray, List.set_cons_zero, List.set_cons_succ]))
    (refine wpAnyH_take (i := 2) (oi := ?oi_1_2) (v := ?v_1_2) ?ho_1_2 ?hs_1_2 ?hf_1_2 ?hr_1_2 ?hQ_1_2 ?hy_1_2 ?hS_1_2 ?rest_1_2; (case hr_1_2 => kernel_rfl); (case hf_1_2 => kernel_rfl); (case hs_1_2 => kernel_rfl); (case ho_1_2 => (simp only [List.getElem?_toArray, List.getElem?_cons_succ, List.getElem?_cons_zero]; rfl)); (case hS_1_2 => assumption); (case hQ_1_2 => exact fun _ _ _ h => h); (case hy_1_2 => (refine Or.inl ⟨by rfl, ?_⟩; (intro w hSw; (try dsimp only at hSw); go_simp) <;> with_reducible rfl)); (try simp only [Act.put, List.setIfInBounds_toArray, List.set_cons_zero, List.set_cons_succ]))
    (refine wpAnyH_take (i := 4) (oi := ?oi_1_4) (v := ?v_1_4) ?ho_1_4 ?hs_1_4 ?hf_1_4 ?hr_1_4 ?hQ_1_4 ?hy_1_4 ?hS_1_4 ?rest_1_4; (case hr_1_4 => kernel_rfl); (case hf_1_4 => kernel_rfl); (case hs_1_4 => kernel_rfl); (case ho_1_4 => (simp only [List.getElem?_toArray, List.getElem?_cons_succ, List.getElem?_cons_zero]; rfl)); (case hS_1_4 => assumption); (case hQ_1_4 => exact fun _ _ _ h => h); (case hy_1_4 => (refine Or.inl ⟨by rfl, ?_⟩; (intro w hSw; (try dsimp only at hSw); go_simp) <;> with_reducible rfl)); (try simp only [Act.put, List.setIfInBounds_toArray, List.set_cons_zero, List.set_cons_succ]))
    (refine wpAnyH_take (i := 5) (oi := ?oi_1_5) (v := ?v_1_5) ?ho_1_5 ?hs_1_5 ?hf_1_5 ?hr_1_5 ?hQ_1_5 ?hy_1_5 ?hS_1_5 ?rest_1_5; (case hr_1_5 => kernel_rfl); (case hf_1_5 => kernel_rfl); (case hs_1_5 => kernel_rfl); (case ho_1_5 => (simp only [List.getElem?_toArray, List.getElem?_cons_succ, List.getElem?_cons_zero]; rfl)); (case hS_1_5 => assumption); (case hQ_1_5 => exact fun _ _ _ h => h); (case hy_1_5 => (refine Or.inl ⟨by rfl, ?_⟩; (intro w hSw; (try dsimp only at hSw); go_simp) <;> with_reducible rfl)); (try simp only [Act.put, List.setIfInBounds_toArray, List.set_cons_zero, List.set_cons_succ]))
    (refine wpAnyH_ready (rs := [3]) (by kernel_rfl) (by simp) ?_; refine AllReadyH.cons (o := ?oo_1_3) ?hoo_1_3 ?hst_1_3 AllReadyH.nil; (case hoo_1_3 => (simp only [List.getElem?_toArray, List.getElem?_cons_succ, List.getElem?_cons_zero]; rfl)); intro K hK; go_simp; (first | (go_at_call 48; refine (Put32 (w.heap.size + 1) _ L3 e w3.drew (by omega) (by omega) ho3 (by omega) (by show _ ≤ w3.heap.size; omega)).mono ?_; rintro en w4 ⟨v4, rfl, ho4, hu4, -⟩; have a0 := hu4.cell y0 (fun h => by have := own_ge ho3 h; (try dsimp only at this) <;> omega); have a1 := hu4.cell y1 (fun h => by have := own_ge ho3 h; (try dsimp only at this) <;> omega); have a4 := hu4.cell y4 (fun h => by have := own_ge ho3 h; (try dsimp only at this) <;> omega); have hU4 : Upd Non w w4 := (hU3.then_drew).trans hu4 (fun j hj h => absurd (own_ge ho3 h) (by omega)); have hz4 : w3.heap.size ≤ w4.heap.size := hu4.size; have hl4 : (L3 ++ fld e 4).length = 6 := by simp only [List.length_append, fld_length, hl3]) | (go_at_call 47; refine (Put64 (w.heap.size + 1) _ (L3 ++ fld e 4) q _ (by omega) (by omega) ho4 (by omega) (by show _ ≤ w4.heap.size; omega)).mono ?_; rintro en w5 ⟨v5, rfl, ho5, hu5, -⟩; have b0 := hu5.cell a0 (fun h => by have := own_ge ho4 h; (try dsimp only at this) <;> omega); have b1 := hu5.cell a1 (fun h => by have := own_ge ho4 h; (try dsimp only at this) <;> omega); have b4 := hu5.cell a4 (fun h => by have := own_ge ho4 h; (try dsimp only at this) <;> omega); have hU5 : Upd Non w w5 := hU4.trans hu5 (fun j hj h => absurd (own_ge ho4 h) (by omega)); have hz5 : w4.heap.size ≤ w5.heap.size := hu5.size; have hl5 : (L3 ++ fld e 4 ++ fld q 8).length = 14 := by simp only [List.length_append, fld_length, hl3])); (try go_wp2_with fail); refine hK.out _ _ (by (try dsimp only); first | exact ⟨b0, b1, b4⟩ | exact ⟨a0, a1, a4⟩ | exact ⟨y0, y1, y4⟩) (fun hHeld => ?_); clear hK K; (try simp only [Act.put, List.setIfInBounds_toArray, List.set_cons_zero, List.set_cons_succ]))
    (refine wpAnyH_ready (rs := [6]) (by kernel_rfl) (by simp) ?_; refine AllReadyH.cons (o := ?oo_1_6) ?hoo_1_6 ?hst_1_6 AllReadyH.nil; (case hoo_1_6 => (simp only [List.getElem?_toArray, List.getElem?_cons_succ, List.getElem?_cons_zero]; rfl)); intro K hK; go_simp; (first | (go_at_call 48; refine (Put32 (w.heap.size + 1) _ L3 e w3.drew (by omega) (by omega) ho3 (by omega) (by show _ ≤ w3.heap.size; omega)).mono ?_; rintro en w4 ⟨v4, rfl, ho4, hu4, -⟩; have a0 := hu4.cell y0 (fun h => by have := own_ge ho3 h; (try dsimp only at this) <;> omega); have a1 := hu4.cell y1 (fun h => by have := own_ge ho3 h; (try dsimp only at this) <;> omega); have a4 := hu4.cell y4 (fun h => by have := own_ge ho3 h; (try dsimp only at this) <;> omega); have hU4 : Upd Non w w4 := (hU3.then_drew).trans hu4 (fun j hj h => absurd (own_ge ho3 h) (by omega)); have hz4 : w3.heap.size ≤ w4.heap.size := hu4.size; have hl4 : (L3 ++ fld e 4).length = 6 := by simp only [List.length_append, fld_length, hl3]) | (go_at_call 47; refine (Put64 (w.heap.size + 1) _ (L3 ++ fld e 4) q _ (by omega) (by omega) ho4 (by omega) (by show _ ≤ w4.heap.size; omega)).mono ?_; rintro en w5 ⟨v5, rfl, ho5, hu5, -⟩; have b0 := hu5.cell a0 (fun h => by have := own_ge ho4 h; (try dsimp only at this) <;> omega); have b1 := hu5.cell a1 (fun h => by have := own_ge ho4 h; (try dsimp only at this) <;> omega); have b4 := hu5.cell a4 (fun h => by have := own_ge ho4 h; (try dsimp only at this) <;> omega); have hU5 : Upd Non w w5 := hU4.trans hu5 (fun j hj h => absurd (own_ge ho4 h) (by omega)); have hz5 : w4.heap.size ≤ w5.heap.size := hu5.size; have hl5 : (L3 ++ fld e 4 ++ fld q 8).length = 14 := by simp only [List.length_append, fld_length, hl3])); (try go_wp2_with fail); refine hK.out _ _ (by (try dsimp only); first | exact ⟨b0, b1, b4⟩ | exact ⟨a0, a1, a4⟩ | exact ⟨y0, y1, y4⟩) (fun hHeld => ?_); clear hK K; (try simp only [Act.put, List.setIfInBounds_toArray, List.set_cons_zero, List.set_cons_succ]))
    (refine wpAnyH_take (i := 7) (oi := ?oi_1_7) (v := ?v_1_7) ?ho_1_7 ?hs_1_7 ?hf_1_7 ?hr_1_7 ?hQ_1_7 ?hy_1_7 ?hS_1_7 ?rest_1_7; (case hr_1_7 => kernel_rfl); (case hf_1_7 => kernel_rfl); (case hs_1_7 => kernel_rfl); (case ho_1_7 => (simp only [List.getElem?_toArray, List.getElem?_cons_succ, List.getElem?_cons_zero]; rfl)); (case hS_1_7 => assumption); (case hQ_1_7 => exact fun _ _ _ h => h); (case hy_1_7 => (refine Or.inl ⟨by rfl, ?_⟩; (intro w hSw; (try dsimp only at hSw); go_simp) <;> with_reducible rfl)); (try simp only [Act.put, List.setIfInBounds_toArray, List.set_cons_zero, List.set_cons_succ]))
    refine wpAnyH_done (by kernel_rfl) ?_ _
    have hk5 : w.heap.size + 1 ≤ w5.heap.size := by omega
    generalize hL5 : L3 ++ fld e 4 ++ fld q 8 = L5 at ho5 hl5
    replace hL5 := Lib.hid hL5
    have hi8 := Lib.hid (show (Try.prog.info? 5).map (fun i => (i.zero, i.size, i.bytes)) = some (some (.int .u8 0), 1, 1) from rfl)
    clear ho3 ho4 hu4 hu5 hU3 hU4 y0 y1 y4 a0 a1 a4 b0 b1
    go_wp2_with fail
    refine wp_region_held_drew (S := (fun w' => w'.cell? ⟨w.heap.size, 4, none⟩ = some (.string ⟨d.toArray⟩))) (by kernel_rfl) (by (try dsimp only); first | exact d4 | exact c4 | exact b4) (fun hHeld => ?_)
    (refine wpAnyH_take (i := 0) (oi := ?oi_2_0) (v := ?v_2_0) ?ho_2_0 ?hs_2_0 ?hf_2_0 ?hr_2_0 ?hQ_2_0 ?hy_2_0 ?hS_2_0 ?rest_2_0; (case hr_2_0 => kernel_rfl); (case hf_2_0 => kernel_rfl); (case hs_2_0 => kernel_rfl); (case ho_2_0 => (simp only [List.getElem?_toArray, List.getElem?_cons_succ, List.getElem?_cons_zero]; rfl)); (case hS_2_0 => assumption); (case hQ_2_0 => exact fun _ _ _ h => h); (case hy_2_0 => (refine Or.inl ⟨by rfl, ?_⟩; (intro w hSw; (try dsimp only at hSw); go_simp) <;> with_reducible rfl)); (try simp only [Act.put, List.setIfInBounds_toArray, List.set_cons_zero, List.set_cons_succ]))
    (refine wpAnyH_take (i := 1) (oi := ?oi_2_1) (v := ?v_2_1) ?ho_2_1 ?hs_2_1 ?hf_2_1 ?hr_2_1 ?hQ_2_1 ?hy_2_1 ?hS_2_1 ?rest_2_1; (case hr_2_1 => kernel_rfl); (case hf_2_1 => kernel_rfl); (case hs_2_1 => kernel_rfl); (case ho_2_1 => (simp only [List.getElem?_toArray, List.getElem?_cons_succ, List.getElem?_cons_zero]; rfl)); (case hS_2_1 => assumption); (case hQ_2_1 => exact fun _ _ _ h => h); (case hy_2_1 => (refine Or.inl ⟨by rfl, ?_⟩; (intro w hSw; (try dsimp only at hSw); go_simp) <;> with_reducible rfl)); (try simp only [Act.put, List.setIfInBounds_toArray, List.set_cons_zero, List.set_cons_succ]))
    (refine wpAnyH_take (i := 2) (oi := ?oi_2_2) (v := ?v_2_2) ?ho_2_2 ?hs_2_2 ?hf_2_2 ?hr_2_2 ?hQ_2_2 ?hy_2_2 ?hS_2_2 ?rest_2_2; (case hr_2_2 => kernel_rfl); (case hf_2_2 => kernel_rfl); (case hs_2_2 => kernel_rfl); (case ho_2_2 => (simp only [List.getElem?_toArray, List.getElem?_cons_succ, List.getElem?_cons_zero]; rfl)); (case hS_2_2 => assumption); (case hQ_2_2 => exact fun _ _ _ h => h); (case hy_2_2 => (refine Or.inl ⟨by rfl, ?_⟩; (intro w hSw; (try dsimp only at hSw); go_simp) <;> with_reducible rfl)); (try simp only [Act.put, List.setIfInBounds_toArray, List.set_cons_zero, List.set_cons_succ]))
    (refine wpAnyH_take (i := 3) (oi := ?oi_2_3) (v := ?v_2_3) ?ho_2_3 ?hs_2_3 ?hf_2_3 ?hr_2_3 ?hQ_2_3 ?hy_2_3 ?hS_2_3 ?rest_2_3; (case hr_2_3 => kernel_rfl); (case hf_2_3 => kernel_rfl); (case hs_2_3 => kernel_rfl); (case ho_2_3 => (simp only [List.getElem?_toArray, List.getElem?_cons_succ, List.getElem?_cons_zero]; rfl)); (case hS_2_3 => assumption); (case hQ_2_3 => exact fun _ _ _ h => h); (case hy_2_3 => (refine Or.inl ⟨by rfl, ?_⟩; (intro w hSw; (try dsimp only at hSw); go_simp) <;> with_reducible rfl)); (try simp only [Act.put, List.setIfInBounds_toArray, List.set_cons_zero, List.set_cons_succ]))
    (refine wpAnyH_take (i := 5) (oi := ?oi_2_5) (v := ?v_2_5) ?ho_2_5 ?hs_2_5 ?hf_2_5 ?hr_2_5 ?hQ_2_5 ?hy_2_5 ?hS_2_5 ?rest_2_5; (case hr_2_5 => kernel_rfl); (case hf_2_5 => kernel_rfl); (case hs_2_5 => kernel_rfl); (case ho_2_5 => (simp only [List.getElem?_toArray, List.getElem?_cons_succ, List.getElem?_cons_zero]; rfl)); (case hS_2_5 => assumption); (case hQ_2_5 => exact fun _ _ _ h => h); (case hy_2_5 => (refine Or.inl ⟨by rfl, ?_⟩; (intro w hSw; (try dsimp only at hSw); go_simp) <;> with_reducible rfl)); (try simp only [Act.put, List.setIfInBounds_toArray, List.set_cons_zero, List.set_cons_succ]))
    (refine wpAnyH_take (i := 6) (oi := ?oi_2_6) (v := ?v_2_6) ?ho_2_6 ?hs_2_6 ?hf_2_6 ?hr_2_6 ?hQ_2_6 ?hy_2_6 ?hS_2_6 ?rest_2_6; (case hr_2_6 => kernel_rfl); (case hf_2_6 => kernel_rfl); (case hs_2_6 => kernel_rfl); (case ho_2_6 => (simp only [List.getElem?_toArray, List.getElem?_cons_succ, List.getElem?_cons_zero]; rfl)); (case hS_2_6 => assumption); (case hQ_2_6 => exact fun _ _ _ h => h); (case hy_2_6 => (refine Or.inl ⟨by rfl, ?_⟩; (intro w hSw; (try dsimp only at hSw); go_simp) <;> with_reducible rfl)); (try simp only [Act.put, List.setIfInBounds_toArray, List.set_cons_zero, List.set_cons_succ]))
    (refine wpAnyH_ready (rs := [4]) (by kernel_rfl) (by simp) ?_; refine AllReadyH.cons (o := ?oo_2_4) ?hoo_2_4 ?hst_2_4 AllReadyH.nil; (case hoo_2_4 => (simp only [List.getElem?_toArray, List.getElem?_cons_succ, List.getElem?_cons_zero]; rfl)); intro K hK; go_simp; (first | (go_at_call 49; refine (Put16 (w.heap.size + 1) _ L5 (d.length : Int) w5.drew (by omega) (by omega) ho5 (by omega) (by show _ ≤ w5.heap.size; omega)).mono ?_; rintro en w6 ⟨v6, rfl, ho6, hu6, -⟩; have c4 := hu6.cell b4 (fun h => by have := own_ge ho5 h; (try dsimp only at this) <;> omega); have hU6 : Upd Non w w6 := (hU5.then_drew).trans hu6 (fun j hj h => absurd (own_ge ho5 h) (by omega)); have hz6 : w5.heap.size ≤ w6.heap.size := hu6.size; have hl6 : (L5 ++ fld (d.length : Int) 2).length = 16 := by simp only [List.length_append, fld_length, hl5]) | (refine step_app rfl _ _ 50 9 rfl (w.heap.size + 1) 5 (.int .u8 0) 1 1 Try.underlying50 hi8.out rfl _ _ _ rfl ho6 (.string ⟨d.toArray⟩) d.length (bc d) rfl (Src.ofString w6 Try.underlying9 ⟨d.toArray⟩) (by unfold maxLen; omega) (by omega) (by omega) ?_; intro v7 w7 ho7 hu7 hf7; have d4 := hu7.cell c4 (fun h => by have := own_ge ho6 h; (try dsimp only at this) <;> omega); have hU7 : Upd Non w w7 := hU6.trans hu7 (fun j hj h => absurd (own_ge ho6 h) (by omega)); have hz7 : w6.heap.size ≤ w7.heap.size := hu7.size)); (try go_wp2_with fail); refine hK.out _ _ (by (try dsimp only); first | exact d4 | exact c4 | exact b4) (fun hHeld => ?_); clear hK K; (try simp only [Act.put, List.setIfInBounds_toArray, List.set_cons_zero, List.set_cons_succ]))
    (refine wpAnyH_ready (rs := [7]) (by kernel_rfl) (by simp) ?_; refine AllReadyH.cons (o := ?oo_2_7) ?hoo_2_7 ?hst_2_7 AllReadyH.nil; (case hoo_2_7 => (simp only [List.getElem?_toArray, List.getElem?_cons_succ, List.getElem?_cons_zero]; rfl)); intro K hK; (first | (go_at_call 49; refine (Put16 (w.heap.size + 1) _ L5 (d.length : Int) w5.drew (by omega) (by omega) ho5 (by omega) (by show _ ≤ w5.heap.size; omega)).mono ?_; rintro en w6 ⟨v6, rfl, ho6, hu6, -⟩; have c4 := hu6.cell b4 (fun h => by have := own_ge ho5 h; (try dsimp only at this) <;> omega); have hU6 : Upd Non w w6 := (hU5.then_drew).trans hu6 (fun j hj h => absurd (own_ge ho5 h) (by omega)); have hz6 : w5.heap.size ≤ w6.heap.size := hu6.size; have hl6 : (L5 ++ fld (d.length : Int) 2).length = 16 := by simp only [List.length_append, fld_length, hl5]) | (refine step_app rfl _ _ 50 9 rfl (w.heap.size + 1) 5 (.int .u8 0) 1 1 Try.underlying50 hi8.out rfl _ _ _ rfl ho6 (.string ⟨d.toArray⟩) d.length (bc d) rfl (Src.ofString w6 Try.underlying9 ⟨d.toArray⟩) (by unfold maxLen; omega) (by omega) (by omega) ?_; intro v7 w7 ho7 hu7 hf7; have d4 := hu7.cell c4 (fun h => by have := own_ge ho6 h; (try dsimp only at this) <;> omega); have hU7 : Upd Non w w7 := hU6.trans hu7 (fun j hj h => absurd (own_ge ho6 h) (by omega)); have hz7 : w6.heap.size ≤ w7.heap.size := hu7.size)); (try go_wp2_with fail); refine hK.out _ _ (by (try dsimp only); first | exact d4 | exact c4 | exact b4) (fun hHeld => ?_); clear hK K; (try simp only [Act.put, List.setIfInBounds_toArray, List.set_cons_zero, List.set_cons_succ]))
    (refine wpAnyH_take (i := 8) (oi := ?oi_2_8) (v := ?v_2_8) ?ho_2_8 ?hs_2_8 ?hf_2_8 ?hr_2_8 ?hQ_2_8 ?hy_2_8 ?hS_2_8 ?rest_2_8; (case hr_2_8 => kernel_rfl); (case hf_2_8 => kernel_rfl); (case hs_2_8 => kernel_rfl); (case ho_2_8 => (simp only [List.getElem?_toArray, List.getElem?_cons_succ, List.getElem?_cons_zero]; rfl)); (case hS_2_8 => assumption); (case hQ_2_8 => exact fun _ _ _ h => h); (case hy_2_8 => (refine Or.inl ⟨by rfl, ?_⟩; (intro w hSw; (try dsimp only at hSw); go_simp) <;> with_reducible rfl)); (try simp only [Act.put, List.setIfInBounds_toArray, List.set_cons_zero, List.set_cons_succ]))
    refine wpAnyH_done (by kernel_rfl) ?_ _
    have ho7' : Go.Amb.Own w7 (w.heap.size + 1) 5 v7 (L5 ++ fld (d.length : Int) 2 ++ d) := own_app ho7
    have hl7 : (L5 ++ fld (d.length : Int) 2 ++ d).length = 16 + d.length := by simp only [List.length_append, fld_length, hl5]
    generalize hL7 : L5 ++ fld (d.length : Int) 2 ++ d = L7 at ho7' hl7
    replace hL7 := Lib.hid hL7
    have hm : (108 : Int) - (d.length : Int) = ((108 - d.length : Nat) : Int) := by omega
    replace hm := Lib.hid hm
    have hk7 : w.heap.size + 1 ≤ w7.heap.size := by omega
    clear ho5 ho6 hu6 hU5 hU6 ho7 hu7 hf7 b4 c4
    go_wp2_with (at_builtin; go_must (refine wpList_appz rfl _ _ 50 3 9 rfl (w.heap.size + 1) 5 Try.underlying50 Try.underlying3 Try.underlying9 hi8.out v7 L7 rfl ho7' (108 - d.length) (congrArg (Value.int .i64) hm.out) (by omega) hk7 ?_))
    intro v8 w8 ho8 hu8 hf8
    have hU8 : Upd Non w w8 := hU7.trans hu8 fun j hj h => absurd (own_ge ho7' h) (by omega)
    have hz8 := hu8.size
    have hl8 : (L7 ++ List.replicate (108 - d.length) 0).length = 124 := by rw [List.length_append, hl7, List.length_replicate]; omega
    generalize hL8 : L7 ++ List.replicate (108 - d.length) 0 = L8 at ho8 hl8
    replace hL8 := Lib.hid hL8
    have hsum := Lib.hid (tagSum v8 L8 w8 ho8.bytes (by omega))
    have hsl := sumC_lt L8
    obtain ⟨sm, hsm⟩ : ∃ sm, sumC L8 = sm := ⟨_, rfl⟩
    rw [hsm] at hsum hsl
    replace hsm := Lib.hid hsm
    replace hsl := Lib.hid hsl
    clear ho7' hu8 hf8 hU7
    go_wp2_with fail
    refine hsum.out.mono ?_
    rintro en w9 ⟨rfl, hu9⟩
    have ho9 := hu9.owns ho8 fun _ _ h => h
    have hU9 := hU8.trans hu9 fun _ _ h => h
    have hz9 := hu9.size
    clear ho8 hu9 hsum hU8
    go_wp2_with fail
    refine (Put32 (w.heap.size + 1) v8 L8 (sm : Int) w9 (by omega) (by have := hsl.out; omega) ho9 (by omega) (by omega)).mono ?_
    rintro en w10 ⟨v10, rfl, ho10, hu10, -⟩
    have hU10 : Upd Non w w10 := hU9.trans hu10 fun j hj h => absurd (own_ge ho9 h) (by omega)
    have hfin : slotB ⟨e, q, f, l, d⟩ = L8 ++ fld (sm : Int) 4 := by
      have h8 : slotBody ⟨e, q, f, l, d⟩ = L8 := by
        rw [← hL8.out, ← hL7.out, ← hL5.out, ← hL3.out]
        unfold slotBody
        simp only [hfn]
      unfold slotB
      rw [h8, hsm.out]
    rw [← hfin] at ho10
    go_wp2_with fail
    refine bodyPost_ret (v := .tuple #[v10, .int .i64 0]) (by simp [results, Try.results27, go_sem]; try rfl) rfl (.inl ⟨hR.out, v10, rfl, ho10, hU10⟩)
end Go.Proofs.Ytmnoldikimcafaa
