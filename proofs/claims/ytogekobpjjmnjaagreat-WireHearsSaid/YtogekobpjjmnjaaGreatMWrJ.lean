/- wire.short, putTag, put: the walks. -/
import Derived.Test.YtogekobpjjmnjaaGreatMWrA
import Derived.Test.YtogekobpjjmnjaaGreatMField
import Derived.Test.YtogekobpjjmnjaaGreatMLib
import Derived.Deep.RegionHeld3
namespace Go.Proofs.YtogekobpjjmnjaaGreat
open Go.RowKit Go.Amb
set_option linter.unusedVariables false
set_option linter.unusedSimpArgs false
set_option maxRecDepth 100000
theorem wShort (base : Nat) (v : Value) (l s : List UInt8) (w : World) (hown : Own w base 5 v l) (hlen : l.length + s.length + 1 ≤ 140737488355328) (hb : base ≤ w.heap.size) :
    Calls Tryz.prog 93 #[v, .string ⟨s.toArray⟩] w (Grew base 5 v (l ++ txtF s 1) w) := by
  have hi := Lib.hid (@info_u8)
  have hsl : (s.length : Int) ≤ 9223372036854775807 := by omega
  go_enter Tryz.func93, Tryz.ntmps93
  go_wp2_with fail
  refine (Put8 base v l _ w (by omega) (by omega) hown (by omega) hb).mono ?_
  rintro e w1 ⟨v1, rfl, ho, hu, hn⟩
  have hsz := hu.size
  go_wp2_with (at_builtin; go_must (refine wpList_app rfl _ _ 22 9 rfl base 5 (.int .u8 0) 1 1 Tryz.underlying22 hi.out rfl _ _ _ rfl ho (.string ⟨s.toArray⟩) s.length (bc s) rfl (Src.ofString w1 Tryz.underlying9 ⟨s.toArray⟩) ?h63 ?hby (by omega) ?_))
  case h63 => simp [fld_length]; unfold maxLen; omega
  case hby => simp [fld_length]; omega
  intro v' w' ho' hu' hf'
  go_wp2_with fail
  go_ret
  refine ⟨v', rfl, ?_, hu.trans hu' fun j hj h => (hn j h).elim id fun h => by omega, fun j hj => (hf' j hj).elim (hn j) fun h => .inr (by omega)⟩
  unfold txtF
  rw [← List.append_assoc]
  exact own_app ho'
theorem box2 {A : Array Value} {t : TypeId} {w w1 : World} {S : Nat → Prop} (hu : Upd S (w.alloc (.cells A t)) w1) (hS : ¬ S w.heap.size) : ∀ j, w1.cell? ⟨w.heap.size, j, none⟩ = A[j]? :=
  (cells_of (hu.heap (heap_alloc_new w (.cells A t)) hS)).1
set_option maxHeartbeats 1000000 in
theorem wPutTag (base : Nat) (v : Value) (l : List UInt8) (re im : Int) (w : World) (h1 : 0 ≤ re ∧ re < 4294967296) (h2 : 0 ≤ im ∧ im < 4294967296) (hown : Own w base 5 v l) (hlen : l.length + 8 ≤ 140737488355328) (hb : base ≤ w.heap.size) :
    Calls Tryz.prog 49 #[v, tagV re im] w (Grew base 5 v (l ++ fld re 4 ++ fld im 4) w) := by
  have hnv : ¬ At v w.heap.size := fun h => by have := own_lt hown h; omega
  have hu0 : Upd (At v) (w.alloc (.cells #[.int .i64 re, .int .i64 im] 25)) (w.alloc (.cells #[.int .i64 re, .int .i64 im] 25)).drew := Upd.drew _ _
  have c := box2 hu0 hnv
  have c0 := c 0
  have c1 := c 1
  have ho1 : Own (w.alloc (.cells #[.int .i64 re, .int .i64 im] 25)).drew base 5 v l := (hown.alloc _).drew
  replace hown := Lib.hid hown
  unfold tagV
  go_enter Tryz.func49, Tryz.ntmps49
  go_wp2_with fail
  refine wp_region_held_drew (S := (fun w' => w'.cell? ⟨w.heap.size, 0, none⟩ = some (.int .i64 re) ∧ w'.cell? ⟨w.heap.size, 1, none⟩ = some (.int .i64 im))) (by kernel_rfl) (by (try dsimp only); first | exact ⟨m0, m1⟩ | exact ⟨k0, k1⟩ | exact ⟨c0, c1⟩) (fun hHeld => ?_)
  (refine wpAnyH_take (i := 0) (oi := ?oi_1_0) (v := ?v_1_0) ?ho_1_0 ?hs_1_0 ?hf_1_0 ?hr_1_0 ?hQ_1_0 ?hy_1_0 ?hS_1_0 ?rest_1_0; (case hr_1_0 => kernel_rfl); (case hf_1_0 => kernel_rfl); (case hs_1_0 => kernel_rfl); (case ho_1_0 => (simp only [List.getElem?_toArray, List.getElem?_cons_succ, List.getElem?_cons_zero]; rfl)); (case hS_1_0 => assumption); (case hQ_1_0 => exact fun _ _ _ h => h); (case hy_1_0 => (refine Or.inl ⟨by rfl, ?_⟩; (intro w hSw; (try dsimp only at hSw); go_simp) <;> with_reducible rfl)); (try simp only [Act.put, List.setIfInBounds_toArray, List.set_cons_zero, List.set_cons_succ]))
  (refine wpAnyH_take (i := 1) (oi := ?oi_1_1) (v := ?v_1_1) ?ho_1_1 ?hs_1_1 ?hf_1_1 ?hr_1_1 ?hQ_1_1 ?hy_1_1 ?hS_1_1 ?rest_1_1; (case hr_1_1 => kernel_rfl); (case hf_1_1 => kernel_rfl); (case hs_1_1 => kernel_rfl); (case ho_1_1 => (simp only [List.getElem?_toArray, List.getElem?_cons_succ, List.getElem?_cons_zero]; rfl)); (case hS_1_1 => assumption); (case hQ_1_1 => exact fun _ _ _ h => h); (case hy_1_1 => (refine Or.inl ⟨by rfl, ?_⟩; (intro w hSw; (try dsimp only at hSw); go_simp) <;> with_reducible rfl)); (try simp only [Act.put, List.setIfInBounds_toArray, List.set_cons_zero, List.set_cons_succ]))
  (refine wpAnyH_take (i := 2) (oi := ?oi_1_2) (v := ?v_1_2) ?ho_1_2 ?hs_1_2 ?hf_1_2 ?hr_1_2 ?hQ_1_2 ?hy_1_2 ?hS_1_2 ?rest_1_2; (case hr_1_2 => kernel_rfl); (case hf_1_2 => kernel_rfl); (case hs_1_2 => kernel_rfl); (case ho_1_2 => (simp only [List.getElem?_toArray, List.getElem?_cons_succ, List.getElem?_cons_zero]; rfl)); (case hS_1_2 => assumption); (case hQ_1_2 => exact fun _ _ _ h => h); (case hy_1_2 => (refine Or.inl ⟨by rfl, ?_⟩; (intro w hSw; (try dsimp only at hSw); go_simp) <;> with_reducible rfl)); (try simp only [Act.put, List.setIfInBounds_toArray, List.set_cons_zero, List.set_cons_succ]))
  (refine wpAnyH_take (i := 4) (oi := ?oi_1_4) (v := ?v_1_4) ?ho_1_4 ?hs_1_4 ?hf_1_4 ?hr_1_4 ?hQ_1_4 ?hy_1_4 ?hS_1_4 ?rest_1_4; (case hr_1_4 => kernel_rfl); (case hf_1_4 => kernel_rfl); (case hs_1_4 => kernel_rfl); (case ho_1_4 => (simp only [List.getElem?_toArray, List.getElem?_cons_succ, List.getElem?_cons_zero]; rfl)); (case hS_1_4 => assumption); (case hQ_1_4 => exact fun _ _ _ h => h); (case hy_1_4 => (refine Or.inl ⟨by rfl, ?_⟩; (intro w hSw; (try dsimp only at hSw); go_simp) <;> with_reducible rfl)); (try simp only [Act.put, List.setIfInBounds_toArray, List.set_cons_zero, List.set_cons_succ]))
  (refine wpAnyH_take (i := 5) (oi := ?oi_1_5) (v := ?v_1_5) ?ho_1_5 ?hs_1_5 ?hf_1_5 ?hr_1_5 ?hQ_1_5 ?hy_1_5 ?hS_1_5 ?rest_1_5; (case hr_1_5 => kernel_rfl); (case hf_1_5 => kernel_rfl); (case hs_1_5 => kernel_rfl); (case ho_1_5 => (simp only [List.getElem?_toArray, List.getElem?_cons_succ, List.getElem?_cons_zero]; rfl)); (case hS_1_5 => assumption); (case hQ_1_5 => exact fun _ _ _ h => h); (case hy_1_5 => (refine Or.inl ⟨by rfl, ?_⟩; (intro w hSw; (try dsimp only at hSw); go_simp) <;> with_reducible rfl)); (try simp only [Act.put, List.setIfInBounds_toArray, List.set_cons_zero, List.set_cons_succ]))
  (refine wpAnyH_ready (rs := [3]) (by kernel_rfl) (by simp) ?_; refine AllReadyH.cons (o := ?oo_1_3) ?hoo_1_3 ?hst_1_3 AllReadyH.nil; (case hoo_1_3 => (simp only [List.getElem?_toArray, List.getElem?_cons_succ, List.getElem?_cons_zero]; rfl)); intro K hK; go_simp; (first | (refine (Put32 base v l re _ (by omega) (by omega) ho1 (by omega) (by simp; omega)).mono ?_; rintro en w2 ⟨v2, rfl, ho2, hu2, hf2⟩; have k := box2 (hu0.trans hu2 fun _ _ h => h) hnv; have k0 := k 0; have k1 := k 1) | (refine (Put32 base v2 (l ++ fld re 4) im _ (by omega) (by omega) ho2 (by simp [fld_length]; omega) (by have := hu2.size; simp at this; omega)).mono ?_; rintro en w3 ⟨v3, rfl, ho3, hu3, hf3⟩; have hU3 : Upd (At v) (w.alloc (.cells #[.int .i64 re, .int .i64 im] 25)) w3 := (hu0.trans hu2 fun _ _ h => h).trans hu3 (fun j hj h => (hf2 j h).elim id fun h => by simp at h hj; omega); have m := box2 hU3 hnv; have m0 := m 0; have m1 := m 1)); (try go_wp2_with fail); refine hK.out _ _ (by (try dsimp only); first | exact ⟨m0, m1⟩ | exact ⟨k0, k1⟩ | exact ⟨c0, c1⟩) (fun hHeld => ?_); clear hK K; (try simp only [Act.put, List.setIfInBounds_toArray, List.set_cons_zero, List.set_cons_succ]))
  (refine wpAnyH_ready (rs := [6]) (by kernel_rfl) (by simp) ?_; refine AllReadyH.cons (o := ?oo_1_6) ?hoo_1_6 ?hst_1_6 AllReadyH.nil; (case hoo_1_6 => (simp only [List.getElem?_toArray, List.getElem?_cons_succ, List.getElem?_cons_zero]; rfl)); intro K hK; go_simp; (first | (refine (Put32 base v l re _ (by omega) (by omega) ho1 (by omega) (by simp; omega)).mono ?_; rintro en w2 ⟨v2, rfl, ho2, hu2, hf2⟩; have k := box2 (hu0.trans hu2 fun _ _ h => h) hnv; have k0 := k 0; have k1 := k 1) | (refine (Put32 base v2 (l ++ fld re 4) im _ (by omega) (by omega) ho2 (by simp [fld_length]; omega) (by have := hu2.size; simp at this; omega)).mono ?_; rintro en w3 ⟨v3, rfl, ho3, hu3, hf3⟩; have hU3 : Upd (At v) (w.alloc (.cells #[.int .i64 re, .int .i64 im] 25)) w3 := (hu0.trans hu2 fun _ _ h => h).trans hu3 (fun j hj h => (hf2 j h).elim id fun h => by simp at h hj; omega); have m := box2 hU3 hnv; have m0 := m 0; have m1 := m 1)); (try go_wp2_with fail); refine hK.out _ _ (by (try dsimp only); first | exact ⟨m0, m1⟩ | exact ⟨k0, k1⟩ | exact ⟨c0, c1⟩) (fun hHeld => ?_); clear hK K; (try simp only [Act.put, List.setIfInBounds_toArray, List.set_cons_zero, List.set_cons_succ]))
  (refine wpAnyH_take (i := 7) (oi := ?oi_1_7) (v := ?v_1_7) ?ho_1_7 ?hs_1_7 ?hf_1_7 ?hr_1_7 ?hQ_1_7 ?hy_1_7 ?hS_1_7 ?rest_1_7; (case hr_1_7 => kernel_rfl); (case hf_1_7 => kernel_rfl); (case hs_1_7 => kernel_rfl); (case ho_1_7 => (simp only [List.getElem?_toArray, List.getElem?_cons_succ, List.getElem?_cons_zero]; rfl)); (case hS_1_7 => assumption); (case hQ_1_7 => exact fun _ _ _ h => h); (case hy_1_7 => (refine Or.inl ⟨by rfl, ?_⟩; (intro w hSw; (try dsimp only at hSw); go_simp) <;> with_reducible rfl)); (try simp only [Act.put, List.setIfInBounds_toArray, List.set_cons_zero, List.set_cons_succ]))
  refine wpAnyH_done (by kernel_rfl) ?_ _
  go_wp2_with fail
  go_ret
  exact ⟨v3, rfl, ho3, (Upd.alloc (At v) w _).trans hU3 fun _ _ h => h, fun k hk => (hf3 k hk).elim (fun h => (hf2 k h).imp id fun h => by simp at h; omega) fun h => .inr (by have := hu2.size; simp at this; omega)⟩
end Go.Proofs.YtogekobpjjmnjaaGreat

namespace Go.Proofs.YtogekobpjjmnjaaGreat
open Go.RowKit Go.Amb
set_option linter.unusedVariables false
set_option linter.unusedSimpArgs false
set_option maxRecDepth 100000
def lets11 : List UInt8 := [83, 66, 79, 86, 80, 68, 67, 73, 78, 76, 88]
theorem i64_len {n : Nat} (h : n ≤ 70000) : -9223372036854775808 ≤ (n : Int) ∧ (n : Int) ≤ 9223372036854775807 := by omega
set_option maxHeartbeats 4000000 in
theorem wPut (q : Rq) (pv : Value) (c : UInt8) (hc : c ∈ lets11) (base : Nat) (v : Value) (l : List UInt8) (w : World) (hP : Ints w pv q.parts) (hpb : ∀ k, At pv k → k < base) (hf : fitsQ q) (hid : -9223372036854775808 ≤ q.id ∧ q.id ≤ 9223372036854775807)
    (hown : Own w base 5 v l) (hlen : l.length + 70000 ≤ 140737488355328) (hb : base ≤ w.heap.size) :
    Calls Tryz.prog 70 #[v, rqV q pv, .int .i32 (c.toNat : Int)] w (Grew base 5 v (l ++ putF q c) w) := by
  obtain ⟨hk, hse, hn, hck, htag, -, hpl, hbl, ⟨l1, l2, l3, l4, l5⟩, hpp⟩ := hf
  have hnv : ¬ At v w.heap.size := fun h => by have := own_lt hown h; omega
  have hx := Lib.hid hP
  obtain ⟨pa, pc, rfl, hlc, hcm, hcell⟩ := has1 hP
  unfold maxLen at hcm
  replace hcell := Lib.hid (fun k (hk : k < q.parts.length) => hcell k (by rw [List.length_map]; exact hk) hk)
  simp only [List.getElem_map] at hcell
  have hu0 := Upd.alloc (At v) w (.cells (rqC q (.slice pa q.parts.length pc)) 86)
  have ho1 : Own (w.alloc (.cells (rqC q (.slice pa q.parts.length pc)) 86)) base 5 v l := hown.alloc _
  have hb1 : base ≤ (w.alloc (.cells (rqC q (.slice pa q.parts.length pc)) 86)).heap.size := by simp; omega
  have hx1 := heap_alloc_new w (.cells (rqC q (.slice pa q.parts.length pc)) 86)
  have hpe : Hid (putF q c = putF q c) := Lib.hid rfl
  have hfin : Hid (∀ v2 w2, Upd (At v) (w.alloc (.cells (rqC q (.slice pa q.parts.length pc)) 86)) w2 → (∀ k, At v2 k → At v k ∨ (w.alloc (.cells (rqC q (.slice pa q.parts.length pc)) 86)).heap.size ≤ k) → Own w2 base 5 v2 (l ++ putF q c) → Grew base 5 v (l ++ putF q c) w (.returned v2) w2) :=
    Lib.hid (fun v2 w2 hu hf ho => ⟨v2, rfl, ho, hu0.trans hu fun _ _ h => h, fun k hk => (hf k hk).imp id fun h => by simp at h; omega⟩)
  unfold rqV
  unfold rqC at ho1 hb1 hx1 hfin hu0 ⊢
  obtain ⟨kind, session, bucket, object, version, pre, delim, body, ck, re, im, id, n, parts⟩ := q
  dsimp only at *
  replace hown := Lib.hid hown
  replace hx1 := Lib.hid hx1
  obtain ⟨PR, hPR⟩ : ∃ PR, Grew base 5 v (l ++ putF ⟨kind, session, bucket, object, version, pre, delim, body, ck, re, im, id, n, parts⟩ c) w = PR := ⟨_, rfl⟩
  rw [hPR] at hfin ⊢
  clear hPR
  simp only [lets11, List.mem_cons, List.not_mem_nil, or_false] at hc
  rcases hc with rfl | rfl | rfl | rfl | rfl | rfl | rfl | rfl | rfl | rfl | rfl
  · rw [show ((83 : UInt8).toNat : Int) = 83 from rfl]
    go_enter Tryz.func70, Tryz.ntmps70
    go_wp2_with fail
    refine (Put8 base v l session _ (by omega) (by omega) ho1 (by omega) hb1).mono ?_
    rintro en w2 ⟨v2, rfl, ho2, hu2, hf2⟩
    have hg := hfin.out v2 w2 hu2 hf2 (by first | exact ho2 | (rw [hpe.out]; exact ho2))
    clear ho2 hu2 hf2
    go_wp2_with fail
    exact hg
  · rw [show ((66 : UInt8).toNat : Int) = 66 from rfl]
    go_enter Tryz.func70, Tryz.ntmps70
    go_wp2_with fail
    refine (wShort base v l bucket _ ho1 (by omega) hb1).mono ?_
    rintro en w2 ⟨v2, rfl, ho2, hu2, hf2⟩
    have hg := hfin.out v2 w2 hu2 hf2 (by first | exact ho2 | (rw [hpe.out]; exact ho2))
    clear ho2 hu2 hf2
    go_wp2_with fail
    exact hg
  · rw [show ((79 : UInt8).toNat : Int) = 79 from rfl]
    go_enter Tryz.func70, Tryz.ntmps70
    go_wp2_with fail
    refine (wShort base v l object _ ho1 (by omega) hb1).mono ?_
    rintro en w2 ⟨v2, rfl, ho2, hu2, hf2⟩
    have hg := hfin.out v2 w2 hu2 hf2 (by first | exact ho2 | (rw [hpe.out]; exact ho2))
    clear ho2 hu2 hf2
    go_wp2_with fail
    exact hg
  · rw [show ((86 : UInt8).toNat : Int) = 86 from rfl]
    go_enter Tryz.func70, Tryz.ntmps70
    go_wp2_with fail
    refine (wShort base v l version _ ho1 (by omega) hb1).mono ?_
    rintro en w2 ⟨v2, rfl, ho2, hu2, hf2⟩
    have hg := hfin.out v2 w2 hu2 hf2 (by first | exact ho2 | (rw [hpe.out]; exact ho2))
    clear ho2 hu2 hf2
    go_wp2_with fail
    exact hg
  · rw [show ((80 : UInt8).toNat : Int) = 80 from rfl]
    go_enter Tryz.func70, Tryz.ntmps70
    go_wp2_with fail
    refine (wShort base v l pre _ ho1 (by omega) hb1).mono ?_
    rintro en w2 ⟨v2, rfl, ho2, hu2, hf2⟩
    have hg := hfin.out v2 w2 hu2 hf2 (by first | exact ho2 | (rw [hpe.out]; exact ho2))
    clear ho2 hu2 hf2
    go_wp2_with fail
    exact hg
  · rw [show ((68 : UInt8).toNat : Int) = 68 from rfl]
    go_enter Tryz.func70, Tryz.ntmps70
    go_wp2_with fail
    refine (wShort base v l delim _ ho1 (by omega) hb1).mono ?_
    rintro en w2 ⟨v2, rfl, ho2, hu2, hf2⟩
    have hg := hfin.out v2 w2 hu2 hf2 (by first | exact ho2 | (rw [hpe.out]; exact ho2))
    clear ho2 hu2 hf2
    go_wp2_with fail
    exact hg
  · rw [show ((67 : UInt8).toNat : Int) = 67 from rfl]
    have hckI : -9223372036854775808 ≤ ck ∧ ck ≤ 9223372036854775807 := by omega
    obtain ⟨ht1, ht2, ht3, ht4⟩ := htag
    go_enter Tryz.func70, Tryz.ntmps70
    go_wp2_with fail
    refine (Put8 base v l ck _ hckI.1 hckI.2 ho1 (by omega) hb1).mono ?_
    rintro en w2 ⟨v2, rfl, ho2, hu2, hf2⟩
    have hx2 := cells_of (hu2.heap hx1.out hnv)
    have y8 := hx2.1 8
    have y9 := hx2.1 9
    have y10 := hx2.1 10
    have hz2 := hu2.size
    have hzb : base ≤ w2.heap.size := by omega
    clear hx2
    by_cases hk2 : ck = 2
    · subst hk2
      have hpe2 : Hid (putF ⟨kind, session, bucket, object, version, pre, delim, body, 2, re, im, id, n, parts⟩ 67 = fld 2 1 ++ (fld re 4 ++ fld im 4)) := Lib.hid rfl
      have cT := Lib.hid (wPutTag base v2 (l ++ fld 2 1) re im w2 (by omega) (by omega) ho2 (by simp [fld_length]; omega) hzb)
      unfold tagV at cT
      go_wp2_with fail
      refine cT.out.mono ?_
      rintro en w3 ⟨v3, rfl, ho3, hu3, hf3⟩
      have hg := hfin.out v3 w3 (hu2.trans hu3 fun j hj h => (hf2 j h).elim (fun h => h) fun h => by omega) (fun k hk => (hf3 k hk).elim (hf2 k) fun h => .inr (by omega)) (by rw [hpe2.out, ← List.append_assoc, ← List.append_assoc]; exact ho3)
      clear ho2 hu2 hf2 ho3 hu3 hf3 cT
      go_wp2_with fail
      exact hg
    · have hk2b : (ck == 2) = false := by simp [hk2]
      have hpe2 : Hid (putF ⟨kind, session, bucket, object, version, pre, delim, body, ck, re, im, id, n, parts⟩ 67 = fld ck 1 ++ []) := Lib.hid (by show fld ck 1 ++ (if ck = 2 then _ else _) = _; rw [if_neg hk2])
      have hg := hfin.out v2 w2 hu2 hf2 (by rw [hpe2.out, List.append_nil]; exact ho2)
      clear ho2 hu2 hf2
      go_wp2_with fail
      exact hg
  · rw [show ((73 : UInt8).toNat : Int) = 73 from rfl]
    go_enter Tryz.func70, Tryz.ntmps70
    go_wp2_with fail
    refine (Put64 base v l id _ (by omega) (by omega) ho1 (by omega) hb1).mono ?_
    rintro en w2 ⟨v2, rfl, ho2, hu2, hf2⟩
    have hg := hfin.out v2 w2 hu2 hf2 (by first | exact ho2 | (rw [hpe.out]; exact ho2))
    clear ho2 hu2 hf2
    go_wp2_with fail
    exact hg
  · rw [show ((78 : UInt8).toNat : Int) = 78 from rfl]
    go_enter Tryz.func70, Tryz.ntmps70
    go_wp2_with fail
    refine (Put16 base v l n _ (by omega) (by omega) ho1 (by omega) hb1).mono ?_
    rintro en w2 ⟨v2, rfl, ho2, hu2, hf2⟩
    have hg := hfin.out v2 w2 hu2 hf2 (by first | exact ho2 | (rw [hpe.out]; exact ho2))
    clear ho2 hu2 hf2
    go_wp2_with fail
    exact hg
  · rw [show ((76 : UInt8).toNat : Int) = 76 from rfl]
    have hplI : -9223372036854775808 ≤ (parts.length : Int) ∧ (parts.length : Int) ≤ 9223372036854775807 := by omega
    go_enter Tryz.func70, Tryz.ntmps70
    go_wp2_with fail
    refine (Put8 base v l (parts.length : Int) _ hplI.1 hplI.2 ho1 (by omega) hb1).mono ?_
    rintro en w2 ⟨v2, rfl, ho2, hu2, hf2⟩
    have hx2 := cells_of (hu2.heap hx1.out hnv)
    have y11 := hx2.1 11
    have y13 := hx2.1 13
    have hz2 := hu2.size
    clear hx2
    go_wp2_with fail
    have hlm : ∀ k, k ≤ parts.length → ((parts.take k).flatMap (fun p => fld p 1)).length = k := fun k hk => by
      rw [List.length_flatMap]
      simp only [fld_length, List.map_const', List.sum_replicate_nat, List.length_take]
      omega
    have hpe2 : Hid (putF ⟨kind, session, bucket, object, version, pre, delim, body, ck, re, im, id, n, parts⟩ 76 = fld (parts.length : Int) 1 ++ parts.flatMap (fun p => fld p 1)) := Lib.hid rfl
    replace hlm := Lib.hid hlm
    go_loopw [0, 84] (fun bv iv wr => ∃ (k : Nat), iv = .int .i64 (k : Int) ∧ k ≤ parts.length ∧ Own wr base 5 bv (l ++ fld (parts.length : Int) 1 ++ (parts.take k).flatMap (fun p => fld p 1)) ∧ Upd (At v) (w.alloc (.cells #[.int .i64 kind, .int .i64 session, .string ⟨bucket.toArray⟩, .string ⟨object.toArray⟩, .string ⟨version.toArray⟩, .string ⟨pre.toArray⟩, .string ⟨delim.toArray⟩, .string ⟨body.toArray⟩, .int .i64 ck, .int .i64 re, .int .i64 im, .int .i64 id, .int .i64 n, .slice pa parts.length pc] 86)) wr ∧ ∀ k, At bv k → At v k ∨ w.heap.size + 1 ≤ k) (fun _ iv _ => parts.length - (intOf iv).toNat)
    case atStart => exact ⟨0, rfl, Nat.zero_le _, by simpa using ho2, hu2, fun k hk => (hf2 k hk).imp (fun h => h) fun h => by simpa using h⟩
    case round =>
      clear ho2 hu2 hf2 y11 y13 hz2
      obtain ⟨k, rfl, hk, ho, hu, hf⟩ := hrel
      by_cases hlt : k < parts.length
      · have hltI : (k : Int) < (parts.length : Int) := by omega
        have hk0 : (0 : Int) ≤ (k : Int) := by omega
        obtain ⟨gg, off, rfl, x0⟩ := hcell.out k hlt
        have hnw : ¬ At v gg := fun h => by have h1 := hpb gg rfl; have h2 := own_ge hown.out h; omega
        have x1 := (hu0.trans hu fun _ _ h => h).cell x0 hnw
        have hpk := hpp _ (List.getElem_mem hlt)
        have hsn : parts.take (k + 1) = parts.take k ++ [parts[k]] := by rw [List.take_add_one, List.getElem?_eq_getElem hlt]; rfl
        have hlk := hlm.out k hk
        have hzr := hu.size
        rw [World.size_alloc] at hzr
        generalize parts[k] = p at *
        have hP8 := Lib.hid (Put8 base _ _ p wr (by omega) (by omega) ho (by rw [List.length_append, List.length_append, fld_length, hlk]; omega) (by omega))
        replace hsn := Lib.hid hsn
        clear hlk x0
        go_wp2_with fail
        refine hP8.out.mono ?_
        rintro en w3 ⟨v3, rfl, ho3, hu3, hf3⟩
        have hU3 := hu.trans hu3 fun j hj h => (hf j h).elim (fun h => h) fun h => by simp at hj; omega
        have hF3 : ∀ k, At v3 k → At v k ∨ w.heap.size + 1 ≤ k := fun k hk => (hf3 k hk).elim (hf k) fun h => .inr (by omega)
        have hO3 : Own w3 base 5 v3 (l ++ fld (parts.length : Int) 1 ++ (parts.take (k + 1)).flatMap (fun p => fld p 1)) := by
          rw [hsn.out, List.flatMap_append, ← List.append_assoc]
          simpa using ho3
        clear hP8 ho hu hf ho3 hu3 hf3
        go_wp2_with fail
        go_roundw
        case rel => exact ⟨k + 1, by go_num, by omega, hO3, hU3, hF3⟩
        case measure => simp [intOf]; omega
      · obtain rfl : k = parts.length := by omega
        have hltI : ((parts.length : Int) < (parts.length : Int)) = False := eq_false (by omega)
        rw [List.take_length] at ho
        have hg := hfin.out _ wr hu (fun k hk => (hf k hk).imp (fun h => h) fun h => by simpa using h) (by rw [hpe2.out, ← List.append_assoc]; exact ho)
        clear ho hu hf
        go_wp2_with fail
        exact hg
  · rw [show ((88 : UInt8).toNat : Int) = 88 from rfl]
    have hblI : -9223372036854775808 ≤ (body.length : Int) ∧ (body.length : Int) ≤ 9223372036854775807 := by omega
    have hinf := Lib.hid (@info_u8)
    have hud := hx1.out
    have d7 : (w.alloc (.cells #[.int .i64 kind, .int .i64 session, .string ⟨bucket.toArray⟩, .string ⟨object.toArray⟩, .string ⟨version.toArray⟩, .string ⟨pre.toArray⟩, .string ⟨delim.toArray⟩, .string ⟨body.toArray⟩, .int .i64 ck, .int .i64 re, .int .i64 im, .int .i64 id, .int .i64 n, .slice pa parts.length pc] 86)).drew.cell? ⟨w.heap.size, 7, none⟩ = some (.string ⟨body.toArray⟩) := (Upd.drew Non _).cell ((cells_of hud).1 7) fun h => h
    clear hud
    go_enter Tryz.func70, Tryz.ntmps70
    go_wp2_with fail
    have hpe2 : Hid (putF ⟨kind, session, bucket, object, version, pre, delim, body, ck, re, im, id, n, parts⟩ 88 = fld (body.length : Int) 2 ++ body) := Lib.hid rfl
    have hud := Upd.drew (At v) (w.alloc (.cells #[.int .i64 kind, .int .i64 session, .string ⟨bucket.toArray⟩, .string ⟨object.toArray⟩, .string ⟨version.toArray⟩, .string ⟨pre.toArray⟩, .string ⟨delim.toArray⟩, .string ⟨body.toArray⟩, .int .i64 ck, .int .i64 re, .int .i64 im, .int .i64 id, .int .i64 n, .slice pa parts.length pc] 86))
    refine wp_region_held_drew (S := (fun w' => w'.cell? ⟨w.heap.size, 7, none⟩ = some (.string ⟨body.toArray⟩))) (by kernel_rfl) (by (try dsimp only); first | exact e7 | exact f7 | exact d7) (fun hHeld => ?_)
    (refine wpAnyH_take (i := 0) (oi := ?oi_1_0) (v := ?v_1_0) ?ho_1_0 ?hs_1_0 ?hf_1_0 ?hr_1_0 ?hQ_1_0 ?hy_1_0 ?hS_1_0 ?rest_1_0; (case hr_1_0 => kernel_rfl); (case hf_1_0 => kernel_rfl); (case hs_1_0 => kernel_rfl); (case ho_1_0 => (simp only [List.getElem?_toArray, List.getElem?_cons_succ, List.getElem?_cons_zero]; rfl)); (case hS_1_0 => assumption); (case hQ_1_0 => exact fun _ _ _ h => h); (case hy_1_0 => (refine Or.inl ⟨by rfl, ?_⟩; (intro w hSw; (try dsimp only at hSw); go_simp) <;> with_reducible rfl)); (try simp only [Act.put, List.setIfInBounds_toArray, List.set_cons_zero, List.set_cons_succ]))
    (refine wpAnyH_take (i := 1) (oi := ?oi_1_1) (v := ?v_1_1) ?ho_1_1 ?hs_1_1 ?hf_1_1 ?hr_1_1 ?hQ_1_1 ?hy_1_1 ?hS_1_1 ?rest_1_1; (case hr_1_1 => kernel_rfl); (case hf_1_1 => kernel_rfl); (case hs_1_1 => kernel_rfl); (case ho_1_1 => (simp only [List.getElem?_toArray, List.getElem?_cons_succ, List.getElem?_cons_zero]; rfl)); (case hS_1_1 => assumption); (case hQ_1_1 => exact fun _ _ _ h => h); (case hy_1_1 => (refine Or.inl ⟨by rfl, ?_⟩; (intro w hSw; (try dsimp only at hSw); go_simp) <;> with_reducible rfl)); (try simp only [Act.put, List.setIfInBounds_toArray, List.set_cons_zero, List.set_cons_succ]))
    (refine wpAnyH_take (i := 2) (oi := ?oi_1_2) (v := ?v_1_2) ?ho_1_2 ?hs_1_2 ?hf_1_2 ?hr_1_2 ?hQ_1_2 ?hy_1_2 ?hS_1_2 ?rest_1_2; (case hr_1_2 => kernel_rfl); (case hf_1_2 => kernel_rfl); (case hs_1_2 => kernel_rfl); (case ho_1_2 => (simp only [List.getElem?_toArray, List.getElem?_cons_succ, List.getElem?_cons_zero]; rfl)); (case hS_1_2 => assumption); (case hQ_1_2 => exact fun _ _ _ h => h); (case hy_1_2 => (refine Or.inl ⟨by rfl, ?_⟩; (intro w hSw; (try dsimp only at hSw); go_simp) <;> with_reducible rfl)); (try simp only [Act.put, List.setIfInBounds_toArray, List.set_cons_zero, List.set_cons_succ]))
    (refine wpAnyH_take (i := 3) (oi := ?oi_1_3) (v := ?v_1_3) ?ho_1_3 ?hs_1_3 ?hf_1_3 ?hr_1_3 ?hQ_1_3 ?hy_1_3 ?hS_1_3 ?rest_1_3; (case hr_1_3 => kernel_rfl); (case hf_1_3 => kernel_rfl); (case hs_1_3 => kernel_rfl); (case ho_1_3 => (simp only [List.getElem?_toArray, List.getElem?_cons_succ, List.getElem?_cons_zero]; rfl)); (case hS_1_3 => assumption); (case hQ_1_3 => exact fun _ _ _ h => h); (case hy_1_3 => (refine Or.inl ⟨by rfl, ?_⟩; (intro w hSw; (try dsimp only at hSw); go_simp) <;> with_reducible rfl)); (try simp only [Act.put, List.setIfInBounds_toArray, List.set_cons_zero, List.set_cons_succ]))
    (refine wpAnyH_take (i := 5) (oi := ?oi_1_5) (v := ?v_1_5) ?ho_1_5 ?hs_1_5 ?hf_1_5 ?hr_1_5 ?hQ_1_5 ?hy_1_5 ?hS_1_5 ?rest_1_5; (case hr_1_5 => kernel_rfl); (case hf_1_5 => kernel_rfl); (case hs_1_5 => kernel_rfl); (case ho_1_5 => (simp only [List.getElem?_toArray, List.getElem?_cons_succ, List.getElem?_cons_zero]; rfl)); (case hS_1_5 => assumption); (case hQ_1_5 => exact fun _ _ _ h => h); (case hy_1_5 => (refine Or.inl ⟨by rfl, ?_⟩; (intro w hSw; (try dsimp only at hSw); go_simp) <;> with_reducible rfl)); (try simp only [Act.put, List.setIfInBounds_toArray, List.set_cons_zero, List.set_cons_succ]))
    (refine wpAnyH_take (i := 6) (oi := ?oi_1_6) (v := ?v_1_6) ?ho_1_6 ?hs_1_6 ?hf_1_6 ?hr_1_6 ?hQ_1_6 ?hy_1_6 ?hS_1_6 ?rest_1_6; (case hr_1_6 => kernel_rfl); (case hf_1_6 => kernel_rfl); (case hs_1_6 => kernel_rfl); (case ho_1_6 => (simp only [List.getElem?_toArray, List.getElem?_cons_succ, List.getElem?_cons_zero]; rfl)); (case hS_1_6 => assumption); (case hQ_1_6 => exact fun _ _ _ h => h); (case hy_1_6 => (refine Or.inl ⟨by rfl, ?_⟩; (intro w hSw; (try dsimp only at hSw); go_simp) <;> with_reducible rfl)); (try simp only [Act.put, List.setIfInBounds_toArray, List.set_cons_zero, List.set_cons_succ]))
    (refine wpAnyH_ready (rs := [4]) (by kernel_rfl) (by simp) ?_; refine AllReadyH.cons (o := ?oo_1_4) ?hoo_1_4 ?hst_1_4 AllReadyH.nil; (case hoo_1_4 => (simp only [List.getElem?_toArray, List.getElem?_cons_succ, List.getElem?_cons_zero]; rfl)); intro K hK; go_simp; (first | (go_simp; refine (Put16 base v l (body.length : Int) _ hblI.1 hblI.2 (ho1.drew) (by omega) (by simp; omega)).mono ?_; rintro en w2 ⟨v2, rfl, ho2, hu2, hf2⟩; have f7 := hu2.cell d7 hnv; have hz2 := hu2.size) | (refine step_app rfl _ _ 22 9 rfl base 5 (.int .u8 0) 1 1 Tryz.underlying22 hinf.out rfl _ _ _ rfl ho2 (.string ⟨body.toArray⟩) body.length (bc body) rfl (Src.ofString w2 Tryz.underlying9 ⟨body.toArray⟩) (by simp [fld_length]; unfold maxLen; omega) (by simp [fld_length]; omega) (by simp at hz2; omega) ?_; intro v3 w3 ho3 hu3 hf3; have e7 := hu3.cell f7 (fun h => (hf2 _ h).elim hnv fun h => by simp at h; omega))); (try go_wp2_with fail); refine hK.out _ _ (by (try dsimp only); first | exact e7 | exact f7 | exact d7) (fun hHeld => ?_); clear hK K; (try simp only [Act.put, List.setIfInBounds_toArray, List.set_cons_zero, List.set_cons_succ]))
    (refine wpAnyH_ready (rs := [7]) (by kernel_rfl) (by simp) ?_; refine AllReadyH.cons (o := ?oo_1_7) ?hoo_1_7 ?hst_1_7 AllReadyH.nil; (case hoo_1_7 => (simp only [List.getElem?_toArray, List.getElem?_cons_succ, List.getElem?_cons_zero]; rfl)); intro K hK; (first | (go_simp; refine (Put16 base v l (body.length : Int) _ hblI.1 hblI.2 (ho1.drew) (by omega) (by simp; omega)).mono ?_; rintro en w2 ⟨v2, rfl, ho2, hu2, hf2⟩; have f7 := hu2.cell d7 hnv; have hz2 := hu2.size) | (refine step_app rfl _ _ 22 9 rfl base 5 (.int .u8 0) 1 1 Tryz.underlying22 hinf.out rfl _ _ _ rfl ho2 (.string ⟨body.toArray⟩) body.length (bc body) rfl (Src.ofString w2 Tryz.underlying9 ⟨body.toArray⟩) (by simp [fld_length]; unfold maxLen; omega) (by simp [fld_length]; omega) (by simp at hz2; omega) ?_; intro v3 w3 ho3 hu3 hf3; have e7 := hu3.cell f7 (fun h => (hf2 _ h).elim hnv fun h => by simp at h; omega))); (try go_wp2_with fail); refine hK.out _ _ (by (try dsimp only); first | exact e7 | exact f7 | exact d7) (fun hHeld => ?_); clear hK K; (try simp only [Act.put, List.setIfInBounds_toArray, List.set_cons_zero, List.set_cons_succ]))
    (refine wpAnyH_take (i := 8) (oi := ?oi_1_8) (v := ?v_1_8) ?ho_1_8 ?hs_1_8 ?hf_1_8 ?hr_1_8 ?hQ_1_8 ?hy_1_8 ?hS_1_8 ?rest_1_8; (case hr_1_8 => kernel_rfl); (case hf_1_8 => kernel_rfl); (case hs_1_8 => kernel_rfl); (case ho_1_8 => (simp only [List.getElem?_toArray, List.getElem?_cons_succ, List.getElem?_cons_zero]; rfl)); (case hS_1_8 => assumption); (case hQ_1_8 => exact fun _ _ _ h => h); (case hy_1_8 => (refine Or.inl ⟨by rfl, ?_⟩; (intro w hSw; (try dsimp only at hSw); go_simp) <;> with_reducible rfl)); (try simp only [Act.put, List.setIfInBounds_toArray, List.set_cons_zero, List.set_cons_succ]))
    refine wpAnyH_done (by kernel_rfl) ?_ _
    have hg := hfin.out v3 w3 ((hud.trans hu2 fun _ _ h => h).trans hu3 fun j hj h => (hf2 j h).elim (fun h => h) fun h => by simp at h hj; omega) (fun k hk => (hf3 k hk).elim (fun h => (hf2 k h).imp (fun h => h) fun h => by simpa using h) fun h => .inr (by simp at hz2 ⊢; omega)) (by rw [hpe2.out, ← List.append_assoc]; exact own_app ho3)
    clear ho2 hu2 hf2 ho3 hu3 hf3
    go_wp2_with fail
    exact hg
end Go.Proofs.YtogekobpjjmnjaaGreat

namespace Go.Proofs.YtogekobpjjmnjaaGreat
open Go.RowKit Go.Amb
set_option linter.unusedVariables false
set_option linter.unusedSimpArgs false
set_option maxRecDepth 100000
theorem lets_in (k : Int) : ∀ c ∈ lets k, c ∈ lets11 := lets_all (Q := fun l => ∀ c ∈ l, c ∈ lets11) (by decide) k
theorem lets_short (k : Int) : (lets k).length ≤ 10 := lets_all (Q := fun l => l.length ≤ 10) (by decide) k
theorem parts_len (l : List Int) : (l.flatMap (fun p => fld p 1)).length = l.length := by
  rw [List.length_flatMap]
  simp only [fld_length, List.map_const', List.sum_replicate_nat, Nat.mul_one]
theorem putF_len {q : Rq} (hf : fitsQ q) (c : UInt8) : (putF q c).length ≤ 66000 := by
  obtain ⟨hk, hse, hn, hck, htag, -, hpl, hbl, ⟨l1, l2, l3, l4, l5⟩, hpp⟩ := hf
  have hit : ∀ (p : Prop) [Decidable p] (a b : List UInt8), a.length ≤ 66000 → b.length ≤ 66000 → (if p then a else b).length ≤ 66000 := fun p _ a b ha hb => by split <;> assumption
  have ht : ∀ (s : List UInt8) (m : Nat), s.length + m ≤ 66000 → (txtF s m).length ≤ 66000 := fun s m h => by unfold txtF; rw [List.length_append, fld_length]; omega
  unfold putF
  refine hit _ _ _ (by rw [fld_length]; omega) (hit _ _ _ (ht _ _ (by omega)) (hit _ _ _ (ht _ _ (by omega)) (hit _ _ _ (ht _ _ (by omega)) (hit _ _ _ (ht _ _ (by omega)) (hit _ _ _ (ht _ _ (by omega)) (hit _ _ _ ?_ (hit _ _ _ (by rw [fld_length]; omega) (hit _ _ _ (by rw [fld_length]; omega) (hit _ _ _ (by rw [List.length_append, fld_length, parts_len]; omega) (hit _ _ _ (ht _ _ (by omega)) (Nat.zero_le _)))))))))))
  rw [List.length_append, fld_length]
  by_cases h : q.ck = 2
  · rw [if_pos h, List.length_append, fld_length, fld_length]; omega
  · rw [if_neg h]; exact Nat.le_add_left _ _
theorem flat_len {q : Rq} (hf : fitsQ q) : ∀ l : List UInt8, (l.flatMap (putF q)).length ≤ 66000 * l.length
  | [] => by simp
  | c :: l => by
    have h1 := flat_len hf l
    have h2 := putF_len hf c
    rw [List.flatMap_cons, List.length_append, List.length_cons]
    omega
/-- What Bytes tells. -/
def BytesQ (q : Rq) (w : World) : Ending → World → Prop := fun en w' =>
  (rightQ q ∧ ∃ v, en = .returned (.tuple #[v, .int .i64 0]) ∧ Own w' (w.heap.size + 1) 5 v (putQ q) ∧ Upd Non w w') ∨
  (¬ rightQ q ∧ en = .returned (.tuple #[.slice none 0 0, .int .i64 4]) ∧ Upd Non w w')
set_option maxHeartbeats 4000000 in
theorem wBytes (q : Rq) (pv : Value) (w : World) (hP : Ints w pv q.parts) (hs : smallQ q) (hpb : ∀ k, At pv k → k < w.heap.size) (hid : -9223372036854775808 ≤ q.id ∧ q.id ≤ 9223372036854775807) : Calls Tryz.prog 37 #[rqV q pv] w (BytesQ q w) := by
  have hC := Lib.hid (fun w' (hu : Upd Non w w') => wCheck q pv w' (hP.non hu) hs)
  have hx := Lib.hid hP
  obtain ⟨pa, pc, rfl, -⟩ := has1 hP
  have hY : Hid (∀ w', BxOf (rqC q (.slice pa q.parts.length pc)) w w' → w'.cell? ⟨w.heap.size, 0, none⟩ = some (.int .i64 q.kind) ∧ w'.cell? ⟨w.heap.size, 1, none⟩ = some (.int .i64 q.session) ∧ w'.cell? ⟨w.heap.size, 2, none⟩ = some (.string ⟨q.bucket.toArray⟩) ∧ w'.cell? ⟨w.heap.size, 3, none⟩ = some (.string ⟨q.object.toArray⟩) ∧ w'.cell? ⟨w.heap.size, 4, none⟩ = some (.string ⟨q.version.toArray⟩) ∧ w'.cell? ⟨w.heap.size, 5, none⟩ = some (.string ⟨q.pre.toArray⟩) ∧ w'.cell? ⟨w.heap.size, 6, none⟩ = some (.string ⟨q.delim.toArray⟩) ∧ w'.cell? ⟨w.heap.size, 7, none⟩ = some (.string ⟨q.body.toArray⟩) ∧ w'.cell? ⟨w.heap.size, 8, none⟩ = some (.int .i64 q.ck) ∧ w'.cell? ⟨w.heap.size, 9, none⟩ = some (.int .i64 q.re) ∧ w'.cell? ⟨w.heap.size, 10, none⟩ = some (.int .i64 q.im) ∧ w'.cell? ⟨w.heap.size, 11, none⟩ = some (.int .i64 q.id) ∧ w'.cell? ⟨w.heap.size, 12, none⟩ = some (.int .i64 q.n) ∧ w'.cell? ⟨w.heap.size, 13, none⟩ = some (.slice pa q.parts.length pc)) := Lib.hid (fun w' h => cells14 h.1)
  have hst : BxOf (rqC q (.slice pa q.parts.length pc)) w (w.alloc (.cells (rqC q (.slice pa q.parts.length pc)) 86)) := BxOf.start (Upd.refl _ _)
  have hF := Lib.hid (fun w => wFields q.kind w)
  have hasc := Lib.hid (lets_ascii q.kind)
  have hin := Lib.hid (lets_in q.kind)
  have hsh := lets_short q.kind
  obtain ⟨PR, hPR⟩ : ∃ PR, BytesQ q w = PR := ⟨_, rfl⟩
  rw [hPR]
  by_cases hR : rightQ q
  · have hfin : Hid (∀ v w', Own w' (w.heap.size + 1) 5 v (putQ q) → Upd Non w w' → PR (.returned (.tuple #[v, .int .i64 0])) w') := Lib.hid (fun v w' h1 h2 => by rw [← hPR]; exact .inl ⟨hR, v, rfl, h1, h2⟩)
    have hput : Hid (∀ c ∈ lets11, ∀ v l w', Own w' (w.heap.size + 1) 5 v l → Upd Non w w' → w.heap.size + 1 ≤ w'.heap.size → l.length + 70000 ≤ 140737488355328 → Calls Tryz.prog 70 #[v, rqV q (.slice pa q.parts.length pc), .int .i32 (c.toNat : Int)] w' (Grew (w.heap.size + 1) 5 v (l ++ putF q c) w')) :=
      Lib.hid (fun c hc v l w' ho hu hz hl => wPut q _ c hc (w.heap.size + 1) v l w' (hx.out.non hu) (fun k hk => by have := hpb k hk; omega) hR.1 hid ho hl hz)
    have hkk : 1 ≤ q.kind ∧ q.kind ≤ 23 := hR.1.1
    have hfl := Lib.hid (fun l => flat_len hR.1 l)
    have hpq : Hid (putQ q = fld q.kind 1 ++ (lets q.kind).flatMap (putF q)) := Lib.hid rfl
    rw [show ckQ q = 0 from if_pos hR] at hC
    generalize putQ q = pq at *
    generalize lets q.kind = l at *
    unfold rqV at hC hput ⊢
    generalize putF q = pF at *
    obtain ⟨kind, session, bucket, object, version, pre, delim, body, ck, re, im, id, n, parts⟩ := q
    unfold rqC at *
    dsimp only at *
    clear hP hs hR hPR hid hx
    obtain ⟨y0, y1, y2, y3, y4, y5, y6, y7, y8, y9, y10, y11, y12, y13⟩ := hY.out _ hst
    go_enter Tryz.func37, Tryz.ntmps37
    go_wp2_with fail
    refine (hC.out _ hst.2).mono ?_
    rintro en w1 ⟨rfl, hu⟩
    have hA := hst.next hu
    clear hu hst y0 y1 y2 y3 y4 y5 y6 y7 y8 y9 y10 y11 y12 y13
    obtain ⟨y0, y1, y2, y3, y4, y5, y6, y7, y8, y9, y10, y11, y12, y13⟩ := hY.out _ hA
    have hz1 : w.heap.size + 1 ≤ w1.heap.size := World.block_lt_of_cell? _ _ y0
    go_wp2_with fail
    refine (Put8 (w.heap.size + 1) (.slice none 0 0) [] kind _ (by omega) (by omega) (World.ownsRow_nil _ _ _ _) (by simp) hz1).mono ?_
    rintro en w2 ⟨v2, rfl, ho2, hu2, -⟩
    have hu2 : Upd Non w1 w2 := hu2.toNon fun k hk => by simp [At, Value.ownBlock] at hk
    have hA2 := hA.next hu2
    clear hA hu2 y0 y1 y2 y3 y4 y5 y6 y7 y8 y9 y10 y11 y12 y13
    obtain ⟨y0, y1, y2, y3, y4, y5, y6, y7, y8, y9, y10, y11, y12, y13⟩ := hY.out _ hA2
    go_wp2_with fail
    refine (hF.out _).mono ?_
    rintro en w3 ⟨rfl, hu3⟩
    have hA3 := hA2.next hu3
    have ho3 := hu3.owns ho2 fun _ _ h => h
    clear hA2 ho2 hu3 y0 y1 y2 y3 y4 y5 y6 y7 y8 y9 y10 y11 y12 y13
    go_wp2_with fail
    have hz3 := World.block_lt_of_cell? _ _ (hA3.1 0 _ rfl)
    dsimp only at hz3
    have hnv3 : ∀ k, At v2 k → k ≠ w3.heap.size := fun k hk => by have := own_lt ho3 hk; omega
    go_loopg [5] l.length (fun g bv wr => ∃ i, i + g = l.length ∧ wr.heap[w3.heap.size]? = some (.stringIter ⟨l.toArray⟩ i) ∧ Own wr (w.heap.size + 1) 5 bv (fld kind 1 ++ (l.take i).flatMap pF) ∧ (∀ k, At bv k → k ≠ w3.heap.size) ∧ BxOf #[.int .i64 kind, .int .i64 session, .string ⟨bucket.toArray⟩, .string ⟨object.toArray⟩, .string ⟨version.toArray⟩, .string ⟨pre.toArray⟩, .string ⟨delim.toArray⟩, .string ⟨body.toArray⟩, .int .i64 ck, .int .i64 re, .int .i64 im, .int .i64 id, .int .i64 n, .slice pa parts.length pc] w wr)
    case atStart => exact ⟨0, by omega, World.iter_heap _ _ _, by
      have := (Upd.alloc Non w3 (.stringIter ⟨l.toArray⟩ 0)).owns ho3 fun _ _ h => h
      rw [List.take_zero, List.flatMap_nil, List.append_nil]
      rw [List.nil_append] at this
      exact this, hnv3, hA3.next (Upd.alloc Non _ _)⟩
    case round =>
      clear ho3 hA3 hnv3
      obtain ⟨i, hi, hit, ho, hnv, hA⟩ := hrel
      by_cases hlt : i < l.length
      · obtain ⟨g, rfl⟩ : ∃ g, gk = g + 1 := ⟨gk - 1, by omega⟩
        have hnx := next_letter hit hlt (hasc.out _ (List.getElem_mem hlt))
        have hui : Upd (fun j => j = w3.heap.size) wr (wr.iterAt w3.heap.size ⟨l.toArray⟩ (i + 1)) := upd_iterAt _ _
        have hit2 := Lib.iterAt_heap wr w3.heap.size ⟨l.toArray⟩ i (i + 1) hit
        have hzz := World.block_lt_of_cell? _ _ (hA.1 0 _ rfl)
        dsimp only at hzz
        have ho2 := hui.owns ho fun k hk e => hnv k hk e
        have hA2 : BxOf #[.int .i64 kind, .int .i64 session, .string ⟨bucket.toArray⟩, .string ⟨object.toArray⟩, .string ⟨version.toArray⟩, .string ⟨pre.toArray⟩, .string ⟨delim.toArray⟩, .string ⟨body.toArray⟩, .int .i64 ck, .int .i64 re, .int .i64 im, .int .i64 id, .int .i64 n, .slice pa parts.length pc] w (wr.iterAt w3.heap.size ⟨l.toArray⟩ (i + 1)) := ⟨fun j v e => hui.cell (hA.1 j v e) (by simp; omega), hA.2.trans hui fun j hj e => by omega⟩
        have htk : (l.take (i + 1)).flatMap pF = (l.take i).flatMap pF ++ pF l[i] := by rw [List.take_add_one, List.getElem?_eq_getElem hlt, Option.toList_some, List.flatMap_append]; simp
        have hp := Lib.hid (hput.out l[i] (hin.out _ (List.getElem_mem hlt)) u5 _ _ ho2 hA2.2 (by have := hui.size; omega) (by
          have := hfl.out (l.take i)
          rw [List.length_append, fld_length]
          rw [List.length_take, Nat.min_eq_left (by omega)] at this
          omega))
        rw [List.append_assoc, ← htk] at hp
        obtain ⟨W, hW⟩ : ∃ W, wr.iterAt w3.heap.size ⟨l.toArray⟩ (i + 1) = W := ⟨_, rfl⟩
        have hzW := hui.size
        have hlW := heap_lt hit2
        rw [hW] at hnx hui hit2 ho2 hA2 hp hzW hlW
        clear hW hA hit ho hui htk
        obtain ⟨y0, y1, y2, y3, y4, y5, y6, y7, y8, y9, y10, y11, y12, y13⟩ := hY.out _ hA2
        generalize hch : l[i] = ch at *
        go_wp2_with fail
        refine hp.out.mono ?_
        rintro en w4 ⟨v4, rfl, ho4, hu4, hf4⟩
        go_wp2_with fail
        go_roundg g
        case measure => omega
        case rel => exact ⟨i + 1, by omega, hu4.heap hit2 (fun h => hnv _ h rfl), ho4, fun k hk => (hf4 k hk).elim (hnv k) fun h => by omega, fun j v e => hu4.cell (hA2.1 j v e) (fun h => by have := own_ge ho2 h; dsimp only at this; omega), hA2.2.trans hu4 fun j hj e => by have := own_ge ho2 e; omega⟩
      · obtain rfl : i = l.length := by omega
        have hnx := next_none hit
        rw [List.take_length, ← hpq.out] at ho
        have hg := hfin.out _ _ ho hA.2
        clear ho hA hit
        go_wp2_with fail
        exact hg
  · have hfin : Hid (∀ w', Upd Non w w' → PR (.returned (.tuple #[.slice none 0 0, .int .i64 4])) w') := Lib.hid (fun w' h2 => by rw [← hPR]; exact .inr ⟨hR, rfl, h2⟩)
    rw [show ckQ q = 4 from if_neg hR] at hC
    unfold rqV at hC ⊢
    obtain ⟨kind, session, bucket, object, version, pre, delim, body, ck, re, im, id, n, parts⟩ := q
    unfold rqC at *
    dsimp only at *
    clear hP hs hR hPR hid hx hF hasc hin hsh
    obtain ⟨y0, y1, y2, y3, y4, y5, y6, y7, y8, y9, y10, y11, y12, y13⟩ := hY.out _ hst
    go_enter Tryz.func37, Tryz.ntmps37
    go_wp2_with fail
    refine (hC.out _ hst.2).mono ?_
    rintro en w1 ⟨rfl, hu⟩
    have hg := hfin.out _ (hst.next hu).2
    clear hu hst y0 y1 y2 y3 y4 y5 y6 y7 y8 y9 y10 y11 y12 y13
    go_wp2_with fail
    exact hg
end Go.Proofs.YtogekobpjjmnjaaGreat
