/- The walk over wire.ReadAnswer (printed by gen/mkway.py). -/
import Derived.Test.YtogekobpjjmnjaaGreatMWaX
import Derived.Test.YtogekobpjjmnjaaGreatMWaF
import Derived.Test.YtogekobpjjmnjaaGreatMWaYp
import Derived.Test.YtogekobpjjmnjaaGreatMWrT
import Derived.Test.YtogekobpjjmnjaaGreatMBlA
import Derived.Test.YtogekobpjjmnjaaGreatMWrAb
namespace Go.Proofs.YtogekobpjjmnjaaGreat
open Go.RowKit Go.Amb
set_option linter.unusedVariables false
set_option linter.unusedSimpArgs false
set_option maxRecDepth 100000
attribute [local go_sem ↓] Go.wp_at_zero Go.wp_at_succ
def F87 (u : Nat → Value) (a b c d e : Value) : Act := { tmps := #[a, u 1, b, c, d, e, u 6, u 7, u 8, u 9, u 10, u 11, u 12, u 13, u 14, u 15, u 16, u 17, u 18, u 19, u 20, u 21, u 22, u 23, u 24, u 25, u 26, u 27, u 28, u 29, u 30, u 31, u 32, u 33, u 34, u 35, u 36, u 37, u 38, u 39, u 40, u 41, u 42, u 43, u 44, u 45, u 46, u 47, u 48, u 49, u 50, u 51, u 52, u 53, u 54, u 55, u 56, u 57, u 58, u 59, u 60, u 61, u 62, u 63, u 64, u 65, u 66, u 67, u 68, u 69, u 70, u 71, u 72, u 73, u 74, u 75, u 76, u 77, u 78, u 79, u 80, u 81, u 82, u 83, u 84, u 85, u 86], defers := [] }
theorem F87_of (u0 u1 u2 u3 u4 u5 u6 u7 u8 u9 u10 u11 u12 u13 u14 u15 u16 u17 u18 u19 u20 u21 u22 u23 u24 u25 u26 u27 u28 u29 u30 u31 u32 u33 u34 u35 u36 u37 u38 u39 u40 u41 u42 u43 u44 u45 u46 u47 u48 u49 u50 u51 u52 u53 u54 u55 u56 u57 u58 u59 u60 u61 u62 u63 u64 u65 u66 u67 u68 u69 u70 u71 u72 u73 u74 u75 u76 u77 u78 u79 u80 u81 u82 u83 u84 u85 u86 : Value) : ({ tmps := #[u0, u1, u2, u3, u4, u5, u6, u7, u8, u9, u10, u11, u12, u13, u14, u15, u16, u17, u18, u19, u20, u21, u22, u23, u24, u25, u26, u27, u28, u29, u30, u31, u32, u33, u34, u35, u36, u37, u38, u39, u40, u41, u42, u43, u44, u45, u46, u47, u48, u49, u50, u51, u52, u53, u54, u55, u56, u57, u58, u59, u60, u61, u62, u63, u64, u65, u66, u67, u68, u69, u70, u71, u72, u73, u74, u75, u76, u77, u78, u79, u80, u81, u82, u83, u84, u85, u86], defers := [] } : Act) = F87 (fun n => ({ tmps := #[u0, u1, u2, u3, u4, u5, u6, u7, u8, u9, u10, u11, u12, u13, u14, u15, u16, u17, u18, u19, u20, u21, u22, u23, u24, u25, u26, u27, u28, u29, u30, u31, u32, u33, u34, u35, u36, u37, u38, u39, u40, u41, u42, u43, u44, u45, u46, u47, u48, u49, u50, u51, u52, u53, u54, u55, u56, u57, u58, u59, u60, u61, u62, u63, u64, u65, u66, u67, u68, u69, u70, u71, u72, u73, u74, u75, u76, u77, u78, u79, u80, u81, u82, u83, u84, u85, u86], defers := [] } : Act).tmps.getD n undef) u0 u2 u3 u4 u5 := rfl
set_option maxHeartbeats 32000000 in
theorem wReadAnswer (v : Value) (s : List UInt8) (w : World) (hB : Bytes w v s) (hs : s.length ≤ 140737488355328) : Calls Tryz.prog 4 #[v] w (HeardA wTx s w) := by
  have hsml := Lib.hid (readA_small (tx := wTx) wTx_len s hs)
  have hids := Lib.hid (readA_ids wTx s)
  obtain ⟨X, hX⟩ : ∃ X, readA wTx s = X := ⟨_, rfl⟩
  have htell : Hid (tellA wTx s = if rdEnd s X.1 X.2.1 = 0 ∧ rightA X.2.2 ∧ putA X.2.2 = s then some X.2.2 else none) := Lib.hid (by unfold tellA; rw [hX])
  rw [hX] at hsml hids
  unfold readA at hX
  have c1 := Lib.hid (fun L r w h => fU8 (L := L) r s 0 0 w h)
  generalize rdNum s 0 0 1 = x at *
  obtain ⟨a1, e1, err⟩ := x
  dsimp only at hX c1
  have c2 := Lib.hid (fun L r w h => fI64 (L := L) r s a1 e1 w h)
  generalize rdNum s a1 e1 8 = x at *
  obtain ⟨a2, e2, id⟩ := x
  dsimp only at hX c2
  have c3 := Lib.hid (fun L r w h => fI64 (L := L) r s a2 e2 w h)
  generalize rdNum s a2 e2 8 = x at *
  obtain ⟨a3, e3, time⟩ := x
  dsimp only at hX c3
  have c4 := Lib.hid (fun L r w h => wRText (L := L) r s a3 e3 w h)
  generalize wTx s a3 e3 = x at *
  obtain ⟨a4, e4, text⟩ := x
  dsimp only at hX c4
  have c5 := Lib.hid (fun L r w h => wTag (L := L) r s a4 e4 w h)
  generalize rdTag s a4 e4 = x at *
  obtain ⟨a5, e5, re, im⟩ := x
  dsimp only at hX c5
  have c6 := Lib.hid (fun L r w h => wRText (L := L) r s a5 e5 w h)
  generalize wTx s a5 e5 = x at *
  obtain ⟨a6, e6, version⟩ := x
  dsimp only at hX c6
  have c7 := Lib.hid (fun L r w h => wRHead (L := L) r s a6 e6 w h)
  generalize rdHd s a6 e6 = x at *
  obtain ⟨a7, e7, ⟨hs_, hr, hi, hg, hn_⟩⟩ := x
  dsimp only at hX c7
  have c8 := Lib.hid (fun L r w h => wRText (L := L) r s a7 e7 w h)
  generalize wTx s a7 e7 = x at *
  obtain ⟨a8, e8, body⟩ := x
  dsimp only at hX c8
  have c9 := Lib.hid (fun L r w h => wRTexts (L := L) r s a8 e8 w h)
  generalize rdTxs wTx s a8 e8 = x at *
  obtain ⟨a9, e9, names⟩ := x
  dsimp only at hX c9
  have c10 := Lib.hid (fun L r w h => wRTexts (L := L) r s a9 e9 w h)
  generalize rdTxs wTx s a9 e9 = x at *
  obtain ⟨a10, e10, lnames⟩ := x
  dsimp only at hX c10
  have c11 := Lib.hid (fun L r w h => wRTexts (L := L) r s a10 e10 w h)
  generalize rdTxs wTx s a10 e10 = x at *
  obtain ⟨a11, e11, lpre⟩ := x
  dsimp only at hX c11
  have c12 := Lib.hid (fun L r w h => wRText (L := L) r s a11 e11 w h)
  generalize wTx s a11 e11 = x at *
  obtain ⟨a12, e12, next⟩ := x
  dsimp only at hX c12
  have c13 := Lib.hid (fun L r w h => wRTruth (L := L) r s a12 e12 w h)
  generalize rdNum s a12 e12 1 = x at *
  obtain ⟨a13, e13, bmore⟩ := x
  dsimp only at hX c13
  generalize decide (bmore = 1) = more at *
  have c14 := Lib.hid (fun L r w h => wRLines (L := L) r s a13 e13 w h)
  generalize rdLns wTx s a13 e13 = x at *
  obtain ⟨a14, e14, lines, lobject, lid, lmore⟩ := x
  dsimp only at hX c14
  unfold rdV1 at c4 c5 c6 c7 c8 c9 c10 c11 c12 c13 c14
  unfold hdV at c7
  unfold tagV at c5
  dsimp only at c5 c7
  replace hX := Lib.hid hX
  have hszz : Hid ((Tryz.prog.info? 39).map (·.size) = some (#[.int .i64 0, .int .i64 0, .int .i64 0, .string ⟨#[]⟩, .int .i64 0, .int .i64 0, .string ⟨#[]⟩, .int .i64 0, .int .i64 0, .int .i64 0, .bool false, .bool false, .string ⟨#[]⟩, .slice none 0 0, .slice none 0 0, .slice none 0 0, .string ⟨#[]⟩, .bool false, .slice none 0 0, .string ⟨#[]⟩, .int .i64 0, .bool false, .slice none 0 0, .slice none 0 0] : Array Value).size) := Lib.hid (by kernel_rfl)
  have hsz6 : Hid ((Tryz.prog.info? 39).map (·.size) = some (#[.int .i64 err, .int .i64 id, .int .i64 time, .string ⟨text.toArray⟩, .int .i64 re, .int .i64 im, .string ⟨#[]⟩, .int .i64 0, .int .i64 0, .int .i64 0, .bool false, .bool false, .string ⟨#[]⟩, .slice none 0 0, .slice none 0 0, .slice none 0 0, .string ⟨#[]⟩, .bool false, .slice none 0 0, .string ⟨#[]⟩, .int .i64 0, .bool false, .slice none 0 0, .slice none 0 0] : Array Value).size) := Lib.hid (by kernel_rfl)
  have hszh : Hid ((Tryz.prog.info? 27).map (·.size) = some (#[Value.int .i64 hs_, .int .i64 hr, .int .i64 hi, .bool hg, .bool hn_] : Array Value).size) := Lib.hid (by kernel_rfl)
  obtain ⟨va, vc, rfl⟩ := bytes_form hB
  have hN := Lib.hid (fun w' (hu : Upd Non w w') => fNewReader _ s w' (hB.upd hu fun _ _ h => h) hs)
  have hz0 := heap_alloc_new w (.cells #[.int .i64 0, .int .i64 0, .int .i64 0, .string ⟨#[]⟩, .int .i64 0, .int .i64 0, .string ⟨#[]⟩, .int .i64 0, .int .i64 0, .int .i64 0, .bool false, .bool false, .string ⟨#[]⟩, .slice none 0 0, .slice none 0 0, .slice none 0 0, .string ⟨#[]⟩, .bool false, .slice none 0 0, .string ⟨#[]⟩, .int .i64 0, .bool false, .slice none 0 0, .slice none 0 0] 39)
  have hu0 : Upd Non w (w.alloc (.cells #[.int .i64 0, .int .i64 0, .int .i64 0, .string ⟨#[]⟩, .int .i64 0, .int .i64 0, .string ⟨#[]⟩, .int .i64 0, .int .i64 0, .int .i64 0, .bool false, .bool false, .string ⟨#[]⟩, .slice none 0 0, .slice none 0 0, .slice none 0 0, .string ⟨#[]⟩, .bool false, .slice none 0 0, .string ⟨#[]⟩, .int .i64 0, .bool false, .slice none 0 0, .slice none 0 0] 39)) := Upd.alloc _ _ _
  have hsz0 : (w.alloc (.cells #[.int .i64 0, .int .i64 0, .int .i64 0, .string ⟨#[]⟩, .int .i64 0, .int .i64 0, .string ⟨#[]⟩, .int .i64 0, .int .i64 0, .int .i64 0, .bool false, .bool false, .string ⟨#[]⟩, .slice none 0 0, .slice none 0 0, .slice none 0 0, .string ⟨#[]⟩, .bool false, .slice none 0 0, .string ⟨#[]⟩, .int .i64 0, .bool false, .slice none 0 0, .slice none 0 0] 39)).heap.size = w.heap.size + 1 := by simp
  obtain ⟨PR, hPR⟩ : ∃ PR, HeardA wTx s w = PR := ⟨_, rfl⟩
  rw [hPR]
  replace hPR := Lib.hid hPR
  replace hB := Lib.hid hB
  go_enter Tryz.func4, Tryz.ntmps4
  go_wp2_with fail
  refine (hN.out _ hu0).mono ?_
  rintro en w1 ⟨r, rfl, hR1, hu1, hr1⟩
  rw [hsz0] at hR1 hr1
  have hz1 := hu1.heap hz0 fun h => h
  have hU1 := hu0.trans hu1 fun _ _ h => h
  have hlr := hR1.lt
  clear hz0 hu0 hu1 hN
  obtain ⟨q, hqN⟩ : ∃ q, w1.heap.size = q := ⟨_, rfl⟩
  have gq : (w1.alloc (.cells #[.pointer (some ⟨r, 0, none⟩)] 50)).cell? ⟨q, 0, none⟩ = some (.pointer (some ⟨r, 0, none⟩)) := by rw [← hqN]; exact (cells_of (heap_alloc_new w1 _)).1 0
  have hRd := hR1.non (Upd.alloc _ w1 (.cells #[.pointer (some ⟨r, 0, none⟩)] 50))
  have gZ := (Upd.alloc Non w1 (.cells #[.pointer (some ⟨r, 0, none⟩)] 50)).heap hz1 fun h => h
  have gU := hU1.then_alloc (.cells #[.pointer (some ⟨r, 0, none⟩)] 50)
  have hqr : r < q := by omega
  clear hR1 hz1 hU1
  go_wp2_with fail
  obtain ⟨w2, hw2⟩ : ∃ w2, w1.alloc (.cells #[.pointer (some ⟨r, 0, none⟩)] 50) = w2 := ⟨_, rfl⟩
  rw [hw2] at gq hRd gZ gU ⊢
  try rw [hqN]
  clear hw2
  refine Code.wp_mono (Q := fun e f w' => match e with | .normal => (∃ (u : Nat → Value) (N : Nat), f = F87 u (.slice va s.length vc) (.pointer (some ⟨w.heap.size, 0, none⟩)) (.int .i64 0) (.pointer (some ⟨q, 0, none⟩)) (.pointer (some ⟨N, 0, none⟩)) ∧
    w'.heap[N]? = some (.cells #[.int .i64 err, .int .i64 id, .int .i64 time, .string ⟨text.toArray⟩, .int .i64 re, .int .i64 im, .string ⟨#[]⟩, .int .i64 0, .int .i64 0, .int .i64 0, .bool false, .bool false, .string ⟨#[]⟩, .slice none 0 0, .slice none 0 0, .slice none 0 0, .string ⟨#[]⟩, .bool false, .slice none 0 0, .string ⟨#[]⟩, .int .i64 0, .bool false, .slice none 0 0, .slice none 0 0] 39 (0, 0)) ∧ q < N ∧ RdAt w' r (w.heap.size + 1) s a5 e5 ∧ w'.cell? ⟨q, 0, none⟩ = some (.pointer (some ⟨r, 0, none⟩)) ∧ w'.heap[w.heap.size]? = some (.cells #[.int .i64 0, .int .i64 0, .int .i64 0, .string ⟨#[]⟩, .int .i64 0, .int .i64 0, .string ⟨#[]⟩, .int .i64 0, .int .i64 0, .int .i64 0, .bool false, .bool false, .string ⟨#[]⟩, .slice none 0 0, .slice none 0 0, .slice none 0 0, .string ⟨#[]⟩, .bool false, .slice none 0 0, .string ⟨#[]⟩, .int .i64 0, .bool false, .slice none 0 0, .slice none 0 0] 39 (0, 0)) ∧ Upd Non w w') | _ => False) ?_ ?_
  case refine_2 =>
    replace gZ := (Upd.drew Non _).heap gZ fun h => h
    replace gq := (Upd.drew Non _).cell gq fun h => h
    replace gU := gU.then_drew
    replace hRd := hRd.non (Upd.drew _ _)
    clear hX htell hsml hids hPR c6 c7 c8 c9 c10 c11 c12 c13 c14 hB hs
    refine wp_region_held_drew (S := (fun w' => w'.cell? ⟨q, 0, none⟩ = some (.pointer (some ⟨r, 0, none⟩)))) (by kernel_rfl) (by exact gq) (fun hHeld => ?_)
    (refine wpAnyH_take (i := 0) (oi := ?oi_r1) (v := ?v_r1) ?ho_r1 ?hs_r1 ?hf_r1 ?hr_r1 ?hQ_r1 ?hy_r1 ?hS_r1 ?rest_r1; (case hr_r1 => kernel_rfl); (case hf_r1 => kernel_rfl); (case hs_r1 => kernel_rfl); (case ho_r1 => (simp only [List.getElem?_toArray, List.getElem?_cons_succ, List.getElem?_cons_zero]; rfl)); (case hS_r1 => assumption); (case hQ_r1 => exact fun _ _ _ h => h); (case hy_r1 => (refine Or.inl ⟨by rfl, ?_⟩; (intro w hSw; (try dsimp only at hSw); go_simp) <;> with_reducible rfl)); (try simp only [Act.put, List.setIfInBounds_toArray, List.set_cons_zero, List.set_cons_succ]))
    (refine wpAnyH_take (i := 1) (oi := ?oi_r2) (v := ?v_r2) ?ho_r2 ?hs_r2 ?hf_r2 ?hr_r2 ?hQ_r2 ?hy_r2 ?hS_r2 ?rest_r2; (case hr_r2 => kernel_rfl); (case hf_r2 => kernel_rfl); (case hs_r2 => kernel_rfl); (case ho_r2 => (simp only [List.getElem?_toArray, List.getElem?_cons_succ, List.getElem?_cons_zero]; rfl)); (case hS_r2 => assumption); (case hQ_r2 => exact fun _ _ _ h => h); (case hy_r2 => (refine Or.inl ⟨by rfl, ?_⟩; (intro w hSw; (try dsimp only at hSw); go_simp) <;> with_reducible rfl)); (try simp only [Act.put, List.setIfInBounds_toArray, List.set_cons_zero, List.set_cons_succ]))
    (refine wpAnyH_take (i := 3) (oi := ?oi_r3) (v := ?v_r3) ?ho_r3 ?hs_r3 ?hf_r3 ?hr_r3 ?hQ_r3 ?hy_r3 ?hS_r3 ?rest_r3; (case hr_r3 => kernel_rfl); (case hf_r3 => kernel_rfl); (case hs_r3 => kernel_rfl); (case ho_r3 => (simp only [List.getElem?_toArray, List.getElem?_cons_succ, List.getElem?_cons_zero]; rfl)); (case hS_r3 => assumption); (case hQ_r3 => exact fun _ _ _ h => h); (case hy_r3 => (refine Or.inl ⟨by rfl, ?_⟩; (intro w hSw; (try dsimp only at hSw); go_simp) <;> with_reducible rfl)); (try simp only [Act.put, List.setIfInBounds_toArray, List.set_cons_zero, List.set_cons_succ]))
    (refine wpAnyH_take (i := 4) (oi := ?oi_r4) (v := ?v_r4) ?ho_r4 ?hs_r4 ?hf_r4 ?hr_r4 ?hQ_r4 ?hy_r4 ?hS_r4 ?rest_r4; (case hr_r4 => kernel_rfl); (case hf_r4 => kernel_rfl); (case hs_r4 => kernel_rfl); (case ho_r4 => (simp only [List.getElem?_toArray, List.getElem?_cons_succ, List.getElem?_cons_zero]; rfl)); (case hS_r4 => assumption); (case hQ_r4 => exact fun _ _ _ h => h); (case hy_r4 => (refine Or.inl ⟨by rfl, ?_⟩; (intro w hSw; (try dsimp only at hSw); go_simp) <;> with_reducible rfl)); (try simp only [Act.put, List.setIfInBounds_toArray, List.set_cons_zero, List.set_cons_succ]))
    (refine wpAnyH_take (i := 6) (oi := ?oi_r5) (v := ?v_r5) ?ho_r5 ?hs_r5 ?hf_r5 ?hr_r5 ?hQ_r5 ?hy_r5 ?hS_r5 ?rest_r5; (case hr_r5 => kernel_rfl); (case hf_r5 => kernel_rfl); (case hs_r5 => kernel_rfl); (case ho_r5 => (simp only [List.getElem?_toArray, List.getElem?_cons_succ, List.getElem?_cons_zero]; rfl)); (case hS_r5 => assumption); (case hQ_r5 => exact fun _ _ _ h => h); (case hy_r5 => (refine Or.inl ⟨by rfl, ?_⟩; (intro w hSw; (try dsimp only at hSw); go_simp) <;> with_reducible rfl)); (try simp only [Act.put, List.setIfInBounds_toArray, List.set_cons_zero, List.set_cons_succ]))
    (refine wpAnyH_take (i := 7) (oi := ?oi_r6) (v := ?v_r6) ?ho_r6 ?hs_r6 ?hf_r6 ?hr_r6 ?hQ_r6 ?hy_r6 ?hS_r6 ?rest_r6; (case hr_r6 => kernel_rfl); (case hf_r6 => kernel_rfl); (case hs_r6 => kernel_rfl); (case ho_r6 => (simp only [List.getElem?_toArray, List.getElem?_cons_succ, List.getElem?_cons_zero]; rfl)); (case hS_r6 => assumption); (case hQ_r6 => exact fun _ _ _ h => h); (case hy_r6 => (refine Or.inl ⟨by rfl, ?_⟩; (intro w hSw; (try dsimp only at hSw); go_simp) <;> with_reducible rfl)); (try simp only [Act.put, List.setIfInBounds_toArray, List.set_cons_zero, List.set_cons_succ]))
    (refine wpAnyH_take (i := 9) (oi := ?oi_r7) (v := ?v_r7) ?ho_r7 ?hs_r7 ?hf_r7 ?hr_r7 ?hQ_r7 ?hy_r7 ?hS_r7 ?rest_r7; (case hr_r7 => kernel_rfl); (case hf_r7 => kernel_rfl); (case hs_r7 => kernel_rfl); (case ho_r7 => (simp only [List.getElem?_toArray, List.getElem?_cons_succ, List.getElem?_cons_zero]; rfl)); (case hS_r7 => assumption); (case hQ_r7 => exact fun _ _ _ h => h); (case hy_r7 => (refine Or.inl ⟨by rfl, ?_⟩; (intro w hSw; (try dsimp only at hSw); go_simp) <;> with_reducible rfl)); (try simp only [Act.put, List.setIfInBounds_toArray, List.set_cons_zero, List.set_cons_succ]))
    (refine wpAnyH_take (i := 11) (oi := ?oi_r8) (v := ?v_r8) ?ho_r8 ?hs_r8 ?hf_r8 ?hr_r8 ?hQ_r8 ?hy_r8 ?hS_r8 ?rest_r8; (case hr_r8 => kernel_rfl); (case hf_r8 => kernel_rfl); (case hs_r8 => kernel_rfl); (case ho_r8 => (simp only [List.getElem?_toArray, List.getElem?_cons_succ, List.getElem?_cons_zero]; rfl)); (case hS_r8 => assumption); (case hQ_r8 => exact fun _ _ _ h => h); (case hy_r8 => (refine Or.inl ⟨by rfl, ?_⟩; (intro w hSw; (try dsimp only at hSw); go_simp) <;> with_reducible rfl)); (try simp only [Act.put, List.setIfInBounds_toArray, List.set_cons_zero, List.set_cons_succ]))
    obtain ⟨w0_, hw0_⟩ : ∃ x, w2.drew = x := ⟨_, rfl⟩
    rw [hw0_] at hHeld gq gZ gU hRd ⊢
    clear hw0_
    refine wpAnyH_ready (rs := [2, 14]) (by kernel_rfl) (by simp) ?_
    refine (AllReadyH.cons (o := ?oor9_0) ?hor9_0 ?hsr9_0 (AllReadyH.cons (o := ?oor9_1) ?hor9_1 ?hsr9_1 AllReadyH.nil))
    case hor9_0 => (simp only [List.getElem?_toArray, List.getElem?_cons_succ, List.getElem?_cons_zero]; rfl)
    case hor9_1 => (simp only [List.getElem?_toArray, List.getElem?_cons_succ, List.getElem?_cons_zero]; rfl)
    case hsr9_0 =>
      intro K hK
      go_simp
      (go_at_call 9; (refine (c1.out _ _ _ hRd).mono ?_); rintro en w1_ ⟨rfl, hR_, hu_⟩)
      replace gq := hu_.cell gq (by dsimp only; omega)
      replace gZ := hu_.heap gZ (by omega)
      replace gU := gU.trans hu_ fun j hj h => by omega
      replace hRd := hR_
      clear hR_ hu_
      try go_wp2_with fail
      refine hK.out _ _ (by exact gq) (fun hHeld => ?_)
      clear hK K
      try simp only [Act.put, List.setIfInBounds_toArray, List.set_cons_zero, List.set_cons_succ]
      refine wpAnyH_ready (rs := [5, 14]) (by kernel_rfl) (by simp) ?_
      refine (AllReadyH.cons (o := ?oor10_0) ?hor10_0 ?hsr10_0 (AllReadyH.cons (o := ?oor10_1) ?hor10_1 ?hsr10_1 AllReadyH.nil))
      case hor10_0 => (simp only [List.getElem?_toArray, List.getElem?_cons_succ, List.getElem?_cons_zero]; rfl)
      case hor10_1 => (simp only [List.getElem?_toArray, List.getElem?_cons_succ, List.getElem?_cons_zero]; rfl)
      case hsr10_0 =>
        intro K hK
        go_simp
        (go_at_call 10; (refine (c2.out _ _ _ hRd).mono ?_); rintro en w2_ ⟨rfl, hR_, hu_⟩)
        replace gq := hu_.cell gq (by dsimp only; omega)
        replace gZ := hu_.heap gZ (by omega)
        replace gU := gU.trans hu_ fun j hj h => by omega
        replace hRd := hR_
        clear hR_ hu_
        try go_wp2_with fail
        refine hK.out _ _ (by exact gq) (fun hHeld => ?_)
        clear hK K
        try simp only [Act.put, List.setIfInBounds_toArray, List.set_cons_zero, List.set_cons_succ]
        refine wpAnyH_ready (rs := [8, 14]) (by kernel_rfl) (by simp) ?_
        refine (AllReadyH.cons (o := ?oor11_0) ?hor11_0 ?hsr11_0 (AllReadyH.cons (o := ?oor11_1) ?hor11_1 ?hsr11_1 AllReadyH.nil))
        case hor11_0 => (simp only [List.getElem?_toArray, List.getElem?_cons_succ, List.getElem?_cons_zero]; rfl)
        case hor11_1 => (simp only [List.getElem?_toArray, List.getElem?_cons_succ, List.getElem?_cons_zero]; rfl)
        case hsr11_0 =>
          intro K hK
          go_simp
          (go_at_call 10; (refine (c3.out _ _ _ hRd).mono ?_); rintro en w3_ ⟨rfl, hR_, hu_⟩)
          replace gq := hu_.cell gq (by dsimp only; omega)
          replace gZ := hu_.heap gZ (by omega)
          replace gU := gU.trans hu_ fun j hj h => by omega
          replace hRd := hR_
          clear hR_ hu_
          try go_wp2_with fail
          refine hK.out _ _ (by exact gq) (fun hHeld => ?_)
          clear hK K
          try simp only [Act.put, List.setIfInBounds_toArray, List.set_cons_zero, List.set_cons_succ]
          refine wpAnyH_ready (rs := [10, 14]) (by kernel_rfl) (by simp) ?_
          refine (AllReadyH.cons (o := ?oor12_0) ?hor12_0 ?hsr12_0 (AllReadyH.cons (o := ?oor12_1) ?hor12_1 ?hsr12_1 AllReadyH.nil))
          case hor12_0 => (simp only [List.getElem?_toArray, List.getElem?_cons_succ, List.getElem?_cons_zero]; rfl)
          case hor12_1 => (simp only [List.getElem?_toArray, List.getElem?_cons_succ, List.getElem?_cons_zero]; rfl)
          case hsr12_0 =>
            intro K hK
            go_simp
            (go_at_call 11; (refine (c4.out _ _ _ hRd).mono ?_); rintro en w4_ ⟨rfl, hR_, hu_⟩)
            replace gq := hu_.cell gq (by dsimp only; omega)
            replace gZ := hu_.heap gZ (by omega)
            replace gU := gU.trans hu_ fun j hj h => by omega
            replace hRd := hR_
            clear hR_ hu_
            try go_wp2_with fail
            refine hK.out _ _ (by exact gq) (fun hHeld => ?_)
            clear hK K
            try simp only [Act.put, List.setIfInBounds_toArray, List.set_cons_zero, List.set_cons_succ]
            refine wpAnyH_ready (rs := [12, 14]) (by kernel_rfl) (by simp) ?_
            refine (AllReadyH.cons (o := ?oor13_0) ?hor13_0 ?hsr13_0 (AllReadyH.cons (o := ?oor13_1) ?hor13_1 ?hsr13_1 AllReadyH.nil))
            case hor13_0 => (simp only [List.getElem?_toArray, List.getElem?_cons_succ, List.getElem?_cons_zero]; rfl)
            case hor13_1 => (simp only [List.getElem?_toArray, List.getElem?_cons_succ, List.getElem?_cons_zero]; rfl)
            case hsr13_0 =>
              intro K hK
              go_simp
              (go_at_call 12; (refine (c5.out _ _ _ hRd).mono ?_); rintro en w5_ ⟨rfl, hR_, hu_⟩)
              replace gq := hu_.cell gq (by dsimp only; omega)
              replace gZ := hu_.heap gZ (by omega)
              replace gU := gU.trans hu_ fun j hj h => by omega
              replace hRd := hR_
              clear hR_ hu_
              try go_wp2_with fail
              refine hK.out _ _ (by exact gq) (fun hHeld => ?_)
              clear hK K
              try simp only [Act.put, List.setIfInBounds_toArray, List.set_cons_zero, List.set_cons_succ]
              (refine wpAnyH_take (i := 13) (oi := ?oi_r14) (v := ?v_r14) ?ho_r14 ?hs_r14 ?hf_r14 ?hr_r14 ?hQ_r14 ?hy_r14 ?hS_r14 ?rest_r14; (case hr_r14 => kernel_rfl); (case hf_r14 => kernel_rfl); (case hs_r14 => kernel_rfl); (case ho_r14 => (simp only [List.getElem?_toArray, List.getElem?_cons_succ, List.getElem?_cons_zero]; rfl)); (case hS_r14 => assumption); (case hQ_r14 => exact fun _ _ _ h => h); (case hy_r14 => (refine Or.inl ⟨by rfl, ?_⟩; (intro w hSw; (try dsimp only at hSw); go_simp) <;> with_reducible rfl)); (try simp only [Act.put, List.setIfInBounds_toArray, List.set_cons_zero, List.set_cons_succ]))
              refine wpAnyH_ready (rs := [14]) (by kernel_rfl) (by simp) ?_
              refine (AllReadyH.cons (o := ?oor15_0) ?hor15_0 ?hsr15_0 AllReadyH.nil)
              case hor15_0 => (simp only [List.getElem?_toArray, List.getElem?_cons_succ, List.getElem?_cons_zero]; rfl)
              case hsr15_0 =>
                intro K hK
                go_simp
                have hal_ := Upd.alloc Non w5_ (.cells #[.int .i64 0, .int .i64 0, .int .i64 0, .string ⟨#[]⟩, .int .i64 0, .int .i64 0, .string ⟨#[]⟩, .int .i64 0, .int .i64 0, .int .i64 0, .bool false, .bool false, .string ⟨#[]⟩, .slice none 0 0, .slice none 0 0, .slice none 0 0, .string ⟨#[]⟩, .bool false, .slice none 0 0, .string ⟨#[]⟩, .int .i64 0, .bool false, .slice none 0 0, .slice none 0 0] 39)
                have hn := heap_alloc_new w5_ (.cells #[.int .i64 0, .int .i64 0, .int .i64 0, .string ⟨#[]⟩, .int .i64 0, .int .i64 0, .string ⟨#[]⟩, .int .i64 0, .int .i64 0, .int .i64 0, .bool false, .bool false, .string ⟨#[]⟩, .slice none 0 0, .slice none 0 0, .slice none 0 0, .string ⟨#[]⟩, .bool false, .slice none 0 0, .string ⟨#[]⟩, .int .i64 0, .bool false, .slice none 0 0, .slice none 0 0] 39)
                have hqz_ := World.block_lt_of_cell? _ _ gq
                dsimp only at hqz_
                obtain ⟨N, hN⟩ : ∃ N, (w5_).heap.size = N := ⟨_, rfl⟩
                rw [hN] at hn hqz_
                replace gq := hal_.cell gq fun h => h
                replace gZ := hal_.heap gZ fun h => h
                replace gU := gU.trans hal_ fun _ _ h => h
                replace hRd := hRd.non hal_
                clear hal_
                refine hK.out _ _ (by exact gq) (fun hHeld => ?_)
                clear hK K
                try simp only [Act.put, List.setIfInBounds_toArray, List.set_cons_zero, List.set_cons_succ]
                obtain ⟨w6_, hw_⟩ : ∃ x, World.alloc w5_ (.cells #[.int .i64 0, .int .i64 0, .int .i64 0, .string ⟨#[]⟩, .int .i64 0, .int .i64 0, .string ⟨#[]⟩, .int .i64 0, .int .i64 0, .int .i64 0, .bool false, .bool false, .string ⟨#[]⟩, .slice none 0 0, .slice none 0 0, .slice none 0 0, .string ⟨#[]⟩, .bool false, .slice none 0 0, .string ⟨#[]⟩, .int .i64 0, .bool false, .slice none 0 0, .slice none 0 0] 39) = x := ⟨_, rfl⟩
                rw [hw_] at hn gq gZ gU hRd ⊢
                clear hw_
                rw [hN]
                replace hN := Lib.hid hN
                refine wpAnyH_ready (rs := [15]) (by kernel_rfl) (by simp) ?_
                refine (AllReadyH.cons (o := ?oor16_0) ?hor16_0 ?hsr16_0 AllReadyH.nil)
                case hor16_0 => (simp only [List.getElem?_toArray, List.getElem?_cons_succ, List.getElem?_cons_zero]; rfl)
                case hsr16_0 =>
                  intro K hK
                  refine storeB_step rfl 39 _ _ rfl N #[.int .i64 err, .int .i64 id, .int .i64 time, .string ⟨text.toArray⟩, .int .i64 re, .int .i64 im, .string ⟨#[]⟩, .int .i64 0, .int .i64 0, .int .i64 0, .bool false, .bool false, .string ⟨#[]⟩, .slice none 0 0, .slice none 0 0, .slice none 0 0, .string ⟨#[]⟩, .bool false, .slice none 0 0, .string ⟨#[]⟩, .int .i64 0, .bool false, .slice none 0 0, .slice none 0 0] _ _ rfl rfl hn rfl hsz6.out (by simp [Value.oneCell']) ?_
                  intro w7_ hb9 hu9
                  replace gq := hu9.cell gq (by dsimp only; omega)
                  refine hK.out _ _ (by exact gq) (fun hHeld => ?_)
                  clear hK K
                  try simp only [Act.put, List.setIfInBounds_toArray, List.set_cons_zero, List.set_cons_succ]
                  refine wpAnyH_done (by kernel_rfl) ?_ _
                  exact ⟨_, N, F87_of _ _ _ _ _ _ _ _ _ _ _ _ _ _ _ _ _ _ _ _ _ _ _ _ _ _ _ _ _ _ _ _ _ _ _ _ _ _ _ _ _ _ _ _ _ _ _ _ _ _ _ _ _ _ _ _ _ _ _ _ _ _ _ _ _ _ _ _ _ _ _ _ _ _ _ _ _ _ _ _ _ _ _ _ _ _ _, hb9, hqz_, hRd.upd hu9 (fun j _ hj => .inr (by omega)), gq, hu9.heap gZ (by omega), gU.trans hu9 fun j hj h => by have := gU.size; omega⟩
            case hsr13_1 =>
              intro K hK
              go_simp
              have hal_ := Upd.alloc Non w4_ (.cells #[.int .i64 0, .int .i64 0, .int .i64 0, .string ⟨#[]⟩, .int .i64 0, .int .i64 0, .string ⟨#[]⟩, .int .i64 0, .int .i64 0, .int .i64 0, .bool false, .bool false, .string ⟨#[]⟩, .slice none 0 0, .slice none 0 0, .slice none 0 0, .string ⟨#[]⟩, .bool false, .slice none 0 0, .string ⟨#[]⟩, .int .i64 0, .bool false, .slice none 0 0, .slice none 0 0] 39)
              have hn := heap_alloc_new w4_ (.cells #[.int .i64 0, .int .i64 0, .int .i64 0, .string ⟨#[]⟩, .int .i64 0, .int .i64 0, .string ⟨#[]⟩, .int .i64 0, .int .i64 0, .int .i64 0, .bool false, .bool false, .string ⟨#[]⟩, .slice none 0 0, .slice none 0 0, .slice none 0 0, .string ⟨#[]⟩, .bool false, .slice none 0 0, .string ⟨#[]⟩, .int .i64 0, .bool false, .slice none 0 0, .slice none 0 0] 39)
              have hqz_ := World.block_lt_of_cell? _ _ gq
              dsimp only at hqz_
              obtain ⟨N, hN⟩ : ∃ N, (w4_).heap.size = N := ⟨_, rfl⟩
              rw [hN] at hn hqz_
              replace gq := hal_.cell gq fun h => h
              replace gZ := hal_.heap gZ fun h => h
              replace gU := gU.trans hal_ fun _ _ h => h
              replace hRd := hRd.non hal_
              clear hal_
              refine hK.out _ _ (by exact gq) (fun hHeld => ?_)
              clear hK K
              try simp only [Act.put, List.setIfInBounds_toArray, List.set_cons_zero, List.set_cons_succ]
              obtain ⟨w8_, hw_⟩ : ∃ x, World.alloc w4_ (.cells #[.int .i64 0, .int .i64 0, .int .i64 0, .string ⟨#[]⟩, .int .i64 0, .int .i64 0, .string ⟨#[]⟩, .int .i64 0, .int .i64 0, .int .i64 0, .bool false, .bool false, .string ⟨#[]⟩, .slice none 0 0, .slice none 0 0, .slice none 0 0, .string ⟨#[]⟩, .bool false, .slice none 0 0, .string ⟨#[]⟩, .int .i64 0, .bool false, .slice none 0 0, .slice none 0 0] 39) = x := ⟨_, rfl⟩
              rw [hw_] at hn gq gZ gU hRd ⊢
              clear hw_
              rw [hN]
              replace hN := Lib.hid hN
              refine wpAnyH_ready (rs := [12]) (by kernel_rfl) (by simp) ?_
              refine (AllReadyH.cons (o := ?oor17_0) ?hor17_0 ?hsr17_0 AllReadyH.nil)
              case hor17_0 => (simp only [List.getElem?_toArray, List.getElem?_cons_succ, List.getElem?_cons_zero]; rfl)
              case hsr17_0 =>
                intro K hK
                go_simp
                (go_at_call 12; (refine (c5.out _ _ _ hRd).mono ?_); rintro en w9_ ⟨rfl, hR_, hu_⟩)
                replace gq := hu_.cell gq (by dsimp only; omega)
                replace gZ := hu_.heap gZ (by omega)
                replace gU := gU.trans hu_ fun j hj h => by omega
                replace hn := hu_.heap hn (by omega)
                replace hRd := hR_
                clear hR_ hu_
                try go_wp2_with fail
                refine hK.out _ _ (by exact gq) (fun hHeld => ?_)
                clear hK K
                try simp only [Act.put, List.setIfInBounds_toArray, List.set_cons_zero, List.set_cons_succ]
                (refine wpAnyH_take (i := 13) (oi := ?oi_r18) (v := ?v_r18) ?ho_r18 ?hs_r18 ?hf_r18 ?hr_r18 ?hQ_r18 ?hy_r18 ?hS_r18 ?rest_r18; (case hr_r18 => kernel_rfl); (case hf_r18 => kernel_rfl); (case hs_r18 => kernel_rfl); (case ho_r18 => (simp only [List.getElem?_toArray, List.getElem?_cons_succ, List.getElem?_cons_zero]; rfl)); (case hS_r18 => assumption); (case hQ_r18 => exact fun _ _ _ h => h); (case hy_r18 => (refine Or.inl ⟨by rfl, ?_⟩; (intro w hSw; (try dsimp only at hSw); go_simp) <;> with_reducible rfl)); (try simp only [Act.put, List.setIfInBounds_toArray, List.set_cons_zero, List.set_cons_succ]))
                refine wpAnyH_ready (rs := [15]) (by kernel_rfl) (by simp) ?_
                refine (AllReadyH.cons (o := ?oor19_0) ?hor19_0 ?hsr19_0 AllReadyH.nil)
                case hor19_0 => (simp only [List.getElem?_toArray, List.getElem?_cons_succ, List.getElem?_cons_zero]; rfl)
                case hsr19_0 =>
                  intro K hK
                  refine storeB_step rfl 39 _ _ rfl N #[.int .i64 err, .int .i64 id, .int .i64 time, .string ⟨text.toArray⟩, .int .i64 re, .int .i64 im, .string ⟨#[]⟩, .int .i64 0, .int .i64 0, .int .i64 0, .bool false, .bool false, .string ⟨#[]⟩, .slice none 0 0, .slice none 0 0, .slice none 0 0, .string ⟨#[]⟩, .bool false, .slice none 0 0, .string ⟨#[]⟩, .int .i64 0, .bool false, .slice none 0 0, .slice none 0 0] _ _ rfl rfl hn rfl hsz6.out (by simp [Value.oneCell']) ?_
                  intro w10_ hb9 hu9
                  replace gq := hu9.cell gq (by dsimp only; omega)
                  refine hK.out _ _ (by exact gq) (fun hHeld => ?_)
                  clear hK K
                  try simp only [Act.put, List.setIfInBounds_toArray, List.set_cons_zero, List.set_cons_succ]
                  refine wpAnyH_done (by kernel_rfl) ?_ _
                  exact ⟨_, N, F87_of _ _ _ _ _ _ _ _ _ _ _ _ _ _ _ _ _ _ _ _ _ _ _ _ _ _ _ _ _ _ _ _ _ _ _ _ _ _ _ _ _ _ _ _ _ _ _ _ _ _ _ _ _ _ _ _ _ _ _ _ _ _ _ _ _ _ _ _ _ _ _ _ _ _ _ _ _ _ _ _ _ _ _ _ _ _ _, hb9, hqz_, hRd.upd hu9 (fun j _ hj => .inr (by omega)), gq, hu9.heap gZ (by omega), gU.trans hu9 fun j hj h => by have := gU.size; omega⟩
          case hsr12_1 =>
            intro K hK
            go_simp
            have hal_ := Upd.alloc Non w3_ (.cells #[.int .i64 0, .int .i64 0, .int .i64 0, .string ⟨#[]⟩, .int .i64 0, .int .i64 0, .string ⟨#[]⟩, .int .i64 0, .int .i64 0, .int .i64 0, .bool false, .bool false, .string ⟨#[]⟩, .slice none 0 0, .slice none 0 0, .slice none 0 0, .string ⟨#[]⟩, .bool false, .slice none 0 0, .string ⟨#[]⟩, .int .i64 0, .bool false, .slice none 0 0, .slice none 0 0] 39)
            have hn := heap_alloc_new w3_ (.cells #[.int .i64 0, .int .i64 0, .int .i64 0, .string ⟨#[]⟩, .int .i64 0, .int .i64 0, .string ⟨#[]⟩, .int .i64 0, .int .i64 0, .int .i64 0, .bool false, .bool false, .string ⟨#[]⟩, .slice none 0 0, .slice none 0 0, .slice none 0 0, .string ⟨#[]⟩, .bool false, .slice none 0 0, .string ⟨#[]⟩, .int .i64 0, .bool false, .slice none 0 0, .slice none 0 0] 39)
            have hqz_ := World.block_lt_of_cell? _ _ gq
            dsimp only at hqz_
            obtain ⟨N, hN⟩ : ∃ N, (w3_).heap.size = N := ⟨_, rfl⟩
            rw [hN] at hn hqz_
            replace gq := hal_.cell gq fun h => h
            replace gZ := hal_.heap gZ fun h => h
            replace gU := gU.trans hal_ fun _ _ h => h
            replace hRd := hRd.non hal_
            clear hal_
            refine hK.out _ _ (by exact gq) (fun hHeld => ?_)
            clear hK K
            try simp only [Act.put, List.setIfInBounds_toArray, List.set_cons_zero, List.set_cons_succ]
            obtain ⟨w11_, hw_⟩ : ∃ x, World.alloc w3_ (.cells #[.int .i64 0, .int .i64 0, .int .i64 0, .string ⟨#[]⟩, .int .i64 0, .int .i64 0, .string ⟨#[]⟩, .int .i64 0, .int .i64 0, .int .i64 0, .bool false, .bool false, .string ⟨#[]⟩, .slice none 0 0, .slice none 0 0, .slice none 0 0, .string ⟨#[]⟩, .bool false, .slice none 0 0, .string ⟨#[]⟩, .int .i64 0, .bool false, .slice none 0 0, .slice none 0 0] 39) = x := ⟨_, rfl⟩
            rw [hw_] at hn gq gZ gU hRd ⊢
            clear hw_
            rw [hN]
            replace hN := Lib.hid hN
            refine wpAnyH_ready (rs := [10]) (by kernel_rfl) (by simp) ?_
            refine (AllReadyH.cons (o := ?oor20_0) ?hor20_0 ?hsr20_0 AllReadyH.nil)
            case hor20_0 => (simp only [List.getElem?_toArray, List.getElem?_cons_succ, List.getElem?_cons_zero]; rfl)
            case hsr20_0 =>
              intro K hK
              go_simp
              (go_at_call 11; (refine (c4.out _ _ _ hRd).mono ?_); rintro en w12_ ⟨rfl, hR_, hu_⟩)
              replace gq := hu_.cell gq (by dsimp only; omega)
              replace gZ := hu_.heap gZ (by omega)
              replace gU := gU.trans hu_ fun j hj h => by omega
              replace hn := hu_.heap hn (by omega)
              replace hRd := hR_
              clear hR_ hu_
              try go_wp2_with fail
              refine hK.out _ _ (by exact gq) (fun hHeld => ?_)
              clear hK K
              try simp only [Act.put, List.setIfInBounds_toArray, List.set_cons_zero, List.set_cons_succ]
              refine wpAnyH_ready (rs := [12]) (by kernel_rfl) (by simp) ?_
              refine (AllReadyH.cons (o := ?oor21_0) ?hor21_0 ?hsr21_0 AllReadyH.nil)
              case hor21_0 => (simp only [List.getElem?_toArray, List.getElem?_cons_succ, List.getElem?_cons_zero]; rfl)
              case hsr21_0 =>
                intro K hK
                go_simp
                (go_at_call 12; (refine (c5.out _ _ _ hRd).mono ?_); rintro en w13_ ⟨rfl, hR_, hu_⟩)
                replace gq := hu_.cell gq (by dsimp only; omega)
                replace gZ := hu_.heap gZ (by omega)
                replace gU := gU.trans hu_ fun j hj h => by omega
                replace hn := hu_.heap hn (by omega)
                replace hRd := hR_
                clear hR_ hu_
                try go_wp2_with fail
                refine hK.out _ _ (by exact gq) (fun hHeld => ?_)
                clear hK K
                try simp only [Act.put, List.setIfInBounds_toArray, List.set_cons_zero, List.set_cons_succ]
                (refine wpAnyH_take (i := 13) (oi := ?oi_r22) (v := ?v_r22) ?ho_r22 ?hs_r22 ?hf_r22 ?hr_r22 ?hQ_r22 ?hy_r22 ?hS_r22 ?rest_r22; (case hr_r22 => kernel_rfl); (case hf_r22 => kernel_rfl); (case hs_r22 => kernel_rfl); (case ho_r22 => (simp only [List.getElem?_toArray, List.getElem?_cons_succ, List.getElem?_cons_zero]; rfl)); (case hS_r22 => assumption); (case hQ_r22 => exact fun _ _ _ h => h); (case hy_r22 => (refine Or.inl ⟨by rfl, ?_⟩; (intro w hSw; (try dsimp only at hSw); go_simp) <;> with_reducible rfl)); (try simp only [Act.put, List.setIfInBounds_toArray, List.set_cons_zero, List.set_cons_succ]))
                refine wpAnyH_ready (rs := [15]) (by kernel_rfl) (by simp) ?_
                refine (AllReadyH.cons (o := ?oor23_0) ?hor23_0 ?hsr23_0 AllReadyH.nil)
                case hor23_0 => (simp only [List.getElem?_toArray, List.getElem?_cons_succ, List.getElem?_cons_zero]; rfl)
                case hsr23_0 =>
                  intro K hK
                  refine storeB_step rfl 39 _ _ rfl N #[.int .i64 err, .int .i64 id, .int .i64 time, .string ⟨text.toArray⟩, .int .i64 re, .int .i64 im, .string ⟨#[]⟩, .int .i64 0, .int .i64 0, .int .i64 0, .bool false, .bool false, .string ⟨#[]⟩, .slice none 0 0, .slice none 0 0, .slice none 0 0, .string ⟨#[]⟩, .bool false, .slice none 0 0, .string ⟨#[]⟩, .int .i64 0, .bool false, .slice none 0 0, .slice none 0 0] _ _ rfl rfl hn rfl hsz6.out (by simp [Value.oneCell']) ?_
                  intro w14_ hb9 hu9
                  replace gq := hu9.cell gq (by dsimp only; omega)
                  refine hK.out _ _ (by exact gq) (fun hHeld => ?_)
                  clear hK K
                  try simp only [Act.put, List.setIfInBounds_toArray, List.set_cons_zero, List.set_cons_succ]
                  refine wpAnyH_done (by kernel_rfl) ?_ _
                  exact ⟨_, N, F87_of _ _ _ _ _ _ _ _ _ _ _ _ _ _ _ _ _ _ _ _ _ _ _ _ _ _ _ _ _ _ _ _ _ _ _ _ _ _ _ _ _ _ _ _ _ _ _ _ _ _ _ _ _ _ _ _ _ _ _ _ _ _ _ _ _ _ _ _ _ _ _ _ _ _ _ _ _ _ _ _ _ _ _ _ _ _ _, hb9, hqz_, hRd.upd hu9 (fun j _ hj => .inr (by omega)), gq, hu9.heap gZ (by omega), gU.trans hu9 fun j hj h => by have := gU.size; omega⟩
        case hsr11_1 =>
          intro K hK
          go_simp
          have hal_ := Upd.alloc Non w2_ (.cells #[.int .i64 0, .int .i64 0, .int .i64 0, .string ⟨#[]⟩, .int .i64 0, .int .i64 0, .string ⟨#[]⟩, .int .i64 0, .int .i64 0, .int .i64 0, .bool false, .bool false, .string ⟨#[]⟩, .slice none 0 0, .slice none 0 0, .slice none 0 0, .string ⟨#[]⟩, .bool false, .slice none 0 0, .string ⟨#[]⟩, .int .i64 0, .bool false, .slice none 0 0, .slice none 0 0] 39)
          have hn := heap_alloc_new w2_ (.cells #[.int .i64 0, .int .i64 0, .int .i64 0, .string ⟨#[]⟩, .int .i64 0, .int .i64 0, .string ⟨#[]⟩, .int .i64 0, .int .i64 0, .int .i64 0, .bool false, .bool false, .string ⟨#[]⟩, .slice none 0 0, .slice none 0 0, .slice none 0 0, .string ⟨#[]⟩, .bool false, .slice none 0 0, .string ⟨#[]⟩, .int .i64 0, .bool false, .slice none 0 0, .slice none 0 0] 39)
          have hqz_ := World.block_lt_of_cell? _ _ gq
          dsimp only at hqz_
          obtain ⟨N, hN⟩ : ∃ N, (w2_).heap.size = N := ⟨_, rfl⟩
          rw [hN] at hn hqz_
          replace gq := hal_.cell gq fun h => h
          replace gZ := hal_.heap gZ fun h => h
          replace gU := gU.trans hal_ fun _ _ h => h
          replace hRd := hRd.non hal_
          clear hal_
          refine hK.out _ _ (by exact gq) (fun hHeld => ?_)
          clear hK K
          try simp only [Act.put, List.setIfInBounds_toArray, List.set_cons_zero, List.set_cons_succ]
          obtain ⟨w15_, hw_⟩ : ∃ x, World.alloc w2_ (.cells #[.int .i64 0, .int .i64 0, .int .i64 0, .string ⟨#[]⟩, .int .i64 0, .int .i64 0, .string ⟨#[]⟩, .int .i64 0, .int .i64 0, .int .i64 0, .bool false, .bool false, .string ⟨#[]⟩, .slice none 0 0, .slice none 0 0, .slice none 0 0, .string ⟨#[]⟩, .bool false, .slice none 0 0, .string ⟨#[]⟩, .int .i64 0, .bool false, .slice none 0 0, .slice none 0 0] 39) = x := ⟨_, rfl⟩
          rw [hw_] at hn gq gZ gU hRd ⊢
          clear hw_
          rw [hN]
          replace hN := Lib.hid hN
          refine wpAnyH_ready (rs := [8]) (by kernel_rfl) (by simp) ?_
          refine (AllReadyH.cons (o := ?oor24_0) ?hor24_0 ?hsr24_0 AllReadyH.nil)
          case hor24_0 => (simp only [List.getElem?_toArray, List.getElem?_cons_succ, List.getElem?_cons_zero]; rfl)
          case hsr24_0 =>
            intro K hK
            go_simp
            (go_at_call 10; (refine (c3.out _ _ _ hRd).mono ?_); rintro en w16_ ⟨rfl, hR_, hu_⟩)
            replace gq := hu_.cell gq (by dsimp only; omega)
            replace gZ := hu_.heap gZ (by omega)
            replace gU := gU.trans hu_ fun j hj h => by omega
            replace hn := hu_.heap hn (by omega)
            replace hRd := hR_
            clear hR_ hu_
            try go_wp2_with fail
            refine hK.out _ _ (by exact gq) (fun hHeld => ?_)
            clear hK K
            try simp only [Act.put, List.setIfInBounds_toArray, List.set_cons_zero, List.set_cons_succ]
            refine wpAnyH_ready (rs := [10]) (by kernel_rfl) (by simp) ?_
            refine (AllReadyH.cons (o := ?oor25_0) ?hor25_0 ?hsr25_0 AllReadyH.nil)
            case hor25_0 => (simp only [List.getElem?_toArray, List.getElem?_cons_succ, List.getElem?_cons_zero]; rfl)
            case hsr25_0 =>
              intro K hK
              go_simp
              (go_at_call 11; (refine (c4.out _ _ _ hRd).mono ?_); rintro en w17_ ⟨rfl, hR_, hu_⟩)
              replace gq := hu_.cell gq (by dsimp only; omega)
              replace gZ := hu_.heap gZ (by omega)
              replace gU := gU.trans hu_ fun j hj h => by omega
              replace hn := hu_.heap hn (by omega)
              replace hRd := hR_
              clear hR_ hu_
              try go_wp2_with fail
              refine hK.out _ _ (by exact gq) (fun hHeld => ?_)
              clear hK K
              try simp only [Act.put, List.setIfInBounds_toArray, List.set_cons_zero, List.set_cons_succ]
              refine wpAnyH_ready (rs := [12]) (by kernel_rfl) (by simp) ?_
              refine (AllReadyH.cons (o := ?oor26_0) ?hor26_0 ?hsr26_0 AllReadyH.nil)
              case hor26_0 => (simp only [List.getElem?_toArray, List.getElem?_cons_succ, List.getElem?_cons_zero]; rfl)
              case hsr26_0 =>
                intro K hK
                go_simp
                (go_at_call 12; (refine (c5.out _ _ _ hRd).mono ?_); rintro en w18_ ⟨rfl, hR_, hu_⟩)
                replace gq := hu_.cell gq (by dsimp only; omega)
                replace gZ := hu_.heap gZ (by omega)
                replace gU := gU.trans hu_ fun j hj h => by omega
                replace hn := hu_.heap hn (by omega)
                replace hRd := hR_
                clear hR_ hu_
                try go_wp2_with fail
                refine hK.out _ _ (by exact gq) (fun hHeld => ?_)
                clear hK K
                try simp only [Act.put, List.setIfInBounds_toArray, List.set_cons_zero, List.set_cons_succ]
                (refine wpAnyH_take (i := 13) (oi := ?oi_r27) (v := ?v_r27) ?ho_r27 ?hs_r27 ?hf_r27 ?hr_r27 ?hQ_r27 ?hy_r27 ?hS_r27 ?rest_r27; (case hr_r27 => kernel_rfl); (case hf_r27 => kernel_rfl); (case hs_r27 => kernel_rfl); (case ho_r27 => (simp only [List.getElem?_toArray, List.getElem?_cons_succ, List.getElem?_cons_zero]; rfl)); (case hS_r27 => assumption); (case hQ_r27 => exact fun _ _ _ h => h); (case hy_r27 => (refine Or.inl ⟨by rfl, ?_⟩; (intro w hSw; (try dsimp only at hSw); go_simp) <;> with_reducible rfl)); (try simp only [Act.put, List.setIfInBounds_toArray, List.set_cons_zero, List.set_cons_succ]))
                refine wpAnyH_ready (rs := [15]) (by kernel_rfl) (by simp) ?_
                refine (AllReadyH.cons (o := ?oor28_0) ?hor28_0 ?hsr28_0 AllReadyH.nil)
                case hor28_0 => (simp only [List.getElem?_toArray, List.getElem?_cons_succ, List.getElem?_cons_zero]; rfl)
                case hsr28_0 =>
                  intro K hK
                  refine storeB_step rfl 39 _ _ rfl N #[.int .i64 err, .int .i64 id, .int .i64 time, .string ⟨text.toArray⟩, .int .i64 re, .int .i64 im, .string ⟨#[]⟩, .int .i64 0, .int .i64 0, .int .i64 0, .bool false, .bool false, .string ⟨#[]⟩, .slice none 0 0, .slice none 0 0, .slice none 0 0, .string ⟨#[]⟩, .bool false, .slice none 0 0, .string ⟨#[]⟩, .int .i64 0, .bool false, .slice none 0 0, .slice none 0 0] _ _ rfl rfl hn rfl hsz6.out (by simp [Value.oneCell']) ?_
                  intro w19_ hb9 hu9
                  replace gq := hu9.cell gq (by dsimp only; omega)
                  refine hK.out _ _ (by exact gq) (fun hHeld => ?_)
                  clear hK K
                  try simp only [Act.put, List.setIfInBounds_toArray, List.set_cons_zero, List.set_cons_succ]
                  refine wpAnyH_done (by kernel_rfl) ?_ _
                  exact ⟨_, N, F87_of _ _ _ _ _ _ _ _ _ _ _ _ _ _ _ _ _ _ _ _ _ _ _ _ _ _ _ _ _ _ _ _ _ _ _ _ _ _ _ _ _ _ _ _ _ _ _ _ _ _ _ _ _ _ _ _ _ _ _ _ _ _ _ _ _ _ _ _ _ _ _ _ _ _ _ _ _ _ _ _ _ _ _ _ _ _ _, hb9, hqz_, hRd.upd hu9 (fun j _ hj => .inr (by omega)), gq, hu9.heap gZ (by omega), gU.trans hu9 fun j hj h => by have := gU.size; omega⟩
      case hsr10_1 =>
        intro K hK
        go_simp
        have hal_ := Upd.alloc Non w1_ (.cells #[.int .i64 0, .int .i64 0, .int .i64 0, .string ⟨#[]⟩, .int .i64 0, .int .i64 0, .string ⟨#[]⟩, .int .i64 0, .int .i64 0, .int .i64 0, .bool false, .bool false, .string ⟨#[]⟩, .slice none 0 0, .slice none 0 0, .slice none 0 0, .string ⟨#[]⟩, .bool false, .slice none 0 0, .string ⟨#[]⟩, .int .i64 0, .bool false, .slice none 0 0, .slice none 0 0] 39)
        have hn := heap_alloc_new w1_ (.cells #[.int .i64 0, .int .i64 0, .int .i64 0, .string ⟨#[]⟩, .int .i64 0, .int .i64 0, .string ⟨#[]⟩, .int .i64 0, .int .i64 0, .int .i64 0, .bool false, .bool false, .string ⟨#[]⟩, .slice none 0 0, .slice none 0 0, .slice none 0 0, .string ⟨#[]⟩, .bool false, .slice none 0 0, .string ⟨#[]⟩, .int .i64 0, .bool false, .slice none 0 0, .slice none 0 0] 39)
        have hqz_ := World.block_lt_of_cell? _ _ gq
        dsimp only at hqz_
        obtain ⟨N, hN⟩ : ∃ N, (w1_).heap.size = N := ⟨_, rfl⟩
        rw [hN] at hn hqz_
        replace gq := hal_.cell gq fun h => h
        replace gZ := hal_.heap gZ fun h => h
        replace gU := gU.trans hal_ fun _ _ h => h
        replace hRd := hRd.non hal_
        clear hal_
        refine hK.out _ _ (by exact gq) (fun hHeld => ?_)
        clear hK K
        try simp only [Act.put, List.setIfInBounds_toArray, List.set_cons_zero, List.set_cons_succ]
        obtain ⟨w20_, hw_⟩ : ∃ x, World.alloc w1_ (.cells #[.int .i64 0, .int .i64 0, .int .i64 0, .string ⟨#[]⟩, .int .i64 0, .int .i64 0, .string ⟨#[]⟩, .int .i64 0, .int .i64 0, .int .i64 0, .bool false, .bool false, .string ⟨#[]⟩, .slice none 0 0, .slice none 0 0, .slice none 0 0, .string ⟨#[]⟩, .bool false, .slice none 0 0, .string ⟨#[]⟩, .int .i64 0, .bool false, .slice none 0 0, .slice none 0 0] 39) = x := ⟨_, rfl⟩
        rw [hw_] at hn gq gZ gU hRd ⊢
        clear hw_
        rw [hN]
        replace hN := Lib.hid hN
        refine wpAnyH_ready (rs := [5]) (by kernel_rfl) (by simp) ?_
        refine (AllReadyH.cons (o := ?oor29_0) ?hor29_0 ?hsr29_0 AllReadyH.nil)
        case hor29_0 => (simp only [List.getElem?_toArray, List.getElem?_cons_succ, List.getElem?_cons_zero]; rfl)
        case hsr29_0 =>
          intro K hK
          go_simp
          (go_at_call 10; (refine (c2.out _ _ _ hRd).mono ?_); rintro en w21_ ⟨rfl, hR_, hu_⟩)
          replace gq := hu_.cell gq (by dsimp only; omega)
          replace gZ := hu_.heap gZ (by omega)
          replace gU := gU.trans hu_ fun j hj h => by omega
          replace hn := hu_.heap hn (by omega)
          replace hRd := hR_
          clear hR_ hu_
          try go_wp2_with fail
          refine hK.out _ _ (by exact gq) (fun hHeld => ?_)
          clear hK K
          try simp only [Act.put, List.setIfInBounds_toArray, List.set_cons_zero, List.set_cons_succ]
          refine wpAnyH_ready (rs := [8]) (by kernel_rfl) (by simp) ?_
          refine (AllReadyH.cons (o := ?oor30_0) ?hor30_0 ?hsr30_0 AllReadyH.nil)
          case hor30_0 => (simp only [List.getElem?_toArray, List.getElem?_cons_succ, List.getElem?_cons_zero]; rfl)
          case hsr30_0 =>
            intro K hK
            go_simp
            (go_at_call 10; (refine (c3.out _ _ _ hRd).mono ?_); rintro en w22_ ⟨rfl, hR_, hu_⟩)
            replace gq := hu_.cell gq (by dsimp only; omega)
            replace gZ := hu_.heap gZ (by omega)
            replace gU := gU.trans hu_ fun j hj h => by omega
            replace hn := hu_.heap hn (by omega)
            replace hRd := hR_
            clear hR_ hu_
            try go_wp2_with fail
            refine hK.out _ _ (by exact gq) (fun hHeld => ?_)
            clear hK K
            try simp only [Act.put, List.setIfInBounds_toArray, List.set_cons_zero, List.set_cons_succ]
            refine wpAnyH_ready (rs := [10]) (by kernel_rfl) (by simp) ?_
            refine (AllReadyH.cons (o := ?oor31_0) ?hor31_0 ?hsr31_0 AllReadyH.nil)
            case hor31_0 => (simp only [List.getElem?_toArray, List.getElem?_cons_succ, List.getElem?_cons_zero]; rfl)
            case hsr31_0 =>
              intro K hK
              go_simp
              (go_at_call 11; (refine (c4.out _ _ _ hRd).mono ?_); rintro en w23_ ⟨rfl, hR_, hu_⟩)
              replace gq := hu_.cell gq (by dsimp only; omega)
              replace gZ := hu_.heap gZ (by omega)
              replace gU := gU.trans hu_ fun j hj h => by omega
              replace hn := hu_.heap hn (by omega)
              replace hRd := hR_
              clear hR_ hu_
              try go_wp2_with fail
              refine hK.out _ _ (by exact gq) (fun hHeld => ?_)
              clear hK K
              try simp only [Act.put, List.setIfInBounds_toArray, List.set_cons_zero, List.set_cons_succ]
              refine wpAnyH_ready (rs := [12]) (by kernel_rfl) (by simp) ?_
              refine (AllReadyH.cons (o := ?oor32_0) ?hor32_0 ?hsr32_0 AllReadyH.nil)
              case hor32_0 => (simp only [List.getElem?_toArray, List.getElem?_cons_succ, List.getElem?_cons_zero]; rfl)
              case hsr32_0 =>
                intro K hK
                go_simp
                (go_at_call 12; (refine (c5.out _ _ _ hRd).mono ?_); rintro en w24_ ⟨rfl, hR_, hu_⟩)
                replace gq := hu_.cell gq (by dsimp only; omega)
                replace gZ := hu_.heap gZ (by omega)
                replace gU := gU.trans hu_ fun j hj h => by omega
                replace hn := hu_.heap hn (by omega)
                replace hRd := hR_
                clear hR_ hu_
                try go_wp2_with fail
                refine hK.out _ _ (by exact gq) (fun hHeld => ?_)
                clear hK K
                try simp only [Act.put, List.setIfInBounds_toArray, List.set_cons_zero, List.set_cons_succ]
                (refine wpAnyH_take (i := 13) (oi := ?oi_r33) (v := ?v_r33) ?ho_r33 ?hs_r33 ?hf_r33 ?hr_r33 ?hQ_r33 ?hy_r33 ?hS_r33 ?rest_r33; (case hr_r33 => kernel_rfl); (case hf_r33 => kernel_rfl); (case hs_r33 => kernel_rfl); (case ho_r33 => (simp only [List.getElem?_toArray, List.getElem?_cons_succ, List.getElem?_cons_zero]; rfl)); (case hS_r33 => assumption); (case hQ_r33 => exact fun _ _ _ h => h); (case hy_r33 => (refine Or.inl ⟨by rfl, ?_⟩; (intro w hSw; (try dsimp only at hSw); go_simp) <;> with_reducible rfl)); (try simp only [Act.put, List.setIfInBounds_toArray, List.set_cons_zero, List.set_cons_succ]))
                refine wpAnyH_ready (rs := [15]) (by kernel_rfl) (by simp) ?_
                refine (AllReadyH.cons (o := ?oor34_0) ?hor34_0 ?hsr34_0 AllReadyH.nil)
                case hor34_0 => (simp only [List.getElem?_toArray, List.getElem?_cons_succ, List.getElem?_cons_zero]; rfl)
                case hsr34_0 =>
                  intro K hK
                  refine storeB_step rfl 39 _ _ rfl N #[.int .i64 err, .int .i64 id, .int .i64 time, .string ⟨text.toArray⟩, .int .i64 re, .int .i64 im, .string ⟨#[]⟩, .int .i64 0, .int .i64 0, .int .i64 0, .bool false, .bool false, .string ⟨#[]⟩, .slice none 0 0, .slice none 0 0, .slice none 0 0, .string ⟨#[]⟩, .bool false, .slice none 0 0, .string ⟨#[]⟩, .int .i64 0, .bool false, .slice none 0 0, .slice none 0 0] _ _ rfl rfl hn rfl hsz6.out (by simp [Value.oneCell']) ?_
                  intro w25_ hb9 hu9
                  replace gq := hu9.cell gq (by dsimp only; omega)
                  refine hK.out _ _ (by exact gq) (fun hHeld => ?_)
                  clear hK K
                  try simp only [Act.put, List.setIfInBounds_toArray, List.set_cons_zero, List.set_cons_succ]
                  refine wpAnyH_done (by kernel_rfl) ?_ _
                  exact ⟨_, N, F87_of _ _ _ _ _ _ _ _ _ _ _ _ _ _ _ _ _ _ _ _ _ _ _ _ _ _ _ _ _ _ _ _ _ _ _ _ _ _ _ _ _ _ _ _ _ _ _ _ _ _ _ _ _ _ _ _ _ _ _ _ _ _ _ _ _ _ _ _ _ _ _ _ _ _ _ _ _ _ _ _ _ _ _ _ _ _ _, hb9, hqz_, hRd.upd hu9 (fun j _ hj => .inr (by omega)), gq, hu9.heap gZ (by omega), gU.trans hu9 fun j hj h => by have := gU.size; omega⟩
    case hsr9_1 =>
      intro K hK
      go_simp
      have hal_ := Upd.alloc Non w0_ (.cells #[.int .i64 0, .int .i64 0, .int .i64 0, .string ⟨#[]⟩, .int .i64 0, .int .i64 0, .string ⟨#[]⟩, .int .i64 0, .int .i64 0, .int .i64 0, .bool false, .bool false, .string ⟨#[]⟩, .slice none 0 0, .slice none 0 0, .slice none 0 0, .string ⟨#[]⟩, .bool false, .slice none 0 0, .string ⟨#[]⟩, .int .i64 0, .bool false, .slice none 0 0, .slice none 0 0] 39)
      have hn := heap_alloc_new w0_ (.cells #[.int .i64 0, .int .i64 0, .int .i64 0, .string ⟨#[]⟩, .int .i64 0, .int .i64 0, .string ⟨#[]⟩, .int .i64 0, .int .i64 0, .int .i64 0, .bool false, .bool false, .string ⟨#[]⟩, .slice none 0 0, .slice none 0 0, .slice none 0 0, .string ⟨#[]⟩, .bool false, .slice none 0 0, .string ⟨#[]⟩, .int .i64 0, .bool false, .slice none 0 0, .slice none 0 0] 39)
      have hqz_ := World.block_lt_of_cell? _ _ gq
      dsimp only at hqz_
      obtain ⟨N, hN⟩ : ∃ N, (w0_).heap.size = N := ⟨_, rfl⟩
      rw [hN] at hn hqz_
      replace gq := hal_.cell gq fun h => h
      replace gZ := hal_.heap gZ fun h => h
      replace gU := gU.trans hal_ fun _ _ h => h
      replace hRd := hRd.non hal_
      clear hal_
      refine hK.out _ _ (by exact gq) (fun hHeld => ?_)
      clear hK K
      try simp only [Act.put, List.setIfInBounds_toArray, List.set_cons_zero, List.set_cons_succ]
      obtain ⟨w26_, hw_⟩ : ∃ x, World.alloc w0_ (.cells #[.int .i64 0, .int .i64 0, .int .i64 0, .string ⟨#[]⟩, .int .i64 0, .int .i64 0, .string ⟨#[]⟩, .int .i64 0, .int .i64 0, .int .i64 0, .bool false, .bool false, .string ⟨#[]⟩, .slice none 0 0, .slice none 0 0, .slice none 0 0, .string ⟨#[]⟩, .bool false, .slice none 0 0, .string ⟨#[]⟩, .int .i64 0, .bool false, .slice none 0 0, .slice none 0 0] 39) = x := ⟨_, rfl⟩
      rw [hw_] at hn gq gZ gU hRd ⊢
      clear hw_
      rw [hN]
      replace hN := Lib.hid hN
      refine wpAnyH_ready (rs := [2]) (by kernel_rfl) (by simp) ?_
      refine (AllReadyH.cons (o := ?oor35_0) ?hor35_0 ?hsr35_0 AllReadyH.nil)
      case hor35_0 => (simp only [List.getElem?_toArray, List.getElem?_cons_succ, List.getElem?_cons_zero]; rfl)
      case hsr35_0 =>
        intro K hK
        go_simp
        (go_at_call 9; (refine (c1.out _ _ _ hRd).mono ?_); rintro en w27_ ⟨rfl, hR_, hu_⟩)
        replace gq := hu_.cell gq (by dsimp only; omega)
        replace gZ := hu_.heap gZ (by omega)
        replace gU := gU.trans hu_ fun j hj h => by omega
        replace hn := hu_.heap hn (by omega)
        replace hRd := hR_
        clear hR_ hu_
        try go_wp2_with fail
        refine hK.out _ _ (by exact gq) (fun hHeld => ?_)
        clear hK K
        try simp only [Act.put, List.setIfInBounds_toArray, List.set_cons_zero, List.set_cons_succ]
        refine wpAnyH_ready (rs := [5]) (by kernel_rfl) (by simp) ?_
        refine (AllReadyH.cons (o := ?oor36_0) ?hor36_0 ?hsr36_0 AllReadyH.nil)
        case hor36_0 => (simp only [List.getElem?_toArray, List.getElem?_cons_succ, List.getElem?_cons_zero]; rfl)
        case hsr36_0 =>
          intro K hK
          go_simp
          (go_at_call 10; (refine (c2.out _ _ _ hRd).mono ?_); rintro en w28_ ⟨rfl, hR_, hu_⟩)
          replace gq := hu_.cell gq (by dsimp only; omega)
          replace gZ := hu_.heap gZ (by omega)
          replace gU := gU.trans hu_ fun j hj h => by omega
          replace hn := hu_.heap hn (by omega)
          replace hRd := hR_
          clear hR_ hu_
          try go_wp2_with fail
          refine hK.out _ _ (by exact gq) (fun hHeld => ?_)
          clear hK K
          try simp only [Act.put, List.setIfInBounds_toArray, List.set_cons_zero, List.set_cons_succ]
          refine wpAnyH_ready (rs := [8]) (by kernel_rfl) (by simp) ?_
          refine (AllReadyH.cons (o := ?oor37_0) ?hor37_0 ?hsr37_0 AllReadyH.nil)
          case hor37_0 => (simp only [List.getElem?_toArray, List.getElem?_cons_succ, List.getElem?_cons_zero]; rfl)
          case hsr37_0 =>
            intro K hK
            go_simp
            (go_at_call 10; (refine (c3.out _ _ _ hRd).mono ?_); rintro en w29_ ⟨rfl, hR_, hu_⟩)
            replace gq := hu_.cell gq (by dsimp only; omega)
            replace gZ := hu_.heap gZ (by omega)
            replace gU := gU.trans hu_ fun j hj h => by omega
            replace hn := hu_.heap hn (by omega)
            replace hRd := hR_
            clear hR_ hu_
            try go_wp2_with fail
            refine hK.out _ _ (by exact gq) (fun hHeld => ?_)
            clear hK K
            try simp only [Act.put, List.setIfInBounds_toArray, List.set_cons_zero, List.set_cons_succ]
            refine wpAnyH_ready (rs := [10]) (by kernel_rfl) (by simp) ?_
            refine (AllReadyH.cons (o := ?oor38_0) ?hor38_0 ?hsr38_0 AllReadyH.nil)
            case hor38_0 => (simp only [List.getElem?_toArray, List.getElem?_cons_succ, List.getElem?_cons_zero]; rfl)
            case hsr38_0 =>
              intro K hK
              go_simp
              (go_at_call 11; (refine (c4.out _ _ _ hRd).mono ?_); rintro en w30_ ⟨rfl, hR_, hu_⟩)
              replace gq := hu_.cell gq (by dsimp only; omega)
              replace gZ := hu_.heap gZ (by omega)
              replace gU := gU.trans hu_ fun j hj h => by omega
              replace hn := hu_.heap hn (by omega)
              replace hRd := hR_
              clear hR_ hu_
              try go_wp2_with fail
              refine hK.out _ _ (by exact gq) (fun hHeld => ?_)
              clear hK K
              try simp only [Act.put, List.setIfInBounds_toArray, List.set_cons_zero, List.set_cons_succ]
              refine wpAnyH_ready (rs := [12]) (by kernel_rfl) (by simp) ?_
              refine (AllReadyH.cons (o := ?oor39_0) ?hor39_0 ?hsr39_0 AllReadyH.nil)
              case hor39_0 => (simp only [List.getElem?_toArray, List.getElem?_cons_succ, List.getElem?_cons_zero]; rfl)
              case hsr39_0 =>
                intro K hK
                go_simp
                (go_at_call 12; (refine (c5.out _ _ _ hRd).mono ?_); rintro en w31_ ⟨rfl, hR_, hu_⟩)
                replace gq := hu_.cell gq (by dsimp only; omega)
                replace gZ := hu_.heap gZ (by omega)
                replace gU := gU.trans hu_ fun j hj h => by omega
                replace hn := hu_.heap hn (by omega)
                replace hRd := hR_
                clear hR_ hu_
                try go_wp2_with fail
                refine hK.out _ _ (by exact gq) (fun hHeld => ?_)
                clear hK K
                try simp only [Act.put, List.setIfInBounds_toArray, List.set_cons_zero, List.set_cons_succ]
                (refine wpAnyH_take (i := 13) (oi := ?oi_r40) (v := ?v_r40) ?ho_r40 ?hs_r40 ?hf_r40 ?hr_r40 ?hQ_r40 ?hy_r40 ?hS_r40 ?rest_r40; (case hr_r40 => kernel_rfl); (case hf_r40 => kernel_rfl); (case hs_r40 => kernel_rfl); (case ho_r40 => (simp only [List.getElem?_toArray, List.getElem?_cons_succ, List.getElem?_cons_zero]; rfl)); (case hS_r40 => assumption); (case hQ_r40 => exact fun _ _ _ h => h); (case hy_r40 => (refine Or.inl ⟨by rfl, ?_⟩; (intro w hSw; (try dsimp only at hSw); go_simp) <;> with_reducible rfl)); (try simp only [Act.put, List.setIfInBounds_toArray, List.set_cons_zero, List.set_cons_succ]))
                refine wpAnyH_ready (rs := [15]) (by kernel_rfl) (by simp) ?_
                refine (AllReadyH.cons (o := ?oor41_0) ?hor41_0 ?hsr41_0 AllReadyH.nil)
                case hor41_0 => (simp only [List.getElem?_toArray, List.getElem?_cons_succ, List.getElem?_cons_zero]; rfl)
                case hsr41_0 =>
                  intro K hK
                  refine storeB_step rfl 39 _ _ rfl N #[.int .i64 err, .int .i64 id, .int .i64 time, .string ⟨text.toArray⟩, .int .i64 re, .int .i64 im, .string ⟨#[]⟩, .int .i64 0, .int .i64 0, .int .i64 0, .bool false, .bool false, .string ⟨#[]⟩, .slice none 0 0, .slice none 0 0, .slice none 0 0, .string ⟨#[]⟩, .bool false, .slice none 0 0, .string ⟨#[]⟩, .int .i64 0, .bool false, .slice none 0 0, .slice none 0 0] _ _ rfl rfl hn rfl hsz6.out (by simp [Value.oneCell']) ?_
                  intro w32_ hb9 hu9
                  replace gq := hu9.cell gq (by dsimp only; omega)
                  refine hK.out _ _ (by exact gq) (fun hHeld => ?_)
                  clear hK K
                  try simp only [Act.put, List.setIfInBounds_toArray, List.set_cons_zero, List.set_cons_succ]
                  refine wpAnyH_done (by kernel_rfl) ?_ _
                  exact ⟨_, N, F87_of _ _ _ _ _ _ _ _ _ _ _ _ _ _ _ _ _ _ _ _ _ _ _ _ _ _ _ _ _ _ _ _ _ _ _ _ _ _ _ _ _ _ _ _ _ _ _ _ _ _ _ _ _ _ _ _ _ _ _ _ _ _ _ _ _ _ _ _ _ _ _ _ _ _ _ _ _ _ _ _ _ _ _ _ _ _ _, hb9, hqz_, hRd.upd hu9 (fun j _ hj => .inr (by omega)), gq, hu9.heap gZ (by omega), gU.trans hu9 fun j hj h => by have := gU.size; omega⟩
  case refine_1 =>
    intro ee f w3 hq_
    cases ee <;> first | exact hq_.elim | skip
    obtain ⟨u, N, rfl, gb, hqN2, hRd, gq, gZ, gU⟩ := hq_
    clear c1 c2 c3 c4 c5 hqN
    unfold F87
    replace gZ := Lib.hid gZ
    replace gb := Lib.hid gb
    have hD_ := Upd.drew Non w3
    replace gq := hD_.cell gq fun h => h
    replace gZ := Lib.hid (hD_.heap gZ.out fun h => h)
    replace gb := Lib.hid (hD_.heap gb.out fun h => h)
    replace gU := gU.then_drew
    replace hRd := hRd.non hD_
    clear hD_
    go_wp2_with fail
    refine wp_region_held_drew (S := (fun w' => w'.cell? ⟨q, 0, none⟩ = some (.pointer (some ⟨r, 0, none⟩)))) (by kernel_rfl) (by (try dsimp only); exact gq) (fun hHeld => ?_)
    (refine wpAnyH_take (i := 0) (oi := ?oi_1_0) (v := ?v_1_0) ?ho_1_0 ?hs_1_0 ?hf_1_0 ?hr_1_0 ?hQ_1_0 ?hy_1_0 ?hS_1_0 ?rest_1_0; (case hr_1_0 => kernel_rfl); (case hf_1_0 => kernel_rfl); (case hs_1_0 => kernel_rfl); (case ho_1_0 => (simp only [List.getElem?_toArray, List.getElem?_cons_succ, List.getElem?_cons_zero]; rfl)); (case hS_1_0 => assumption); (case hQ_1_0 => exact fun _ _ _ h => h); (case hy_1_0 => (refine Or.inl ⟨by rfl, ?_⟩; (intro w hSw; (try dsimp only at hSw); go_simp) <;> with_reducible rfl)); (try simp only [Act.put, List.setIfInBounds_toArray, List.set_cons_zero, List.set_cons_succ]))
    (refine wpAnyH_take (i := 2) (oi := ?oi_1_2) (v := ?v_1_2) ?ho_1_2 ?hs_1_2 ?hf_1_2 ?hr_1_2 ?hQ_1_2 ?hy_1_2 ?hS_1_2 ?rest_1_2; (case hr_1_2 => kernel_rfl); (case hf_1_2 => kernel_rfl); (case hs_1_2 => kernel_rfl); (case ho_1_2 => (simp only [List.getElem?_toArray, List.getElem?_cons_succ, List.getElem?_cons_zero]; rfl)); (case hS_1_2 => assumption); (case hQ_1_2 => exact fun _ _ _ h => h); (case hy_1_2 => (refine Or.inl ⟨by rfl, ?_⟩; (intro w hSw; (try dsimp only at hSw); go_simp) <;> with_reducible rfl)); (try simp only [Act.put, List.setIfInBounds_toArray, List.set_cons_zero, List.set_cons_succ]))
    (refine wpAnyH_take (i := 4) (oi := ?oi_1_4) (v := ?v_1_4) ?ho_1_4 ?hs_1_4 ?hf_1_4 ?hr_1_4 ?hQ_1_4 ?hy_1_4 ?hS_1_4 ?rest_1_4; (case hr_1_4 => kernel_rfl); (case hf_1_4 => kernel_rfl); (case hs_1_4 => kernel_rfl); (case ho_1_4 => (simp only [List.getElem?_toArray, List.getElem?_cons_succ, List.getElem?_cons_zero]; rfl)); (case hS_1_4 => assumption); (case hQ_1_4 => exact fun _ _ _ h => h); (case hy_1_4 => (refine Or.inl ⟨by rfl, ?_⟩; (intro w hSw; (try dsimp only at hSw); go_simp) <;> with_reducible rfl)); (try simp only [Act.put, List.setIfInBounds_toArray, List.set_cons_zero, List.set_cons_succ]))
    (refine wpAnyH_ready (rs := [1]) (by kernel_rfl) (by simp) ?_; refine AllReadyH.cons (o := ?oo_1_1) ?hoo_1_1 ?hst_1_1 AllReadyH.nil; (case hoo_1_1 => (simp only [List.getElem?_toArray, List.getElem?_cons_succ, List.getElem?_cons_zero]; rfl)); intro K hK; go_simp; ((go_at_call 11; (refine (c6.out _ _ _ hRd).mono ?_); rintro en x1 ⟨rfl, hR_, hu_⟩; have hlN_ := heap_lt gb.out; replace gq := hu_.cell gq (by dsimp only; omega); replace gZ := Lib.hid (hu_.heap gZ.out (by omega)); replace gU := gU.trans hu_ (fun j hj h => by omega); replace gb := Lib.hid (hu_.heap gb.out (by omega)); replace hRd := hR_; clear hR_ hu_ hlN_)); (try go_wp2_with fail); refine hK.out _ _ (by (try dsimp only); exact gq) (fun hHeld => ?_); clear hK K; (try simp only [Act.put, List.setIfInBounds_toArray, List.set_cons_zero, List.set_cons_succ]))
    (refine wpAnyH_take (i := 6) (oi := ?oi_1_6) (v := ?v_1_6) ?ho_1_6 ?hs_1_6 ?hf_1_6 ?hr_1_6 ?hQ_1_6 ?hy_1_6 ?hS_1_6 ?rest_1_6; (case hr_1_6 => kernel_rfl); (case hf_1_6 => kernel_rfl); (case hs_1_6 => kernel_rfl); (case ho_1_6 => (simp only [List.getElem?_toArray, List.getElem?_cons_succ, List.getElem?_cons_zero]; rfl)); (case hS_1_6 => assumption); (case hQ_1_6 => exact fun _ _ _ h => h); (case hy_1_6 => (refine Or.inl ⟨by rfl, ?_⟩; (intro w hSw; (try dsimp only at hSw); go_simp) <;> with_reducible rfl)); (try simp only [Act.put, List.setIfInBounds_toArray, List.set_cons_zero, List.set_cons_succ]))
    (refine wpAnyH_take (i := 7) (oi := ?oi_1_7) (v := ?v_1_7) ?ho_1_7 ?hs_1_7 ?hf_1_7 ?hr_1_7 ?hQ_1_7 ?hy_1_7 ?hS_1_7 ?rest_1_7; (case hr_1_7 => kernel_rfl); (case hf_1_7 => kernel_rfl); (case hs_1_7 => kernel_rfl); (case ho_1_7 => (simp only [List.getElem?_toArray, List.getElem?_cons_succ, List.getElem?_cons_zero]; rfl)); (case hS_1_7 => assumption); (case hQ_1_7 => exact fun _ _ _ h => h); (case hy_1_7 => (refine Or.inl ⟨by rfl, ?_⟩; (intro w hSw; (try dsimp only at hSw); go_simp) <;> with_reducible rfl)); (try simp only [Act.put, List.setIfInBounds_toArray, List.set_cons_zero, List.set_cons_succ]))
    (refine wpAnyH_ready (rs := [3]) (by kernel_rfl) (by simp) ?_; refine AllReadyH.cons (o := ?oo_1_3) ?hoo_1_3 ?hst_1_3 AllReadyH.nil; (case hoo_1_3 => (simp only [List.getElem?_toArray, List.getElem?_cons_succ, List.getElem?_cons_zero]; rfl)); intro K hK; go_simp; ((go_at_call 13; (refine (c7.out _ _ _ hRd).mono ?_); rintro en x2 ⟨rfl, hR_, hu_⟩; have hlN_ := heap_lt gb.out; replace gq := hu_.cell gq (by dsimp only; omega); replace gZ := Lib.hid (hu_.heap gZ.out (by omega)); replace gU := gU.trans hu_ (fun j hj h => by omega); replace gb := Lib.hid (hu_.heap gb.out (by omega)); replace hRd := hR_; clear hR_ hu_ hlN_)); (try go_wp2_with fail); refine hK.out _ _ (by (try dsimp only); exact gq) (fun hHeld => ?_); clear hK K; (try simp only [Act.put, List.setIfInBounds_toArray, List.set_cons_zero, List.set_cons_succ]))
    (refine wpAnyH_ready (rs := [5]) (by kernel_rfl) (by simp) ?_; refine AllReadyH.cons (o := ?oo_1_5) ?hoo_1_5 ?hst_1_5 AllReadyH.nil; (case hoo_1_5 => (simp only [List.getElem?_toArray, List.getElem?_cons_succ, List.getElem?_cons_zero]; rfl)); intro K hK; go_simp; ((go_at_call 11; (refine (c8.out _ _ _ hRd).mono ?_); rintro en x3 ⟨rfl, hR_, hu_⟩; have hlN_ := heap_lt gb.out; replace gq := hu_.cell gq (by dsimp only; omega); replace gZ := Lib.hid (hu_.heap gZ.out (by omega)); replace gU := gU.trans hu_ (fun j hj h => by omega); replace gb := Lib.hid (hu_.heap gb.out (by omega)); replace hRd := hR_; clear hR_ hu_ hlN_)); (try go_wp2_with fail); refine hK.out _ _ (by (try dsimp only); exact gq) (fun hHeld => ?_); clear hK K; (try simp only [Act.put, List.setIfInBounds_toArray, List.set_cons_zero, List.set_cons_succ]))
    (refine wpAnyH_ready (rs := [8]) (by kernel_rfl) (by simp) ?_; refine AllReadyH.cons (o := ?oo_1_8) ?hoo_1_8 ?hst_1_8 AllReadyH.nil; (case hoo_1_8 => (simp only [List.getElem?_toArray, List.getElem?_cons_succ, List.getElem?_cons_zero]; rfl)); intro K hK; ((refine step_store_cell rfl 9 _ _ rfl N 6 (.string ⟨version.toArray⟩) _ _ rfl rfl gb.out (show 6 < 24 by omega) rfl rfl rfl ?_; intro x4 hb_ hu_; replace gq := hu_.cell gq (by dsimp only; omega); replace gZ := Lib.hid (hu_.heap gZ.out (by omega)); replace gU := gU.trans hu_ (fun j hj h => by have := gU.size; omega); replace gb := Lib.hid hb_; replace hRd := hRd.upd hu_ (fun j _ hj => .inr (by omega)); clear hb_ hu_)); (try go_wp2_with fail); refine hK.out _ _ (by (try dsimp only); exact gq) (fun hHeld => ?_); clear hK K; (try simp only [Act.put, List.setIfInBounds_toArray, List.set_cons_zero, List.set_cons_succ]))
    (refine wpAnyH_take (i := 9) (oi := ?oi_1_9) (v := ?v_1_9) ?ho_1_9 ?hs_1_9 ?hf_1_9 ?hr_1_9 ?hQ_1_9 ?hy_1_9 ?hS_1_9 ?rest_1_9; (case hr_1_9 => kernel_rfl); (case hf_1_9 => kernel_rfl); (case hs_1_9 => kernel_rfl); (case ho_1_9 => (simp only [List.getElem?_toArray, List.getElem?_cons_succ, List.getElem?_cons_zero]; rfl)); (case hS_1_9 => assumption); (case hQ_1_9 => exact fun _ _ _ h => h); (case hy_1_9 => (refine Or.inl ⟨by rfl, ?_⟩; (intro w hSw; (try dsimp only at hSw); go_simp) <;> with_reducible rfl)); (try simp only [Act.put, List.setIfInBounds_toArray, List.set_cons_zero, List.set_cons_succ]))
    (refine wpAnyH_take (i := 10) (oi := ?oi_1_10) (v := ?v_1_10) ?ho_1_10 ?hs_1_10 ?hf_1_10 ?hr_1_10 ?hQ_1_10 ?hy_1_10 ?hS_1_10 ?rest_1_10; (case hr_1_10 => kernel_rfl); (case hf_1_10 => kernel_rfl); (case hs_1_10 => kernel_rfl); (case ho_1_10 => (simp only [List.getElem?_toArray, List.getElem?_cons_succ, List.getElem?_cons_zero]; rfl)); (case hS_1_10 => assumption); (case hQ_1_10 => exact fun _ _ _ h => h); (case hy_1_10 => (refine Or.inl ⟨by rfl, ?_⟩; (intro w hSw; (try dsimp only at hSw); go_simp) <;> with_reducible rfl)); (try simp only [Act.put, List.setIfInBounds_toArray, List.set_cons_zero, List.set_cons_succ]))
    (refine wpAnyH_ready (rs := [11]) (by kernel_rfl) (by simp) ?_; refine AllReadyH.cons (o := ?oo_1_11) ?hoo_1_11 ?hst_1_11 AllReadyH.nil; (case hoo_1_11 => (simp only [List.getElem?_toArray, List.getElem?_cons_succ, List.getElem?_cons_zero]; rfl)); intro K hK; ((refine step_store_row rfl 27 _ _ rfl N 7 #[.int .i64 hs_, .int .i64 hr, .int .i64 hi, .bool hg, .bool hn_] _ _ rfl rfl gb.out (show 7 + 5 ≤ 24 by omega) hszh.out (by simp [Value.oneCell']) ?_; intro x5 hb_ hu_; replace gq := hu_.cell gq (by dsimp only; omega); replace gZ := Lib.hid (hu_.heap gZ.out (by omega)); replace gU := gU.trans hu_ (fun j hj h => by have := gU.size; omega); replace gb := Lib.hid hb_; replace hRd := hRd.upd hu_ (fun j _ hj => .inr (by omega)); clear hb_ hu_)); (try go_wp2_with fail); refine hK.out _ _ (by (try dsimp only); exact gq) (fun hHeld => ?_); clear hK K; (try simp only [Act.put, List.setIfInBounds_toArray, List.set_cons_zero, List.set_cons_succ]))
    (refine wpAnyH_take (i := 12) (oi := ?oi_1_12) (v := ?v_1_12) ?ho_1_12 ?hs_1_12 ?hf_1_12 ?hr_1_12 ?hQ_1_12 ?hy_1_12 ?hS_1_12 ?rest_1_12; (case hr_1_12 => kernel_rfl); (case hf_1_12 => kernel_rfl); (case hs_1_12 => kernel_rfl); (case ho_1_12 => (simp only [List.getElem?_toArray, List.getElem?_cons_succ, List.getElem?_cons_zero]; rfl)); (case hS_1_12 => assumption); (case hQ_1_12 => exact fun _ _ _ h => h); (case hy_1_12 => (refine Or.inl ⟨by rfl, ?_⟩; (intro w hSw; (try dsimp only at hSw); go_simp) <;> with_reducible rfl)); (try simp only [Act.put, List.setIfInBounds_toArray, List.set_cons_zero, List.set_cons_succ]))
    (refine wpAnyH_take (i := 13) (oi := ?oi_1_13) (v := ?v_1_13) ?ho_1_13 ?hs_1_13 ?hf_1_13 ?hr_1_13 ?hQ_1_13 ?hy_1_13 ?hS_1_13 ?rest_1_13; (case hr_1_13 => kernel_rfl); (case hf_1_13 => kernel_rfl); (case hs_1_13 => kernel_rfl); (case ho_1_13 => (simp only [List.getElem?_toArray, List.getElem?_cons_succ, List.getElem?_cons_zero]; rfl)); (case hS_1_13 => assumption); (case hQ_1_13 => exact fun _ _ _ h => h); (case hy_1_13 => (refine Or.inl ⟨by rfl, ?_⟩; (intro w hSw; (try dsimp only at hSw); go_simp) <;> with_reducible rfl)); (try simp only [Act.put, List.setIfInBounds_toArray, List.set_cons_zero, List.set_cons_succ]))
    (refine wpAnyH_ready (rs := [14]) (by kernel_rfl) (by simp) ?_; refine AllReadyH.cons (o := ?oo_1_14) ?hoo_1_14 ?hst_1_14 AllReadyH.nil; (case hoo_1_14 => (simp only [List.getElem?_toArray, List.getElem?_cons_succ, List.getElem?_cons_zero]; rfl)); intro K hK; ((refine step_store_cell rfl 9 _ _ rfl N 12 (.string ⟨body.toArray⟩) _ _ rfl rfl gb.out (show 12 < 24 by omega) rfl rfl rfl ?_; intro x6 hb_ hu_; replace gq := hu_.cell gq (by dsimp only; omega); replace gZ := Lib.hid (hu_.heap gZ.out (by omega)); replace gU := gU.trans hu_ (fun j hj h => by have := gU.size; omega); replace gb := Lib.hid hb_; replace hRd := hRd.upd hu_ (fun j _ hj => .inr (by omega)); clear hb_ hu_)); (try go_wp2_with fail); refine hK.out _ _ (by (try dsimp only); exact gq) (fun hHeld => ?_); clear hK K; (try simp only [Act.put, List.setIfInBounds_toArray, List.set_cons_zero, List.set_cons_succ]))
    refine wpAnyH_done (by kernel_rfl) ?_ _
    replace gb : Hid (x6.heap[N]? = some (.cells #[.int .i64 err, .int .i64 id, .int .i64 time, .string ⟨text.toArray⟩, .int .i64 re, .int .i64 im, .string ⟨version.toArray⟩, .int .i64 hs_, .int .i64 hr, .int .i64 hi, .bool hg, .bool hn_, .string ⟨body.toArray⟩, .slice none 0 0, .slice none 0 0, .slice none 0 0, .string ⟨#[]⟩, .bool false, .slice none 0 0, .string ⟨#[]⟩, .int .i64 0, .bool false, .slice none 0 0, .slice none 0 0] 39 (0, 0))) := Lib.hid gb.out
    have hD_ := Upd.drew Non x6
    replace gq := hD_.cell gq fun h => h
    replace gZ := Lib.hid (hD_.heap gZ.out fun h => h)
    replace gb := Lib.hid (hD_.heap gb.out fun h => h)
    replace gU := gU.then_drew
    replace hRd := hRd.non hD_
    clear hD_
    go_wp2_with fail
    refine wp_region_held_drew (S := (fun w' => w'.cell? ⟨q, 0, none⟩ = some (.pointer (some ⟨r, 0, none⟩)))) (by kernel_rfl) (by (try dsimp only); exact gq) (fun hHeld => ?_)
    (refine wpAnyH_take (i := 0) (oi := ?oi_2_0) (v := ?v_2_0) ?ho_2_0 ?hs_2_0 ?hf_2_0 ?hr_2_0 ?hQ_2_0 ?hy_2_0 ?hS_2_0 ?rest_2_0; (case hr_2_0 => kernel_rfl); (case hf_2_0 => kernel_rfl); (case hs_2_0 => kernel_rfl); (case ho_2_0 => (simp only [List.getElem?_toArray, List.getElem?_cons_succ, List.getElem?_cons_zero]; rfl)); (case hS_2_0 => assumption); (case hQ_2_0 => exact fun _ _ _ h => h); (case hy_2_0 => (refine Or.inl ⟨by rfl, ?_⟩; (intro w hSw; (try dsimp only at hSw); go_simp) <;> with_reducible rfl)); (try simp only [Act.put, List.setIfInBounds_toArray, List.set_cons_zero, List.set_cons_succ]))
    (refine wpAnyH_take (i := 2) (oi := ?oi_2_2) (v := ?v_2_2) ?ho_2_2 ?hs_2_2 ?hf_2_2 ?hr_2_2 ?hQ_2_2 ?hy_2_2 ?hS_2_2 ?rest_2_2; (case hr_2_2 => kernel_rfl); (case hf_2_2 => kernel_rfl); (case hs_2_2 => kernel_rfl); (case ho_2_2 => (simp only [List.getElem?_toArray, List.getElem?_cons_succ, List.getElem?_cons_zero]; rfl)); (case hS_2_2 => assumption); (case hQ_2_2 => exact fun _ _ _ h => h); (case hy_2_2 => (refine Or.inl ⟨by rfl, ?_⟩; (intro w hSw; (try dsimp only at hSw); go_simp) <;> with_reducible rfl)); (try simp only [Act.put, List.setIfInBounds_toArray, List.set_cons_zero, List.set_cons_succ]))
    (refine wpAnyH_take (i := 4) (oi := ?oi_2_4) (v := ?v_2_4) ?ho_2_4 ?hs_2_4 ?hf_2_4 ?hr_2_4 ?hQ_2_4 ?hy_2_4 ?hS_2_4 ?rest_2_4; (case hr_2_4 => kernel_rfl); (case hf_2_4 => kernel_rfl); (case hs_2_4 => kernel_rfl); (case ho_2_4 => (simp only [List.getElem?_toArray, List.getElem?_cons_succ, List.getElem?_cons_zero]; rfl)); (case hS_2_4 => assumption); (case hQ_2_4 => exact fun _ _ _ h => h); (case hy_2_4 => (refine Or.inl ⟨by rfl, ?_⟩; (intro w hSw; (try dsimp only at hSw); go_simp) <;> with_reducible rfl)); (try simp only [Act.put, List.setIfInBounds_toArray, List.set_cons_zero, List.set_cons_succ]))
    (refine wpAnyH_ready (rs := [1]) (by kernel_rfl) (by simp) ?_; refine AllReadyH.cons (o := ?oo_2_1) ?hoo_2_1 ?hst_2_1 AllReadyH.nil; (case hoo_2_1 => (simp only [List.getElem?_toArray, List.getElem?_cons_succ, List.getElem?_cons_zero]; rfl)); intro K hK; go_simp; ((go_at_call 14; (refine (c9.out _ _ _ hRd).mono ?_); rintro en y1 ⟨nv, rfl, hR_, ⟨T_, hT_⟩, hu_⟩; have hlN_ := heap_lt gb.out; have T1 := T_; have uT1 : ∀ k, At nv k → k < _ := (fun k hk => (hT_ k hk).2); have hT1_ : ∀ k, At nv k → N < k := (fun k hk => by have := (hT_ k hk).1; omega); clear T_ hT_; replace gq := hu_.cell gq (by dsimp only; omega); replace gZ := Lib.hid (hu_.heap gZ.out (by omega)); replace gU := gU.trans hu_ (fun j hj h => by omega); replace gb := Lib.hid (hu_.heap gb.out (by omega)); replace hRd := hR_; clear hR_ hu_ hlN_)); (try go_wp2_with fail); refine hK.out _ _ (by (try dsimp only); exact gq) (fun hHeld => ?_); clear hK K; (try simp only [Act.put, List.setIfInBounds_toArray, List.set_cons_zero, List.set_cons_succ]))
    (refine wpAnyH_take (i := 6) (oi := ?oi_2_6) (v := ?v_2_6) ?ho_2_6 ?hs_2_6 ?hf_2_6 ?hr_2_6 ?hQ_2_6 ?hy_2_6 ?hS_2_6 ?rest_2_6; (case hr_2_6 => kernel_rfl); (case hf_2_6 => kernel_rfl); (case hs_2_6 => kernel_rfl); (case ho_2_6 => (simp only [List.getElem?_toArray, List.getElem?_cons_succ, List.getElem?_cons_zero]; rfl)); (case hS_2_6 => assumption); (case hQ_2_6 => exact fun _ _ _ h => h); (case hy_2_6 => (refine Or.inl ⟨by rfl, ?_⟩; (intro w hSw; (try dsimp only at hSw); go_simp) <;> with_reducible rfl)); (try simp only [Act.put, List.setIfInBounds_toArray, List.set_cons_zero, List.set_cons_succ]))
    (refine wpAnyH_ready (rs := [3]) (by kernel_rfl) (by simp) ?_; refine AllReadyH.cons (o := ?oo_2_3) ?hoo_2_3 ?hst_2_3 AllReadyH.nil; (case hoo_2_3 => (simp only [List.getElem?_toArray, List.getElem?_cons_succ, List.getElem?_cons_zero]; rfl)); intro K hK; go_simp; ((go_at_call 14; (refine (c10.out _ _ _ hRd).mono ?_); rintro en y2 ⟨lnv, rfl, hR_, ⟨T_, hT_⟩, hu_⟩; have hlN_ := heap_lt gb.out; have T2 := T_; have uT2 : ∀ k, At lnv k → k < _ := (fun k hk => (hT_ k hk).2); have hT2_ : ∀ k, At lnv k → N < k := (fun k hk => by have := (hT_ k hk).1; omega); clear T_ hT_; replace gq := hu_.cell gq (by dsimp only; omega); replace gZ := Lib.hid (hu_.heap gZ.out (by omega)); replace gU := gU.trans hu_ (fun j hj h => by omega); replace gb := Lib.hid (hu_.heap gb.out (by omega)); replace T1 := T1.upd hu_ (fun k hk => by have := hT1_ k hk; omega); replace uT1 := (fun k (hk : At nv k) => Nat.lt_of_lt_of_le (uT1 k hk) hu_.size); replace hRd := hR_; clear hR_ hu_ hlN_)); (try go_wp2_with fail); refine hK.out _ _ (by (try dsimp only); exact gq) (fun hHeld => ?_); clear hK K; (try simp only [Act.put, List.setIfInBounds_toArray, List.set_cons_zero, List.set_cons_succ]))
    (refine wpAnyH_ready (rs := [5]) (by kernel_rfl) (by simp) ?_; refine AllReadyH.cons (o := ?oo_2_5) ?hoo_2_5 ?hst_2_5 AllReadyH.nil; (case hoo_2_5 => (simp only [List.getElem?_toArray, List.getElem?_cons_succ, List.getElem?_cons_zero]; rfl)); intro K hK; go_simp; ((go_at_call 14; (refine (c11.out _ _ _ hRd).mono ?_); rintro en y3 ⟨lpv, rfl, hR_, ⟨T_, hT_⟩, hu_⟩; have hlN_ := heap_lt gb.out; have T3 := T_; have uT3 : ∀ k, At lpv k → k < _ := (fun k hk => (hT_ k hk).2); have hT3_ : ∀ k, At lpv k → N < k := (fun k hk => by have := (hT_ k hk).1; omega); clear T_ hT_; replace gq := hu_.cell gq (by dsimp only; omega); replace gZ := Lib.hid (hu_.heap gZ.out (by omega)); replace gU := gU.trans hu_ (fun j hj h => by omega); replace gb := Lib.hid (hu_.heap gb.out (by omega)); replace T1 := T1.upd hu_ (fun k hk => by have := hT1_ k hk; omega); replace uT1 := (fun k (hk : At nv k) => Nat.lt_of_lt_of_le (uT1 k hk) hu_.size); replace T2 := T2.upd hu_ (fun k hk => by have := hT2_ k hk; omega); replace uT2 := (fun k (hk : At lnv k) => Nat.lt_of_lt_of_le (uT2 k hk) hu_.size); replace hRd := hR_; clear hR_ hu_ hlN_)); (try go_wp2_with fail); refine hK.out _ _ (by (try dsimp only); exact gq) (fun hHeld => ?_); clear hK K; (try simp only [Act.put, List.setIfInBounds_toArray, List.set_cons_zero, List.set_cons_succ]))
    (refine wpAnyH_ready (rs := [7]) (by kernel_rfl) (by simp) ?_; refine AllReadyH.cons (o := ?oo_2_7) ?hoo_2_7 ?hst_2_7 AllReadyH.nil; (case hoo_2_7 => (simp only [List.getElem?_toArray, List.getElem?_cons_succ, List.getElem?_cons_zero]; rfl)); intro K hK; ((refine step_store_cell rfl 30 _ _ rfl N 13 (nv) _ _ rfl rfl gb.out (show 13 < 24 by omega) rfl (by obtain ⟨_, aa, cc, rfl, -⟩ := T1; rfl) (by obtain ⟨_, aa, cc, rfl, -⟩ := T1; rfl) ?_; intro y4 hb_ hu_; replace gq := hu_.cell gq (by dsimp only; omega); replace gZ := Lib.hid (hu_.heap gZ.out (by omega)); replace gU := gU.trans hu_ (fun j hj h => by have := gU.size; omega); replace gb := Lib.hid hb_; replace T1 := T1.upd hu_ (fun k hk => by have := hT1_ k hk; omega); replace uT1 := (fun k (hk : At nv k) => Nat.lt_of_lt_of_le (uT1 k hk) hu_.size); replace T2 := T2.upd hu_ (fun k hk => by have := hT2_ k hk; omega); replace uT2 := (fun k (hk : At lnv k) => Nat.lt_of_lt_of_le (uT2 k hk) hu_.size); replace T3 := T3.upd hu_ (fun k hk => by have := hT3_ k hk; omega); replace uT3 := (fun k (hk : At lpv k) => Nat.lt_of_lt_of_le (uT3 k hk) hu_.size); replace hRd := hRd.upd hu_ (fun j _ hj => .inr (by omega)); clear hb_ hu_)); (try go_wp2_with fail); refine hK.out _ _ (by (try dsimp only); exact gq) (fun hHeld => ?_); clear hK K; (try simp only [Act.put, List.setIfInBounds_toArray, List.set_cons_zero, List.set_cons_succ]))
    (refine wpAnyH_take (i := 8) (oi := ?oi_2_8) (v := ?v_2_8) ?ho_2_8 ?hs_2_8 ?hf_2_8 ?hr_2_8 ?hQ_2_8 ?hy_2_8 ?hS_2_8 ?rest_2_8; (case hr_2_8 => kernel_rfl); (case hf_2_8 => kernel_rfl); (case hs_2_8 => kernel_rfl); (case ho_2_8 => (simp only [List.getElem?_toArray, List.getElem?_cons_succ, List.getElem?_cons_zero]; rfl)); (case hS_2_8 => assumption); (case hQ_2_8 => exact fun _ _ _ h => h); (case hy_2_8 => (refine Or.inl ⟨by rfl, ?_⟩; (intro w hSw; (try dsimp only at hSw); go_simp) <;> with_reducible rfl)); (try simp only [Act.put, List.setIfInBounds_toArray, List.set_cons_zero, List.set_cons_succ]))
    (refine wpAnyH_take (i := 9) (oi := ?oi_2_9) (v := ?v_2_9) ?ho_2_9 ?hs_2_9 ?hf_2_9 ?hr_2_9 ?hQ_2_9 ?hy_2_9 ?hS_2_9 ?rest_2_9; (case hr_2_9 => kernel_rfl); (case hf_2_9 => kernel_rfl); (case hs_2_9 => kernel_rfl); (case ho_2_9 => (simp only [List.getElem?_toArray, List.getElem?_cons_succ, List.getElem?_cons_zero]; rfl)); (case hS_2_9 => assumption); (case hQ_2_9 => exact fun _ _ _ h => h); (case hy_2_9 => (refine Or.inl ⟨by rfl, ?_⟩; (intro w hSw; (try dsimp only at hSw); go_simp) <;> with_reducible rfl)); (try simp only [Act.put, List.setIfInBounds_toArray, List.set_cons_zero, List.set_cons_succ]))
    (refine wpAnyH_ready (rs := [10]) (by kernel_rfl) (by simp) ?_; refine AllReadyH.cons (o := ?oo_2_10) ?hoo_2_10 ?hst_2_10 AllReadyH.nil; (case hoo_2_10 => (simp only [List.getElem?_toArray, List.getElem?_cons_succ, List.getElem?_cons_zero]; rfl)); intro K hK; ((refine step_store_cell rfl 30 _ _ rfl N 14 (lnv) _ _ rfl rfl gb.out (show 14 < 24 by omega) rfl (by obtain ⟨_, aa, cc, rfl, -⟩ := T2; rfl) (by obtain ⟨_, aa, cc, rfl, -⟩ := T2; rfl) ?_; intro y5 hb_ hu_; replace gq := hu_.cell gq (by dsimp only; omega); replace gZ := Lib.hid (hu_.heap gZ.out (by omega)); replace gU := gU.trans hu_ (fun j hj h => by have := gU.size; omega); replace gb := Lib.hid hb_; replace T1 := T1.upd hu_ (fun k hk => by have := hT1_ k hk; omega); replace uT1 := (fun k (hk : At nv k) => Nat.lt_of_lt_of_le (uT1 k hk) hu_.size); replace T2 := T2.upd hu_ (fun k hk => by have := hT2_ k hk; omega); replace uT2 := (fun k (hk : At lnv k) => Nat.lt_of_lt_of_le (uT2 k hk) hu_.size); replace T3 := T3.upd hu_ (fun k hk => by have := hT3_ k hk; omega); replace uT3 := (fun k (hk : At lpv k) => Nat.lt_of_lt_of_le (uT3 k hk) hu_.size); replace hRd := hRd.upd hu_ (fun j _ hj => .inr (by omega)); clear hb_ hu_)); (try go_wp2_with fail); refine hK.out _ _ (by (try dsimp only); exact gq) (fun hHeld => ?_); clear hK K; (try simp only [Act.put, List.setIfInBounds_toArray, List.set_cons_zero, List.set_cons_succ]))
    (refine wpAnyH_take (i := 11) (oi := ?oi_2_11) (v := ?v_2_11) ?ho_2_11 ?hs_2_11 ?hf_2_11 ?hr_2_11 ?hQ_2_11 ?hy_2_11 ?hS_2_11 ?rest_2_11; (case hr_2_11 => kernel_rfl); (case hf_2_11 => kernel_rfl); (case hs_2_11 => kernel_rfl); (case ho_2_11 => (simp only [List.getElem?_toArray, List.getElem?_cons_succ, List.getElem?_cons_zero]; rfl)); (case hS_2_11 => assumption); (case hQ_2_11 => exact fun _ _ _ h => h); (case hy_2_11 => (refine Or.inl ⟨by rfl, ?_⟩; (intro w hSw; (try dsimp only at hSw); go_simp) <;> with_reducible rfl)); (try simp only [Act.put, List.setIfInBounds_toArray, List.set_cons_zero, List.set_cons_succ]))
    (refine wpAnyH_take (i := 12) (oi := ?oi_2_12) (v := ?v_2_12) ?ho_2_12 ?hs_2_12 ?hf_2_12 ?hr_2_12 ?hQ_2_12 ?hy_2_12 ?hS_2_12 ?rest_2_12; (case hr_2_12 => kernel_rfl); (case hf_2_12 => kernel_rfl); (case hs_2_12 => kernel_rfl); (case ho_2_12 => (simp only [List.getElem?_toArray, List.getElem?_cons_succ, List.getElem?_cons_zero]; rfl)); (case hS_2_12 => assumption); (case hQ_2_12 => exact fun _ _ _ h => h); (case hy_2_12 => (refine Or.inl ⟨by rfl, ?_⟩; (intro w hSw; (try dsimp only at hSw); go_simp) <;> with_reducible rfl)); (try simp only [Act.put, List.setIfInBounds_toArray, List.set_cons_zero, List.set_cons_succ]))
    (refine wpAnyH_ready (rs := [13]) (by kernel_rfl) (by simp) ?_; refine AllReadyH.cons (o := ?oo_2_13) ?hoo_2_13 ?hst_2_13 AllReadyH.nil; (case hoo_2_13 => (simp only [List.getElem?_toArray, List.getElem?_cons_succ, List.getElem?_cons_zero]; rfl)); intro K hK; ((refine step_store_cell rfl 30 _ _ rfl N 15 (lpv) _ _ rfl rfl gb.out (show 15 < 24 by omega) rfl (by obtain ⟨_, aa, cc, rfl, -⟩ := T3; rfl) (by obtain ⟨_, aa, cc, rfl, -⟩ := T3; rfl) ?_; intro y6 hb_ hu_; replace gq := hu_.cell gq (by dsimp only; omega); replace gZ := Lib.hid (hu_.heap gZ.out (by omega)); replace gU := gU.trans hu_ (fun j hj h => by have := gU.size; omega); replace gb := Lib.hid hb_; replace T1 := T1.upd hu_ (fun k hk => by have := hT1_ k hk; omega); replace uT1 := (fun k (hk : At nv k) => Nat.lt_of_lt_of_le (uT1 k hk) hu_.size); replace T2 := T2.upd hu_ (fun k hk => by have := hT2_ k hk; omega); replace uT2 := (fun k (hk : At lnv k) => Nat.lt_of_lt_of_le (uT2 k hk) hu_.size); replace T3 := T3.upd hu_ (fun k hk => by have := hT3_ k hk; omega); replace uT3 := (fun k (hk : At lpv k) => Nat.lt_of_lt_of_le (uT3 k hk) hu_.size); replace hRd := hRd.upd hu_ (fun j _ hj => .inr (by omega)); clear hb_ hu_)); (try go_wp2_with fail); refine hK.out _ _ (by (try dsimp only); exact gq) (fun hHeld => ?_); clear hK K; (try simp only [Act.put, List.setIfInBounds_toArray, List.set_cons_zero, List.set_cons_succ]))
    refine wpAnyH_done (by kernel_rfl) ?_ _
    replace gb : Hid (y6.heap[N]? = some (.cells #[.int .i64 err, .int .i64 id, .int .i64 time, .string ⟨text.toArray⟩, .int .i64 re, .int .i64 im, .string ⟨version.toArray⟩, .int .i64 hs_, .int .i64 hr, .int .i64 hi, .bool hg, .bool hn_, .string ⟨body.toArray⟩, nv, lnv, lpv, .string ⟨#[]⟩, .bool false, .slice none 0 0, .string ⟨#[]⟩, .int .i64 0, .bool false, .slice none 0 0, .slice none 0 0] 39 (0, 0))) := Lib.hid gb.out
    have hD_ := Upd.drew Non y6
    replace gq := hD_.cell gq fun h => h
    replace gZ := Lib.hid (hD_.heap gZ.out fun h => h)
    replace gb := Lib.hid (hD_.heap gb.out fun h => h)
    replace gU := gU.then_drew
    replace hRd := hRd.non hD_
    replace T1 := T1.non hD_
    replace uT1 := (fun k (hk : At nv k) => Nat.lt_of_lt_of_le (uT1 k hk) hD_.size)
    replace T2 := T2.non hD_
    replace uT2 := (fun k (hk : At lnv k) => Nat.lt_of_lt_of_le (uT2 k hk) hD_.size)
    replace T3 := T3.non hD_
    replace uT3 := (fun k (hk : At lpv k) => Nat.lt_of_lt_of_le (uT3 k hk) hD_.size)
    clear hD_
    go_wp2_with fail
    refine wp_region_held_drew (S := (fun w' => w'.cell? ⟨q, 0, none⟩ = some (.pointer (some ⟨r, 0, none⟩)))) (by kernel_rfl) (by (try dsimp only); exact gq) (fun hHeld => ?_)
    (refine wpAnyH_take (i := 0) (oi := ?oi_3_0) (v := ?v_3_0) ?ho_3_0 ?hs_3_0 ?hf_3_0 ?hr_3_0 ?hQ_3_0 ?hy_3_0 ?hS_3_0 ?rest_3_0; (case hr_3_0 => kernel_rfl); (case hf_3_0 => kernel_rfl); (case hs_3_0 => kernel_rfl); (case ho_3_0 => (simp only [List.getElem?_toArray, List.getElem?_cons_succ, List.getElem?_cons_zero]; rfl)); (case hS_3_0 => assumption); (case hQ_3_0 => exact fun _ _ _ h => h); (case hy_3_0 => (refine Or.inl ⟨by rfl, ?_⟩; (intro w hSw; (try dsimp only at hSw); go_simp) <;> with_reducible rfl)); (try simp only [Act.put, List.setIfInBounds_toArray, List.set_cons_zero, List.set_cons_succ]))
    (refine wpAnyH_take (i := 2) (oi := ?oi_3_2) (v := ?v_3_2) ?ho_3_2 ?hs_3_2 ?hf_3_2 ?hr_3_2 ?hQ_3_2 ?hy_3_2 ?hS_3_2 ?rest_3_2; (case hr_3_2 => kernel_rfl); (case hf_3_2 => kernel_rfl); (case hs_3_2 => kernel_rfl); (case ho_3_2 => (simp only [List.getElem?_toArray, List.getElem?_cons_succ, List.getElem?_cons_zero]; rfl)); (case hS_3_2 => assumption); (case hQ_3_2 => exact fun _ _ _ h => h); (case hy_3_2 => (refine Or.inl ⟨by rfl, ?_⟩; (intro w hSw; (try dsimp only at hSw); go_simp) <;> with_reducible rfl)); (try simp only [Act.put, List.setIfInBounds_toArray, List.set_cons_zero, List.set_cons_succ]))
    (refine wpAnyH_ready (rs := [1]) (by kernel_rfl) (by simp) ?_; refine AllReadyH.cons (o := ?oo_3_1) ?hoo_3_1 ?hst_3_1 AllReadyH.nil; (case hoo_3_1 => (simp only [List.getElem?_toArray, List.getElem?_cons_succ, List.getElem?_cons_zero]; rfl)); intro K hK; go_simp; ((go_at_call 11; (refine (c12.out _ _ _ hRd).mono ?_); rintro en z1 ⟨rfl, hR_, hu_⟩; have hlN_ := heap_lt gb.out; replace gq := hu_.cell gq (by dsimp only; omega); replace gZ := Lib.hid (hu_.heap gZ.out (by omega)); replace gU := gU.trans hu_ (fun j hj h => by omega); replace gb := Lib.hid (hu_.heap gb.out (by omega)); replace T1 := T1.upd hu_ (fun k hk => by have := hT1_ k hk; omega); replace uT1 := (fun k (hk : At nv k) => Nat.lt_of_lt_of_le (uT1 k hk) hu_.size); replace T2 := T2.upd hu_ (fun k hk => by have := hT2_ k hk; omega); replace uT2 := (fun k (hk : At lnv k) => Nat.lt_of_lt_of_le (uT2 k hk) hu_.size); replace T3 := T3.upd hu_ (fun k hk => by have := hT3_ k hk; omega); replace uT3 := (fun k (hk : At lpv k) => Nat.lt_of_lt_of_le (uT3 k hk) hu_.size); replace hRd := hR_; clear hR_ hu_ hlN_)); (try go_wp2_with fail); refine hK.out _ _ (by (try dsimp only); exact gq) (fun hHeld => ?_); clear hK K; (try simp only [Act.put, List.setIfInBounds_toArray, List.set_cons_zero, List.set_cons_succ]))
    (refine wpAnyH_take (i := 4) (oi := ?oi_3_4) (v := ?v_3_4) ?ho_3_4 ?hs_3_4 ?hf_3_4 ?hr_3_4 ?hQ_3_4 ?hy_3_4 ?hS_3_4 ?rest_3_4; (case hr_3_4 => kernel_rfl); (case hf_3_4 => kernel_rfl); (case hs_3_4 => kernel_rfl); (case ho_3_4 => (simp only [List.getElem?_toArray, List.getElem?_cons_succ, List.getElem?_cons_zero]; rfl)); (case hS_3_4 => assumption); (case hQ_3_4 => exact fun _ _ _ h => h); (case hy_3_4 => (refine Or.inl ⟨by rfl, ?_⟩; (intro w hSw; (try dsimp only at hSw); go_simp) <;> with_reducible rfl)); (try simp only [Act.put, List.setIfInBounds_toArray, List.set_cons_zero, List.set_cons_succ]))
    (refine wpAnyH_take (i := 5) (oi := ?oi_3_5) (v := ?v_3_5) ?ho_3_5 ?hs_3_5 ?hf_3_5 ?hr_3_5 ?hQ_3_5 ?hy_3_5 ?hS_3_5 ?rest_3_5; (case hr_3_5 => kernel_rfl); (case hf_3_5 => kernel_rfl); (case hs_3_5 => kernel_rfl); (case ho_3_5 => (simp only [List.getElem?_toArray, List.getElem?_cons_succ, List.getElem?_cons_zero]; rfl)); (case hS_3_5 => assumption); (case hQ_3_5 => exact fun _ _ _ h => h); (case hy_3_5 => (refine Or.inl ⟨by rfl, ?_⟩; (intro w hSw; (try dsimp only at hSw); go_simp) <;> with_reducible rfl)); (try simp only [Act.put, List.setIfInBounds_toArray, List.set_cons_zero, List.set_cons_succ]))
    (refine wpAnyH_ready (rs := [3]) (by kernel_rfl) (by simp) ?_; refine AllReadyH.cons (o := ?oo_3_3) ?hoo_3_3 ?hst_3_3 AllReadyH.nil; (case hoo_3_3 => (simp only [List.getElem?_toArray, List.getElem?_cons_succ, List.getElem?_cons_zero]; rfl)); intro K hK; go_simp; ((go_at_call 15; (refine (c13.out _ _ _ hRd).mono ?_); rintro en z2 ⟨rfl, hR_, hu_⟩; have hlN_ := heap_lt gb.out; replace gq := hu_.cell gq (by dsimp only; omega); replace gZ := Lib.hid (hu_.heap gZ.out (by omega)); replace gU := gU.trans hu_ (fun j hj h => by omega); replace gb := Lib.hid (hu_.heap gb.out (by omega)); replace T1 := T1.upd hu_ (fun k hk => by have := hT1_ k hk; omega); replace uT1 := (fun k (hk : At nv k) => Nat.lt_of_lt_of_le (uT1 k hk) hu_.size); replace T2 := T2.upd hu_ (fun k hk => by have := hT2_ k hk; omega); replace uT2 := (fun k (hk : At lnv k) => Nat.lt_of_lt_of_le (uT2 k hk) hu_.size); replace T3 := T3.upd hu_ (fun k hk => by have := hT3_ k hk; omega); replace uT3 := (fun k (hk : At lpv k) => Nat.lt_of_lt_of_le (uT3 k hk) hu_.size); replace hRd := hR_; clear hR_ hu_ hlN_)); (try go_wp2_with fail); refine hK.out _ _ (by (try dsimp only); exact gq) (fun hHeld => ?_); clear hK K; (try simp only [Act.put, List.setIfInBounds_toArray, List.set_cons_zero, List.set_cons_succ]))
    (refine wpAnyH_ready (rs := [6]) (by kernel_rfl) (by simp) ?_; refine AllReadyH.cons (o := ?oo_3_6) ?hoo_3_6 ?hst_3_6 AllReadyH.nil; (case hoo_3_6 => (simp only [List.getElem?_toArray, List.getElem?_cons_succ, List.getElem?_cons_zero]; rfl)); intro K hK; ((refine step_store_cell rfl 9 _ _ rfl N 16 (.string ⟨next.toArray⟩) _ _ rfl rfl gb.out (show 16 < 24 by omega) rfl rfl rfl ?_; intro z3 hb_ hu_; replace gq := hu_.cell gq (by dsimp only; omega); replace gZ := Lib.hid (hu_.heap gZ.out (by omega)); replace gU := gU.trans hu_ (fun j hj h => by have := gU.size; omega); replace gb := Lib.hid hb_; replace T1 := T1.upd hu_ (fun k hk => by have := hT1_ k hk; omega); replace uT1 := (fun k (hk : At nv k) => Nat.lt_of_lt_of_le (uT1 k hk) hu_.size); replace T2 := T2.upd hu_ (fun k hk => by have := hT2_ k hk; omega); replace uT2 := (fun k (hk : At lnv k) => Nat.lt_of_lt_of_le (uT2 k hk) hu_.size); replace T3 := T3.upd hu_ (fun k hk => by have := hT3_ k hk; omega); replace uT3 := (fun k (hk : At lpv k) => Nat.lt_of_lt_of_le (uT3 k hk) hu_.size); replace hRd := hRd.upd hu_ (fun j _ hj => .inr (by omega)); clear hb_ hu_)); (try go_wp2_with fail); refine hK.out _ _ (by (try dsimp only); exact gq) (fun hHeld => ?_); clear hK K; (try simp only [Act.put, List.setIfInBounds_toArray, List.set_cons_zero, List.set_cons_succ]))
    (refine wpAnyH_take (i := 7) (oi := ?oi_3_7) (v := ?v_3_7) ?ho_3_7 ?hs_3_7 ?hf_3_7 ?hr_3_7 ?hQ_3_7 ?hy_3_7 ?hS_3_7 ?rest_3_7; (case hr_3_7 => kernel_rfl); (case hf_3_7 => kernel_rfl); (case hs_3_7 => kernel_rfl); (case ho_3_7 => (simp only [List.getElem?_toArray, List.getElem?_cons_succ, List.getElem?_cons_zero]; rfl)); (case hS_3_7 => assumption); (case hQ_3_7 => exact fun _ _ _ h => h); (case hy_3_7 => (refine Or.inl ⟨by rfl, ?_⟩; (intro w hSw; (try dsimp only at hSw); go_simp) <;> with_reducible rfl)); (try simp only [Act.put, List.setIfInBounds_toArray, List.set_cons_zero, List.set_cons_succ]))
    (refine wpAnyH_take (i := 8) (oi := ?oi_3_8) (v := ?v_3_8) ?ho_3_8 ?hs_3_8 ?hf_3_8 ?hr_3_8 ?hQ_3_8 ?hy_3_8 ?hS_3_8 ?rest_3_8; (case hr_3_8 => kernel_rfl); (case hf_3_8 => kernel_rfl); (case hs_3_8 => kernel_rfl); (case ho_3_8 => (simp only [List.getElem?_toArray, List.getElem?_cons_succ, List.getElem?_cons_zero]; rfl)); (case hS_3_8 => assumption); (case hQ_3_8 => exact fun _ _ _ h => h); (case hy_3_8 => (refine Or.inl ⟨by rfl, ?_⟩; (intro w hSw; (try dsimp only at hSw); go_simp) <;> with_reducible rfl)); (try simp only [Act.put, List.setIfInBounds_toArray, List.set_cons_zero, List.set_cons_succ]))
    (refine wpAnyH_ready (rs := [9]) (by kernel_rfl) (by simp) ?_; refine AllReadyH.cons (o := ?oo_3_9) ?hoo_3_9 ?hst_3_9 AllReadyH.nil; (case hoo_3_9 => (simp only [List.getElem?_toArray, List.getElem?_cons_succ, List.getElem?_cons_zero]; rfl)); intro K hK; ((refine step_store_cell rfl 4 _ _ rfl N 17 (.bool more) _ _ rfl rfl gb.out (show 17 < 24 by omega) rfl rfl rfl ?_; intro z4 hb_ hu_; replace gq := hu_.cell gq (by dsimp only; omega); replace gZ := Lib.hid (hu_.heap gZ.out (by omega)); replace gU := gU.trans hu_ (fun j hj h => by have := gU.size; omega); replace gb := Lib.hid hb_; replace T1 := T1.upd hu_ (fun k hk => by have := hT1_ k hk; omega); replace uT1 := (fun k (hk : At nv k) => Nat.lt_of_lt_of_le (uT1 k hk) hu_.size); replace T2 := T2.upd hu_ (fun k hk => by have := hT2_ k hk; omega); replace uT2 := (fun k (hk : At lnv k) => Nat.lt_of_lt_of_le (uT2 k hk) hu_.size); replace T3 := T3.upd hu_ (fun k hk => by have := hT3_ k hk; omega); replace uT3 := (fun k (hk : At lpv k) => Nat.lt_of_lt_of_le (uT3 k hk) hu_.size); replace hRd := hRd.upd hu_ (fun j _ hj => .inr (by omega)); clear hb_ hu_)); (try go_wp2_with fail); refine hK.out _ _ (by (try dsimp only); exact gq) (fun hHeld => ?_); clear hK K; (try simp only [Act.put, List.setIfInBounds_toArray, List.set_cons_zero, List.set_cons_succ]))
    refine wpAnyH_done (by kernel_rfl) ?_ _
    replace gb : Hid (z4.heap[N]? = some (.cells #[.int .i64 err, .int .i64 id, .int .i64 time, .string ⟨text.toArray⟩, .int .i64 re, .int .i64 im, .string ⟨version.toArray⟩, .int .i64 hs_, .int .i64 hr, .int .i64 hi, .bool hg, .bool hn_, .string ⟨body.toArray⟩, nv, lnv, lpv, .string ⟨next.toArray⟩, .bool more, .slice none 0 0, .string ⟨#[]⟩, .int .i64 0, .bool false, .slice none 0 0, .slice none 0 0] 39 (0, 0))) := Lib.hid gb.out
    have hlvb := True.intro
    clear c6 c7 c8 c9 c10 c11 c12 c13
    go_wp2_with fail
    refine (c14.out _ _ _ hRd).mono ?_
    rintro en g1 ⟨_, rfl, hR_, ⟨lv, rfl, hL, hLb⟩, hu_⟩
    have hlN_ := heap_lt gb.out
    have hLn : ∀ k, At lv k → N < k := fun k hk => by have := (hLb k hk).1; omega
    have uL : ∀ k, At lv k → k < g1.heap.size := fun k hk => (hLb k hk).2
    replace gq := hu_.cell gq (by dsimp only; omega)
    replace gZ := Lib.hid (hu_.heap gZ.out (by omega))
    replace gU := gU.trans hu_ (fun j hj h => by omega)
    replace gb := Lib.hid (hu_.heap gb.out (by omega))
    replace T1 := T1.upd hu_ (fun k hk => by have := hT1_ k hk; omega)
    replace uT1 := fun k (hk : At nv k) => Nat.lt_of_lt_of_le (uT1 k hk) hu_.size
    replace T2 := T2.upd hu_ (fun k hk => by have := hT2_ k hk; omega)
    replace uT2 := fun k (hk : At lnv k) => Nat.lt_of_lt_of_le (uT2 k hk) hu_.size
    replace T3 := T3.upd hu_ (fun k hk => by have := hT3_ k hk; omega)
    replace uT3 := fun k (hk : At lpv k) => Nat.lt_of_lt_of_le (uT3 k hk) hu_.size
    replace hRd := hR_
    clear hR_ hu_ hlN_ hLb c14 hlvb
    have hl4 : (#[lv, .string ⟨lobject.toArray⟩, .int .i64 lid, .bool lmore] : Array Value).all (·.oneCell') = true := by obtain ⟨_, aa, cc, rfl, -⟩ := hL; simp [Value.oneCell']
    have hszl : Hid ((Tryz.prog.info? 35).map (·.size) = some (#[lv, .string ⟨lobject.toArray⟩, .int .i64 lid, .bool lmore] : Array Value).size) := Lib.hid (by kernel_rfl)
    unfold lnsV
    go_wp2_with ((with_reducible (show wpList _ _ _ (⟨_, Op.store _ _ _, _, _, _, _⟩ :: _) _ _)); refine storeM_list rfl 35 _ _ rfl N 18 #[lv, .string ⟨lobject.toArray⟩, .int .i64 lid, .bool lmore] _ _ rfl rfl gb.out (show 18 + 4 ≤ 24 by omega) hszl.out hl4 ?_)
    intro g2 hb_ hu_
    replace gq := hu_.cell gq (by dsimp only; omega)
    replace gZ := Lib.hid (hu_.heap gZ.out (by omega))
    replace gU := gU.trans hu_ (fun j hj h => by have := gU.size; omega)
    replace gb : Hid (g2.heap[N]? = some (.cells (rsC ⟨err, id, time, text, re, im, version, ⟨hs_, hr, hi, hg, hn_⟩, body, names, lnames, lpre, next, more, lines, lobject, lid, lmore, [], []⟩ { (⟨nv, lnv, lpv, lv, .slice none 0 0, .slice none 0 0⟩ : Sl) with u := .slice none 0 0 }) 39 (0, 0))) := Lib.hid hb_
    replace T1 := T1.upd hu_ (fun k hk => by have := hT1_ k hk; omega)
    replace uT1 := fun k (hk : At nv k) => Nat.lt_of_lt_of_le (uT1 k hk) hu_.size
    replace T2 := T2.upd hu_ (fun k hk => by have := hT2_ k hk; omega)
    replace uT2 := fun k (hk : At lnv k) => Nat.lt_of_lt_of_le (uT2 k hk) hu_.size
    replace T3 := T3.upd hu_ (fun k hk => by have := hT3_ k hk; omega)
    replace uT3 := fun k (hk : At lpv k) => Nat.lt_of_lt_of_le (uT3 k hk) hu_.size
    replace hL := hL.upd hu_ (fun k hk => by have := hLn k hk; omega)
    replace uL := fun k (hk : At lv k) => Nat.lt_of_lt_of_le (uL k hk) hu_.size
    replace hRd := hRd.upd hu_ (fun j _ hj => .inr (by omega))
    clear hb_ hu_ hszl
    have hlN := heap_lt gb.out
    have cU := Lib.hid (wMany 18 #[.pointer (some ⟨N, 0, none⟩), .pointer (some ⟨q, 0, none⟩)] r (w.heap.size + 1) s N q 39 59 2 (fun v => rsC ⟨err, id, time, text, re, im, version, ⟨hs_, hr, hi, hg, hn_⟩, body, names, lnames, lpre, next, more, lines, lobject, lid, lmore, [], []⟩ { (⟨nv, lnv, lpv, lv, .slice none 0 0, .slice none 0 0⟩ : Sl) with u := v }) (rdUp wTx s) upC a14 e14 g2 hRd ⟨gb.out, World.ownsRow_nil _ _ _ _⟩ gq (by omega) (by omega) (by omega) (stUps r s N _ q ⟨err, id, time, text, re, im, version, ⟨hs_, hr, hi, hg, hn_⟩, body, names, lnames, lpre, next, more, lines, lobject, lid, lmore, [], []⟩ (⟨nv, lnv, lpv, lv, .slice none 0 0, .slice none 0 0⟩ : Sl) (by omega) (by omega) (by omega) (by omega) (by omega)) (fun w => by rfl))
    have hUe : Hid (rdUps wTx s a14 e14 = rdMany (rdUp wTx s) (rdNum s a14 e14 2).2.2.toNat (rdNum s a14 e14 2).1 (rdNum s a14 e14 2).2.1 []) := Lib.hid rfl
    rw [← hUe.out] at cU
    replace hX := hX.out
    clear hUe
    generalize rdUps wTx s a14 e14 = x at *
    obtain ⟨a15, e15, ups⟩ := x
    unfold Manyd rdV1 at cU
    dsimp only at hX cU
    replace hX := Lib.hid hX
    go_wp2_with fail
    refine cU.out.mono ?_
    rintro en g3 ⟨rfl, uv, hR_, ⟨hb_, hoU⟩, hu_⟩
    replace gq := hu_.cell gq (by dsimp only; omega)
    replace gZ := Lib.hid (hu_.heap gZ.out (by omega))
    replace gU := gU.trans hu_ (fun j hj h => by have := gU.size; omega)
    replace gb : Hid (g3.heap[N]? = some (.cells (rsC ⟨err, id, time, text, re, im, version, ⟨hs_, hr, hi, hg, hn_⟩, body, names, lnames, lpre, next, more, lines, lobject, lid, lmore, [], []⟩ { (⟨nv, lnv, lpv, lv, uv, .slice none 0 0⟩ : Sl) with p := .slice none 0 0 }) 39 (0, 0))) := Lib.hid hb_
    replace T1 := T1.upd hu_ (fun k hk => by have := hT1_ k hk; omega)
    replace uT1 := fun k (hk : At nv k) => Nat.lt_of_lt_of_le (uT1 k hk) hu_.size
    replace T2 := T2.upd hu_ (fun k hk => by have := hT2_ k hk; omega)
    replace uT2 := fun k (hk : At lnv k) => Nat.lt_of_lt_of_le (uT2 k hk) hu_.size
    replace T3 := T3.upd hu_ (fun k hk => by have := hT3_ k hk; omega)
    replace uT3 := fun k (hk : At lpv k) => Nat.lt_of_lt_of_le (uT3 k hk) hu_.size
    replace hL := hL.upd hu_ (fun k hk => by have := hLn k hk; omega)
    replace uL := fun k (hk : At lv k) => Nat.lt_of_lt_of_le (uL k hk) hu_.size
    replace hRd := hR_
    have T5 : Ups g3 uv ups := has_of_owns hoU
    have hT5_ : ∀ k, At uv k → N < k := fun k hk => by have := own_ge hoU hk; omega
    have uT5 : ∀ k, At uv k → k < g3.heap.size := fun k hk => own_lt hoU hk
    replace hlN := heap_lt gb.out
    clear hb_ hu_ hR_ hoU cU
    have cV := Lib.hid (wMany 19 #[.pointer (some ⟨N, 0, none⟩), .pointer (some ⟨q, 0, none⟩)] r (w.heap.size + 1) s N q 39 61 6 (fun v => rsC ⟨err, id, time, text, re, im, version, ⟨hs_, hr, hi, hg, hn_⟩, body, names, lnames, lpre, next, more, lines, lobject, lid, lmore, [], []⟩ { (⟨nv, lnv, lpv, lv, uv, .slice none 0 0⟩ : Sl) with p := v }) (rdPt s) ptC a15 e15 g3 hRd ⟨gb.out, World.ownsRow_nil _ _ _ _⟩ gq (by omega) (by omega) (by omega) (stPts r s N _ q ⟨err, id, time, text, re, im, version, ⟨hs_, hr, hi, hg, hn_⟩, body, names, lnames, lpre, next, more, lines, lobject, lid, lmore, [], []⟩ (⟨nv, lnv, lpv, lv, uv, .slice none 0 0⟩ : Sl) (by omega) (by omega) (by omega) (by omega) (by omega)) (fun w => by rfl))
    have hVe : Hid (rdPts s a15 e15 = rdMany (rdPt s) (rdNum s a15 e15 2).2.2.toNat (rdNum s a15 e15 2).1 (rdNum s a15 e15 2).2.1 []) := Lib.hid rfl
    rw [← hVe.out] at cV
    replace hX := hX.out
    clear hVe
    generalize rdPts s a15 e15 = x at *
    obtain ⟨a16, e16, parts⟩ := x
    unfold Manyd rdV1 at cV
    dsimp only at hX cV
    subst hX
    dsimp only at htell hsml hids
    go_wp2_with fail
    refine cV.out.mono ?_
    rintro en g4 ⟨rfl, pv, hR_, ⟨hb_, hoP⟩, hu_⟩
    replace gq := hu_.cell gq (by dsimp only; omega)
    replace gZ := Lib.hid (hu_.heap gZ.out (by omega))
    replace gU := gU.trans hu_ (fun j hj h => by have := gU.size; omega)
    replace gb : Hid (g4.heap[N]? = some (.cells #[.int .i64 err, .int .i64 id, .int .i64 time, .string ⟨text.toArray⟩, .int .i64 re, .int .i64 im, .string ⟨version.toArray⟩, .int .i64 hs_, .int .i64 hr, .int .i64 hi, .bool hg, .bool hn_, .string ⟨body.toArray⟩, nv, lnv, lpv, .string ⟨next.toArray⟩, .bool more, lv, .string ⟨lobject.toArray⟩, .int .i64 lid, .bool lmore, uv, pv] 39 (0, 0))) := Lib.hid hb_
    replace T1 := T1.upd hu_ (fun k hk => by have := hT1_ k hk; omega)
    replace uT1 := fun k (hk : At nv k) => Nat.lt_of_lt_of_le (uT1 k hk) hu_.size
    replace T2 := T2.upd hu_ (fun k hk => by have := hT2_ k hk; omega)
    replace uT2 := fun k (hk : At lnv k) => Nat.lt_of_lt_of_le (uT2 k hk) hu_.size
    replace T3 := T3.upd hu_ (fun k hk => by have := hT3_ k hk; omega)
    replace uT3 := fun k (hk : At lpv k) => Nat.lt_of_lt_of_le (uT3 k hk) hu_.size
    replace T5 := T5.upd hu_ (fun k hk => by have := hT5_ k hk; omega)
    replace uT5 := fun k (hk : At uv k) => Nat.lt_of_lt_of_le (uT5 k hk) hu_.size
    replace hL := hL.upd hu_ (fun k hk => by have := hLn k hk; omega)
    replace uL := fun k (hk : At lv k) => Nat.lt_of_lt_of_le (uL k hk) hu_.size
    replace hRd := hR_
    have T6 : Pts g4 pv parts := has_of_owns hoP
    have hT6_ : ∀ k, At pv k → N < k := fun k hk => by have := own_ge hoP hk; omega
    have uT6 : ∀ k, At pv k → k < g4.heap.size := fun k hk => own_lt hoP hk
    have hRs : RsAt g4 ⟨err, id, time, text, re, im, version, ⟨hs_, hr, hi, hg, hn_⟩, body, names, lnames, lpre, next, more, lines, lobject, lid, lmore, ups, parts⟩ ⟨nv, lnv, lpv, lv, uv, pv⟩ := ⟨T1, T2, T3, hL, T5, T6⟩
    have hup : SlLt ⟨nv, lnv, lpv, lv, uv, pv⟩ g4.heap.size := fun k h => by
      rcases h with h | h | h | h | h | h
      · exact uT1 k h
      · exact uT2 k h
      · exact uT3 k h
      · exact uL k h
      · exact uT5 k h
      · exact uT6 k h
    have hlo : ∀ k, At nv k ∨ At lnv k ∨ At lpv k ∨ At lv k ∨ At uv k ∨ At pv k → N < k := fun k h => by
      rcases h with h | h | h | h | h | h
      · exact hT1_ k h
      · exact hT2_ k h
      · exact hT3_ k h
      · exact hLn k h
      · exact hT5_ k h
      · exact hT6_ k h
    have hwN : w.heap.size < N := by omega
    clear hb_ hu_ hR_ hoP cV T1 T2 T3 T5 T6 hL uT1 uT2 uT3 uT5 uT6 uL hT1_ hT2_ hT3_ hT5_ hT6_ hLn hl4
    have hsz24 : Hid ((Tryz.prog.info? 39).map (·.size) = some (#[.int .i64 err, .int .i64 id, .int .i64 time, .string ⟨text.toArray⟩, .int .i64 re, .int .i64 im, .string ⟨version.toArray⟩, .int .i64 hs_, .int .i64 hr, .int .i64 hi, .bool hg, .bool hn_, .string ⟨body.toArray⟩, nv, lnv, lpv, .string ⟨next.toArray⟩, .bool more, lv, .string ⟨lobject.toArray⟩, .int .i64 lid, .bool lmore, uv, pv] : Array Value).size) := Lib.hid (by kernel_rfl)
    have h24 : Hid ((#[.int .i64 err, .int .i64 id, .int .i64 time, .string ⟨text.toArray⟩, .int .i64 re, .int .i64 im, .string ⟨version.toArray⟩, .int .i64 hs_, .int .i64 hr, .int .i64 hi, .bool hg, .bool hn_, .string ⟨body.toArray⟩, nv, lnv, lpv, .string ⟨next.toArray⟩, .bool more, lv, .string ⟨lobject.toArray⟩, .int .i64 lid, .bool lmore, uv, pv] : Array Value).all (·.oneCell') = true) := Lib.hid (by
      obtain ⟨_, b1, b2, e1, -⟩ := hRs.n
      obtain ⟨_, b3, b4, e2, -⟩ := hRs.ln
      obtain ⟨_, b5, b6, e3, -⟩ := hRs.lp
      obtain ⟨_, b7, b8, e4, -⟩ := hRs.l
      obtain ⟨_, b9, b10, e5, -⟩ := hRs.u
      obtain ⟨_, b11, b12, e6, -⟩ := hRs.p
      dsimp only at e1 e2 e3 e4 e5 e6
      subst e1 e2 e3 e4 e5 e6
      simp [Value.oneCell'])
    have hno : tellA wTx s = none → ∀ w', Upd Non w w' → PR (.returned (.tuple #[.agg #[.int .i64 0, .int .i64 0, .int .i64 0, .string ⟨#[]⟩, .int .i64 0, .int .i64 0, .string ⟨#[]⟩, .int .i64 0, .int .i64 0, .int .i64 0, .bool false, .bool false, .string ⟨#[]⟩, .slice none 0 0, .slice none 0 0, .slice none 0 0, .string ⟨#[]⟩, .bool false, .slice none 0 0, .string ⟨#[]⟩, .int .i64 0, .bool false, .slice none 0 0, .slice none 0 0], .int .i64 4])) w' := fun h w' hu => by
      rw [← hPR.out]
      refine ⟨⟨.slice none 0 0, .slice none 0 0, .slice none 0 0, .slice none 0 0, .slice none 0 0, .slice none 0 0⟩, ?_, ?_, ?_, hu⟩
      · rw [h]; rfl
      · rw [h]; exact ⟨Has.nil _ _, Has.nil _ _, Has.nil _ _, Has.nil _ _, Has.nil _ _, Has.nil _ _⟩
      · intro k hk
        simp [At, Value.ownBlock] at hk
    have hyes : tellA wTx s = some ⟨err, id, time, text, re, im, version, ⟨hs_, hr, hi, hg, hn_⟩, body, names, lnames, lpre, next, more, lines, lobject, lid, lmore, ups, parts⟩ → ∀ w', RsAt w' ⟨err, id, time, text, re, im, version, ⟨hs_, hr, hi, hg, hn_⟩, body, names, lnames, lpre, next, more, lines, lobject, lid, lmore, ups, parts⟩ ⟨nv, lnv, lpv, lv, uv, pv⟩ → g4.heap.size ≤ w'.heap.size → Upd Non w w' → PR (.returned (.tuple #[.agg #[.int .i64 err, .int .i64 id, .int .i64 time, .string ⟨text.toArray⟩, .int .i64 re, .int .i64 im, .string ⟨version.toArray⟩, .int .i64 hs_, .int .i64 hr, .int .i64 hi, .bool hg, .bool hn_, .string ⟨body.toArray⟩, nv, lnv, lpv, .string ⟨next.toArray⟩, .bool more, lv, .string ⟨lobject.toArray⟩, .int .i64 lid, .bool lmore, uv, pv], .int .i64 0])) w' := fun h w' hI hz hu => by
      rw [← hPR.out]
      refine ⟨⟨nv, lnv, lpv, lv, uv, pv⟩, ?_, ?_, fun k hk => ⟨?_, ?_⟩, hu⟩
      · rw [h]; rfl
      · rw [h]; exact hI
      · have := hlo k hk; omega
      · exact Nat.lt_of_lt_of_le (hup k hk) hz
    replace hno := Lib.hid hno
    replace hyes := Lib.hid hyes
    have cA := Lib.hid (wAnswer ⟨err, id, time, text, re, im, version, ⟨hs_, hr, hi, hg, hn_⟩, body, names, lnames, lpre, next, more, lines, lobject, lid, lmore, ups, parts⟩ ⟨nv, lnv, lpv, lv, uv, pv⟩ g4 hRs hsml.out hup hids.out)
    unfold rsV rsC at cA
    dsimp only at cA
    have hRs' := Lib.hid (fun w' (hu : Upd (fun k => k = w.heap.size) g4 w') => hRs.upd hu (fun k hk => by have := hlo k hk; omega))
    clear hRs hlo hup hsml hids hPR
    go_wp2_with ((with_reducible (show wpList _ _ _ (⟨_, Op.load _ _, _, _, _, _⟩ :: _) _ _)); refine loadB_list rfl 39 _ rfl N #[.int .i64 err, .int .i64 id, .int .i64 time, .string ⟨text.toArray⟩, .int .i64 re, .int .i64 im, .string ⟨version.toArray⟩, .int .i64 hs_, .int .i64 hr, .int .i64 hi, .bool hg, .bool hn_, .string ⟨body.toArray⟩, nv, lnv, lpv, .string ⟨next.toArray⟩, .bool more, lv, .string ⟨lobject.toArray⟩, .int .i64 lid, .bool lmore, uv, pv] _ _ rfl gb.out Tryz.underlying39 rfl hsz24.out ?_)
    go_wp2_with fail
    refine cA.out.mono ?_
    rintro en g5 (⟨hr_, bv, rfl, hoA, hu_⟩ | ⟨hr_, rfl, hu_⟩)
    case inr =>
      have hr : tellA wTx s = none := htell.out.trans (if_neg (fun h => hr_ h.2.1))
      replace hno := Lib.hid (hno.out hr)
      replace gZ := Lib.hid (hu_.heap gZ.out (fun h => h))
      replace gU := gU.trans hu_ (fun _ _ h => h)
      replace hRd := hRd.non hu_
      replace gq := hu_.cell gq (fun h => h)
      have cE := Lib.hid (fEnd r s a16 e16 g5 hRd)
      clear hu_ hyes hRs' htell gb hRd cA hr_ hr
      by_cases h1 : rdEnd s a16 e16 = 0
      · rw [h1] at cE
        go_wp2_with fail
        refine cE.out.mono ?_
        rintro en g6 ⟨rfl, n6, rfl⟩
        replace gZ := Lib.hid ((Upd.drewN Non g5 n6).heap gZ.out fun h => h)
        replace gU := gU.then_drewN n6
        go_wp2_with ((with_reducible (show wpList _ _ _ (⟨_, Op.store _ _ _, _, _, _, _⟩ :: _) _ _)); refine storeB_list rfl 39 _ _ rfl w.heap.size #[.int .i64 0, .int .i64 0, .int .i64 0, .string ⟨#[]⟩, .int .i64 0, .int .i64 0, .string ⟨#[]⟩, .int .i64 0, .int .i64 0, .int .i64 0, .bool false, .bool false, .string ⟨#[]⟩, .slice none 0 0, .slice none 0 0, .slice none 0 0, .string ⟨#[]⟩, .bool false, .slice none 0 0, .string ⟨#[]⟩, .int .i64 0, .bool false, .slice none 0 0, .slice none 0 0] _ _ rfl rfl gZ.out rfl hszz.out (by simp [Value.oneCell']) ?_)
        intro wE hbE huE
        have hg := hno.out wE (gU.trans huE fun j hj h => by omega)
        clear gZ huE gU
        (repeat (first | go_values | go_step))
        (try simp only [Exit.inBlock, Exit.then])
        refine bodyPost_ret (results_row_tmp rfl _ _ w.heap.size _ _ _ _ rfl hbE Tryz.underlying39 rfl hszz.out) rfl ?_
        exact hg
      · have hne : (rdEnd s a16 e16 != 0) = true := by simp [h1]
        generalize rdEnd s a16 e16 = xe at *
        go_wp2_with fail
        refine cE.out.mono ?_
        rintro en g6 ⟨rfl, n6, rfl⟩
        replace gZ := Lib.hid ((Upd.drewN Non g5 n6).heap gZ.out fun h => h)
        replace gU := gU.then_drewN n6
        go_wp2_with ((with_reducible (show wpList _ _ _ (⟨_, Op.store _ _ _, _, _, _, _⟩ :: _) _ _)); refine storeB_list rfl 39 _ _ rfl w.heap.size #[.int .i64 0, .int .i64 0, .int .i64 0, .string ⟨#[]⟩, .int .i64 0, .int .i64 0, .string ⟨#[]⟩, .int .i64 0, .int .i64 0, .int .i64 0, .bool false, .bool false, .string ⟨#[]⟩, .slice none 0 0, .slice none 0 0, .slice none 0 0, .string ⟨#[]⟩, .bool false, .slice none 0 0, .string ⟨#[]⟩, .int .i64 0, .bool false, .slice none 0 0, .slice none 0 0] _ _ rfl rfl gZ.out rfl hszz.out (by simp [Value.oneCell']) ?_)
        intro wE hbE huE
        have hg := hno.out wE (gU.trans huE fun j hj h => by omega)
        clear gZ huE gU
        (repeat (first | go_values | go_step))
        (try simp only [Exit.inBlock, Exit.then])
        refine bodyPost_ret (results_row_tmp rfl _ _ w.heap.size _ _ _ _ rfl hbE Tryz.underlying39 rfl hszz.out) rfl ?_
        exact hg
    case inl =>
      replace gZ := Lib.hid (hu_.heap gZ.out (fun h => h))
      replace gb := Lib.hid (hu_.heap gb.out (fun h => h))
      replace gU := gU.trans hu_ (fun _ _ h => h)
      replace hRd := hRd.non hu_
      replace gq := hu_.cell gq (fun h => h)
      have cE := Lib.hid (fEnd r s a16 e16 g5 hRd)
      have hz5 := hu_.size
      have hu5 : Upd (fun k => k = w.heap.size) g4 g5 := hu_.non
      clear hu_ hRd cA
      by_cases h1 : rdEnd s a16 e16 = 0
      case neg =>
        have hr : tellA wTx s = none := htell.out.trans (if_neg (fun h => h1 h.1))
        replace hno := Lib.hid (hno.out hr)
        have hne : (rdEnd s a16 e16 != 0) = true := by simp [h1]
        generalize rdEnd s a16 e16 = xe at *
        obtain ⟨_, ba, bc, rfl, -⟩ := has_of_owns hoA
        clear hyes hRs' htell gb hr hr_ hoA hu5
        go_wp2_with fail
        refine cE.out.mono ?_
        rintro en g6 ⟨rfl, n6, rfl⟩
        replace gZ := Lib.hid ((Upd.drewN Non g5 n6).heap gZ.out fun h => h)
        replace gU := gU.then_drewN n6
        go_wp2_with ((with_reducible (show wpList _ _ _ (⟨_, Op.store _ _ _, _, _, _, _⟩ :: _) _ _)); refine storeB_list rfl 39 _ _ rfl w.heap.size #[.int .i64 0, .int .i64 0, .int .i64 0, .string ⟨#[]⟩, .int .i64 0, .int .i64 0, .string ⟨#[]⟩, .int .i64 0, .int .i64 0, .int .i64 0, .bool false, .bool false, .string ⟨#[]⟩, .slice none 0 0, .slice none 0 0, .slice none 0 0, .string ⟨#[]⟩, .bool false, .slice none 0 0, .string ⟨#[]⟩, .int .i64 0, .bool false, .slice none 0 0, .slice none 0 0] _ _ rfl rfl gZ.out rfl hszz.out (by simp [Value.oneCell']) ?_)
        intro wE hbE huE
        have hg := hno.out wE (gU.trans huE fun j hj h => by omega)
        clear gZ huE gU
        (repeat (first | go_values | go_step))
        (try simp only [Exit.inBlock, Exit.then])
        refine bodyPost_ret (results_row_tmp rfl _ _ w.heap.size _ _ _ _ rfl hbE Tryz.underlying39 rfl hszz.out) rfl ?_
        exact hg
      rw [h1] at cE
      obtain ⟨_, ba, bc, rfl, -⟩ := has_of_owns hoA
      obtain ⟨pq, hpq⟩ : ∃ pq, putA ⟨err, id, time, text, re, im, version, ⟨hs_, hr, hi, hg, hn_⟩, body, names, lnames, lpre, next, more, lines, lobject, lid, lmore, ups, parts⟩ = pq := ⟨_, rfl⟩
      rw [hpq] at hoA htell ⊢
      have hstr1 := fun n => run_str (P := Tryz.prog) _ 22 9 5 Tryz.underlying22 Tryz.underlying5 Tryz.underlying9 _ _ (Own.bytes ((Upd.drewN Non g5 n).owns hoA fun _ _ h => h))
      have hstr2 := fun n => run_str (P := Tryz.prog) _ 22 9 5 Tryz.underlying22 Tryz.underlying5 Tryz.underlying9 _ _ ((hB.out.upd gU fun _ _ h => h).upd (Upd.drewN Non g5 n) fun _ _ h => h)
      replace hstr1 := Lib.hid hstr1
      replace hstr2 := Lib.hid hstr2
      go_wp2_with fail
      refine cE.out.mono ?_
      rintro en g6 ⟨rfl, n6, rfl⟩
      replace gZ := Lib.hid ((Upd.drewN Non g5 n6).heap gZ.out fun h => h)
      replace gb := Lib.hid ((Upd.drewN Non g5 n6).heap gb.out fun h => h)
      replace gU := gU.then_drewN n6
      replace hu5 := hu5.then_drewN n6
      replace hstr1 := hstr1.out n6
      replace hstr2 := hstr2.out n6
      have hz6 : (g5.drewN n6).heap.size = g5.heap.size := rfl
      clear hoA cE hB
      by_cases h3 : pq = s
      · have hr : tellA wTx s = some ⟨err, id, time, text, re, im, version, ⟨hs_, hr, hi, hg, hn_⟩, body, names, lnames, lpre, next, more, lines, lobject, lid, lmore, ups, parts⟩ := htell.out.trans (if_pos ⟨h1, hr_, h3⟩)
        replace hyes := Lib.hid (hyes.out hr)
        replace hpq := Lib.hid hpq
        clear hno htell hr
        subst h3
        go_wp2_with (first | ((with_reducible (show wpList _ _ _ (⟨_, Op.load _ _, _, _, _, _⟩ :: _) _ _)); refine loadB_list rfl 39 _ rfl N #[.int .i64 err, .int .i64 id, .int .i64 time, .string ⟨text.toArray⟩, .int .i64 re, .int .i64 im, .string ⟨version.toArray⟩, .int .i64 hs_, .int .i64 hr, .int .i64 hi, .bool hg, .bool hn_, .string ⟨body.toArray⟩, nv, lnv, lpv, .string ⟨next.toArray⟩, .bool more, lv, .string ⟨lobject.toArray⟩, .int .i64 lid, .bool lmore, uv, pv] _ _ rfl gb.out Tryz.underlying39 rfl hsz24.out ?_) | ((with_reducible (show wpList _ _ _ (⟨_, Op.store _ _ _, _, _, _, _⟩ :: _) _ _)); refine storeB_list rfl 39 _ _ rfl w.heap.size #[.int .i64 err, .int .i64 id, .int .i64 time, .string ⟨text.toArray⟩, .int .i64 re, .int .i64 im, .string ⟨version.toArray⟩, .int .i64 hs_, .int .i64 hr, .int .i64 hi, .bool hg, .bool hn_, .string ⟨body.toArray⟩, nv, lnv, lpv, .string ⟨next.toArray⟩, .bool more, lv, .string ⟨lobject.toArray⟩, .int .i64 lid, .bool lmore, uv, pv] _ _ rfl rfl gZ.out rfl hsz24.out h24.out ?_))
        intro wE hbE huE
        have hg := hyes.out wE (hRs'.out wE (hu5.trans huE fun _ _ h => h)) (by have := huE.size; omega) (gU.trans huE fun j hj h => by omega)
        clear gZ huE gU gb hstr1 hstr2
        (repeat (first | go_values | go_step))
        (try simp only [Exit.inBlock, Exit.then])
        refine bodyPost_ret (results_row_tmp rfl _ _ w.heap.size _ _ _ _ rfl hbE Tryz.underlying39 rfl hsz24.out) rfl ?_
        exact hg
      · have hr : tellA wTx s = none := htell.out.trans (if_neg (fun h => h3 h.2.2))
        replace hno := Lib.hid (hno.out hr)
        have hne : ((⟨pq.toArray⟩ : ByteArray) != ⟨s.toArray⟩) = true := str_bne h3
        have hneb : ((⟨pq.toArray⟩ : ByteArray) == ⟨s.toArray⟩) = false := by rw [str_beq, decide_eq_false h3]
        have hnl : (pq == s) = false := by simp [h3]
        replace hpq := Lib.hid hpq
        clear hyes htell hr gb hRs' hu5
        go_wp2_with ((with_reducible (show wpList _ _ _ (⟨_, Op.store _ _ _, _, _, _, _⟩ :: _) _ _)); refine storeB_list rfl 39 _ _ rfl w.heap.size #[.int .i64 0, .int .i64 0, .int .i64 0, .string ⟨#[]⟩, .int .i64 0, .int .i64 0, .string ⟨#[]⟩, .int .i64 0, .int .i64 0, .int .i64 0, .bool false, .bool false, .string ⟨#[]⟩, .slice none 0 0, .slice none 0 0, .slice none 0 0, .string ⟨#[]⟩, .bool false, .slice none 0 0, .string ⟨#[]⟩, .int .i64 0, .bool false, .slice none 0 0, .slice none 0 0] _ _ rfl rfl gZ.out rfl hszz.out (by simp [Value.oneCell']) ?_)
        intro wE hbE huE
        have hg := hno.out wE (gU.trans huE fun j hj h => by omega)
        clear gZ huE gU
        (repeat (first | go_values | go_step))
        (try simp only [Exit.inBlock, Exit.then])
        refine bodyPost_ret (results_row_tmp rfl _ _ w.heap.size _ _ _ _ rfl hbE Tryz.underlying39 rfl hszz.out) rfl ?_
        exact hg
end Go.Proofs.YtogekobpjjmnjaaGreat
