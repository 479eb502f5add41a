/- The closure of wire.reader.lines (printed by gen/mkwav.py). -/
import Derived.Test.YtogekobpjjmnjaaGreatMWaS
import Derived.Test.YtogekobpjjmnjaaGreatMWaA
import Derived.Test.YtogekobpjjmnjaaGreatMBlA
namespace Go.Proofs.YtogekobpjjmnjaaGreat
open Go.RowKit Go.Amb
set_option linter.unusedVariables false
set_option linter.unusedSimpArgs false
set_option maxRecDepth 100000
variable {L : Nat}
attribute [local go_sem ↓] Go.wp_at_zero Go.wp_at_succ
def lnsC (v : Value) : Array Value := #[v, .string ⟨#[]⟩, .int .i64 0, .bool false]
set_option maxHeartbeats 8000000 in
theorem stLines (r : Nat) (s : List UInt8) (o base q : Nat) (hqr : q ≠ r) (hqo : q ≠ o) (hro : r < o) (hob : o < base) (hqb : q < base) :
    StepOk 46 #[.pointer (some ⟨q, 0, none⟩), .pointer (some ⟨o, 0, none⟩)] r L s o base q 35 96 8 lnsC (rdLn wTx s) lnC := by
  intro l a v w hR hA hq hbz hl
  obtain ⟨hb, ho⟩ := hA
  have c1 := Lib.hid (fun w h => wRText (L := L) r s a 0 w h)
  obtain ⟨X, hX⟩ : ∃ X, rdLn wTx s a 0 = X := ⟨_, rfl⟩
  rw [hX]
  unfold rdLn at hX
  generalize wTx s a 0 = x at *
  obtain ⟨a1, e1, n1⟩ := x
  dsimp only at *
  have c2 := Lib.hid (fun w h => fI64 (L := L) r s a1 e1 w h)
  generalize rdNum s a1 e1 8 = x at *
  obtain ⟨a2, e2, n2⟩ := x
  dsimp only at *
  have c3 := Lib.hid (fun w h => wRTruth (L := L) r s a2 e2 w h)
  generalize rdNum s a2 e2 1 = x at *
  obtain ⟨a3, e3, b3⟩ := x
  dsimp only at *
  generalize decide (b3 = 1) = n3 at *
  have c4 := Lib.hid (fun w h => wRHead (L := L) r s a3 e3 w h)
  generalize rdHd s a3 e3 = x at *
  obtain ⟨ra, re, ⟨hs, hr, hi, hg, hn_⟩⟩ := x
  dsimp only at *
  subst hX
  obtain ⟨PR, hPR⟩ : ∃ PR, (fun (en : Ending) (w' : World) => en = .returned (.tuple #[]) ∧ ∃ v', RdAt w' r L s ra re ∧ Acc o base 35 96 8 lnsC ((l ++ [(⟨n1, n2, n3, ⟨hs, hr, hi, hg, hn_⟩⟩ : Ln)]).flatMap lnC) (l ++ [(⟨n1, n2, n3, ⟨hs, hr, hi, hg, hn_⟩⟩ : Ln)]).length v' w' ∧ Upd (fun k => k = r ∨ k = o ∨ At v k) w w' ∧ (∀ k, At v' k → At v k ∨ w.heap.size ≤ k)) = PR := ⟨_, rfl⟩
  dsimp only
  rw [hPR]
  have hfin : Hid (∀ w' v', RdAt w' r L s ra re → w'.heap[o]? = some (.cells (lnsC v') 35 (0, 0)) → w'.ownsRow base 96 8 v' (l ++ [(⟨n1, n2, n3, ⟨hs, hr, hi, hg, hn_⟩⟩ : Ln)]).length ((l ++ [(⟨n1, n2, n3, ⟨hs, hr, hi, hg, hn_⟩⟩ : Ln)]).flatMap lnC) → Upd (fun k => k = r ∨ k = o ∨ At v k) w w' → (∀ k, At v' k → At v k ∨ w.heap.size ≤ k) → PR (.returned (.tuple #[])) w') := Lib.hid (fun w' v' e1 e2 e3 e4 e5 => by rw [← hPR]; exact ⟨rfl, v', e1, ⟨e2, e3⟩, e4, e5⟩)
  clear hPR
  unfold rdV1 at c1 c3 c4
  unfold hdV at c4
  dsimp only at c4
  have hii : Hid ((Tryz.prog.info? 96).map (fun i => (i.zero, i.size, i.bytes)) = some (some (.agg #[.string ⟨#[]⟩, .int .i64 0, .bool false, .int .i64 0, .int .i64 0, .int .i64 0, .bool false, .bool false]), 8, 64)) := Lib.hid (by kernel_rfl)
  have hsz : Hid ((Tryz.prog.info? 96).map (·.size) = some (#[Value.string ⟨n1.toArray⟩, .int .i64 n2, .bool n3, .int .i64 hs, .int .i64 hr, .int .i64 hi, .bool hg, .bool hn_] : Array Value).size) := Lib.hid (by kernel_rfl)
  have hRd : RdAt w.drew r L s a 0 := hR.non (Upd.drew _ _)
  have gq := (Upd.drew Non _).cell hq fun h => h
  have gb := (Upd.drew Non _).heap hb fun h => h
  replace ho := (Upd.drew Non w).owns ho fun _ _ h => h
  have hU : Upd (fun k => k = r) w w.drew := Upd.drew _ _
  have hwb := heap_lt hb
  clear hR hb hq
  go_enter Tryz.func46, Tryz.ntmps46
  go_wp2_with fail
  refine wp_region_held_drew (S := (fun w' => w'.cell? ⟨q, 0, none⟩ = some (.pointer (some ⟨r, 0, none⟩)))) (by kernel_rfl) (by exact gq) (fun hHeld => ?_)
  (refine wpAnyH_take (i := 0) (oi := ?oi_v1) (v := ?v_v1) ?ho_v1 ?hs_v1 ?hf_v1 ?hr_v1 ?hQ_v1 ?hy_v1 ?hS_v1 ?rest_v1; (case hr_v1 => kernel_rfl); (case hf_v1 => kernel_rfl); (case hs_v1 => kernel_rfl); (case ho_v1 => (simp only [List.getElem?_toArray, List.getElem?_cons_succ, List.getElem?_cons_zero]; rfl)); (case hS_v1 => assumption); (case hQ_v1 => exact fun _ _ _ h => h); (case hy_v1 => (refine Or.inl ⟨by rfl, ?_⟩; (intro w hSw; (try dsimp only at hSw); go_simp) <;> with_reducible rfl)); (try simp only [Act.put, List.setIfInBounds_toArray, List.set_cons_zero, List.set_cons_succ]))
  (refine wpAnyH_take (i := 2) (oi := ?oi_v2) (v := ?v_v2) ?ho_v2 ?hs_v2 ?hf_v2 ?hr_v2 ?hQ_v2 ?hy_v2 ?hS_v2 ?rest_v2; (case hr_v2 => kernel_rfl); (case hf_v2 => kernel_rfl); (case hs_v2 => kernel_rfl); (case ho_v2 => (simp only [List.getElem?_toArray, List.getElem?_cons_succ, List.getElem?_cons_zero]; rfl)); (case hS_v2 => assumption); (case hQ_v2 => exact fun _ _ _ h => h); (case hy_v2 => (refine Or.inl ⟨by rfl, ?_⟩; (intro w hSw; (try dsimp only at hSw); go_simp) <;> with_reducible rfl)); (try simp only [Act.put, List.setIfInBounds_toArray, List.set_cons_zero, List.set_cons_succ]))
  (refine wpAnyH_take (i := 3) (oi := ?oi_v3) (v := ?v_v3) ?ho_v3 ?hs_v3 ?hf_v3 ?hr_v3 ?hQ_v3 ?hy_v3 ?hS_v3 ?rest_v3; (case hr_v3 => kernel_rfl); (case hf_v3 => kernel_rfl); (case hs_v3 => kernel_rfl); (case ho_v3 => (simp only [List.getElem?_toArray, List.getElem?_cons_succ, List.getElem?_cons_zero]; rfl)); (case hS_v3 => assumption); (case hQ_v3 => exact fun _ _ _ h => h); (case hy_v3 => (refine Or.inl ⟨by rfl, ?_⟩; (intro w hSw; (try dsimp only at hSw); go_simp) <;> with_reducible rfl)); (try simp only [Act.put, List.setIfInBounds_toArray, List.set_cons_zero, List.set_cons_succ]))
  (refine wpAnyH_take (i := 5) (oi := ?oi_v4) (v := ?v_v4) ?ho_v4 ?hs_v4 ?hf_v4 ?hr_v4 ?hQ_v4 ?hy_v4 ?hS_v4 ?rest_v4; (case hr_v4 => kernel_rfl); (case hf_v4 => kernel_rfl); (case hs_v4 => kernel_rfl); (case ho_v4 => (simp only [List.getElem?_toArray, List.getElem?_cons_succ, List.getElem?_cons_zero]; rfl)); (case hS_v4 => assumption); (case hQ_v4 => exact fun _ _ _ h => h); (case hy_v4 => (refine Or.inl ⟨by rfl, ?_⟩; (intro w hSw; (try dsimp only at hSw); go_simp) <;> with_reducible rfl)); (try simp only [Act.put, List.setIfInBounds_toArray, List.set_cons_zero, List.set_cons_succ]))
  (refine wpAnyH_take (i := 7) (oi := ?oi_v5) (v := ?v_v5) ?ho_v5 ?hs_v5 ?hf_v5 ?hr_v5 ?hQ_v5 ?hy_v5 ?hS_v5 ?rest_v5; (case hr_v5 => kernel_rfl); (case hf_v5 => kernel_rfl); (case hs_v5 => kernel_rfl); (case ho_v5 => (simp only [List.getElem?_toArray, List.getElem?_cons_succ, List.getElem?_cons_zero]; rfl)); (case hS_v5 => assumption); (case hQ_v5 => exact fun _ _ _ h => h); (case hy_v5 => (refine Or.inl ⟨by rfl, ?_⟩; (intro w hSw; (try dsimp only at hSw); go_simp) <;> with_reducible rfl)); (try simp only [Act.put, List.setIfInBounds_toArray, List.set_cons_zero, List.set_cons_succ]))
  obtain ⟨w0_, hw0_⟩ : ∃ x, w.drew = x := ⟨_, rfl⟩
  rw [hw0_] at hHeld gq gb ho hU hRd ⊢
  clear hw0_
  refine wpAnyH_ready (rs := [1, 10]) (by kernel_rfl) (by simp) ?_
  refine (AllReadyH.cons (o := ?oov6_0) ?hov6_0 ?hsv6_0 (AllReadyH.cons (o := ?oov6_1) ?hov6_1 ?hsv6_1 AllReadyH.nil))
  case hov6_0 => (simp only [List.getElem?_toArray, List.getElem?_cons_succ, List.getElem?_cons_zero]; rfl)
  case hov6_1 => (simp only [List.getElem?_toArray, List.getElem?_cons_succ, List.getElem?_cons_zero]; rfl)
  case hsv6_0 =>
    intro K hK
    go_simp
    (go_at_call 11; (refine (c1.out _ hRd).mono ?_); rintro en w1 ⟨rfl, hR_, hu_⟩)
    replace gq := hu_.cell gq (by dsimp only; omega)
    replace gb := hu_.heap gb (by omega)
    replace ho := hu_.owns ho (fun j hj e => by have := own_ge ho hj; omega)
    replace hU := hU.trans hu_ fun _ _ h => h
    replace hRd := hR_
    clear hR_ hu_
    try go_wp2_with fail
    refine hK.out _ _ (by exact gq) (fun hHeld => ?_)
    clear hK K
    try simp only [Act.put, List.setIfInBounds_toArray, List.set_cons_zero, List.set_cons_succ]
    refine wpAnyH_ready (rs := [4, 10]) (by kernel_rfl) (by simp) ?_
    refine (AllReadyH.cons (o := ?oov7_0) ?hov7_0 ?hsv7_0 (AllReadyH.cons (o := ?oov7_1) ?hov7_1 ?hsv7_1 AllReadyH.nil))
    case hov7_0 => (simp only [List.getElem?_toArray, List.getElem?_cons_succ, List.getElem?_cons_zero]; rfl)
    case hov7_1 => (simp only [List.getElem?_toArray, List.getElem?_cons_succ, List.getElem?_cons_zero]; rfl)
    case hsv7_0 =>
      intro K hK
      go_simp
      (go_at_call 10; (refine (c2.out _ hRd).mono ?_); rintro en w2 ⟨rfl, hR_, hu_⟩)
      replace gq := hu_.cell gq (by dsimp only; omega)
      replace gb := hu_.heap gb (by omega)
      replace ho := hu_.owns ho (fun j hj e => by have := own_ge ho hj; omega)
      replace hU := hU.trans hu_ fun _ _ h => h
      replace hRd := hR_
      clear hR_ hu_
      try go_wp2_with fail
      refine hK.out _ _ (by exact gq) (fun hHeld => ?_)
      clear hK K
      try simp only [Act.put, List.setIfInBounds_toArray, List.set_cons_zero, List.set_cons_succ]
      refine wpAnyH_ready (rs := [6, 10]) (by kernel_rfl) (by simp) ?_
      refine (AllReadyH.cons (o := ?oov8_0) ?hov8_0 ?hsv8_0 (AllReadyH.cons (o := ?oov8_1) ?hov8_1 ?hsv8_1 AllReadyH.nil))
      case hov8_0 => (simp only [List.getElem?_toArray, List.getElem?_cons_succ, List.getElem?_cons_zero]; rfl)
      case hov8_1 => (simp only [List.getElem?_toArray, List.getElem?_cons_succ, List.getElem?_cons_zero]; rfl)
      case hsv8_0 =>
        intro K hK
        go_simp
        (go_at_call 15; (refine (c3.out _ hRd).mono ?_); rintro en w3 ⟨rfl, hR_, hu_⟩)
        replace gq := hu_.cell gq (by dsimp only; omega)
        replace gb := hu_.heap gb (by omega)
        replace ho := hu_.owns ho (fun j hj e => by have := own_ge ho hj; omega)
        replace hU := hU.trans hu_ fun _ _ h => h
        replace hRd := hR_
        clear hR_ hu_
        try go_wp2_with fail
        refine hK.out _ _ (by exact gq) (fun hHeld => ?_)
        clear hK K
        try simp only [Act.put, List.setIfInBounds_toArray, List.set_cons_zero, List.set_cons_succ]
        refine wpAnyH_ready (rs := [8, 10]) (by kernel_rfl) (by simp) ?_
        refine (AllReadyH.cons (o := ?oov9_0) ?hov9_0 ?hsv9_0 (AllReadyH.cons (o := ?oov9_1) ?hov9_1 ?hsv9_1 AllReadyH.nil))
        case hov9_0 => (simp only [List.getElem?_toArray, List.getElem?_cons_succ, List.getElem?_cons_zero]; rfl)
        case hov9_1 => (simp only [List.getElem?_toArray, List.getElem?_cons_succ, List.getElem?_cons_zero]; rfl)
        case hsv9_0 =>
          intro K hK
          go_simp
          (go_at_call 13; (refine (c4.out _ hRd).mono ?_); rintro en w4 ⟨rfl, hR_, hu_⟩)
          replace gq := hu_.cell gq (by dsimp only; omega)
          replace gb := hu_.heap gb (by omega)
          replace ho := hu_.owns ho (fun j hj e => by have := own_ge ho hj; omega)
          replace hU := hU.trans hu_ fun _ _ h => h
          replace hRd := hR_
          clear hR_ hu_
          try go_wp2_with fail
          refine hK.out _ _ (by exact gq) (fun hHeld => ?_)
          clear hK K
          try simp only [Act.put, List.setIfInBounds_toArray, List.set_cons_zero, List.set_cons_succ]
          (refine wpAnyH_take (i := 9) (oi := ?oi_v10) (v := ?v_v10) ?ho_v10 ?hs_v10 ?hf_v10 ?hr_v10 ?hQ_v10 ?hy_v10 ?hS_v10 ?rest_v10; (case hr_v10 => kernel_rfl); (case hf_v10 => kernel_rfl); (case hs_v10 => kernel_rfl); (case ho_v10 => (simp only [List.getElem?_toArray, List.getElem?_cons_succ, List.getElem?_cons_zero]; rfl)); (case hS_v10 => assumption); (case hQ_v10 => exact fun _ _ _ h => h); (case hy_v10 => (refine Or.inl ⟨by rfl, ?_⟩; (intro w hSw; (try dsimp only at hSw); go_simp) <;> with_reducible rfl)); (try simp only [Act.put, List.setIfInBounds_toArray, List.set_cons_zero, List.set_cons_succ]))
          refine wpAnyH_ready (rs := [10]) (by kernel_rfl) (by simp) ?_
          refine (AllReadyH.cons (o := ?oov11_0) ?hov11_0 ?hsv11_0 AllReadyH.nil)
          case hov11_0 => (simp only [List.getElem?_toArray, List.getElem?_cons_succ, List.getElem?_cons_zero]; rfl)
          case hsv11_0 =>
            intro K hK
            go_simp
            have hal_ := Upd.alloc Non w4 (.cells #[.string ⟨#[]⟩, .int .i64 0, .bool false, .int .i64 0, .int .i64 0, .int .i64 0, .bool false, .bool false] 96)
            have hn := heap_alloc_new w4 (.cells #[.string ⟨#[]⟩, .int .i64 0, .bool false, .int .i64 0, .int .i64 0, .int .i64 0, .bool false, .bool false] 96)
            have hsz_ := hU.size
            have hownlt_ : ∀ k, At v k → k < (w4).heap.size := fun k hk => own_lt ho hk
            obtain ⟨N, hN⟩ : ∃ N, (w4).heap.size = N := ⟨_, rfl⟩
            rw [hN] at hn hsz_ hownlt_
            replace gq := hal_.cell gq fun h => h
            replace gb := hal_.heap gb fun h => h
            replace ho := hal_.owns ho fun _ _ h => h
            replace hU := hU.trans hal_ fun _ _ h => h.elim
            replace hRd := hRd.non hal_
            clear hal_
            refine hK.out _ _ (by exact gq) (fun hHeld => ?_)
            clear hK K
            try simp only [Act.put, List.setIfInBounds_toArray, List.set_cons_zero, List.set_cons_succ]
            obtain ⟨w5, hw_⟩ : ∃ x, World.alloc w4 (.cells #[.string ⟨#[]⟩, .int .i64 0, .bool false, .int .i64 0, .int .i64 0, .int .i64 0, .bool false, .bool false] 96) = x := ⟨_, rfl⟩
            rw [hw_] at hn gq gb ho hU hRd ⊢
            clear hw_
            rw [hN]
            replace hN := Lib.hid hN
            refine wpAnyH_ready (rs := [11]) (by kernel_rfl) (by simp) ?_
            refine (AllReadyH.cons (o := ?oov12_0) ?hov12_0 ?hsv12_0 AllReadyH.nil)
            case hov12_0 => (simp only [List.getElem?_toArray, List.getElem?_cons_succ, List.getElem?_cons_zero]; rfl)
            case hsv12_0 =>
              intro K hK
              refine storeB_step rfl 96 _ _ rfl N #[.string ⟨n1.toArray⟩, .int .i64 n2, .bool n3, .int .i64 hs, .int .i64 hr, .int .i64 hi, .bool hg, .bool hn_] _ _ rfl rfl hn rfl hsz.out (by simp [Value.oneCell']) ?_
              intro w6 hb9 hu9
              replace gq := hu9.cell gq (by dsimp only; omega)
              refine hK.out _ _ (by exact gq) (fun hHeld => ?_)
              clear hK K
              try simp only [Act.put, List.setIfInBounds_toArray, List.set_cons_zero, List.set_cons_succ]
              refine wpAnyH_done (by kernel_rfl) ?_ _
              replace gb := hu9.heap gb (by omega)
              have hnv : ∀ j, At v j → j ≠ N := fun j hj e => by have := hownlt_ j hj; omega
              replace ho := hu9.owns ho hnv
              replace hRd := hRd.upd hu9 fun j _ hj => .inr (by omega)
              replace hU := hU.trans hu9 fun j hj e => by omega
              clear hu9 hn hnv hownlt_
              have z : w6.cell? ⟨o, 0, none⟩ = some v := (cells_of gb).1 0
              have zf := (cells_of gb).2 0
              obtain ⟨_, va, vc, rfl, -⟩ := id (has_of_owns ho)
              have hge : ∀ j, At (.slice va l.length vc) j → base ≤ j := fun j hj => own_ge ho hj
              have hWz : w.heap.size ≤ w6.heap.size := hU.size
              go_wp2_with (first | ((with_reducible (show wpList _ _ _ (⟨_, Op.load _ _, _, _, _, _⟩ :: _) _ _)); refine loadB_list rfl 96 _ rfl N #[.string ⟨n1.toArray⟩, .int .i64 n2, .bool n3, .int .i64 hs, .int .i64 hr, .int .i64 hi, .bool hg, .bool hn_] _ _ rfl hb9 Tryz.underlying96 rfl hsz.out ?_) | (at_builtin; go_must (refine wpList_app1n rfl _ _ 33 rfl base 96 (.agg #[.string ⟨#[]⟩, .int .i64 0, .bool false, .int .i64 0, .int .i64 0, .int .i64 0, .bool false, .bool false]) 8 64 Tryz.underlying33 hii.out rfl (.slice va l.length vc) l.length (l.flatMap lnC) rfl ho [.string ⟨n1.toArray⟩, .int .i64 n2, .bool n3, .int .i64 hs, .int .i64 hr, .int .i64 hi, .bool hg, .bool hn_] w6.heap.size rfl rfl rfl (by simp [Value.oneCell']) (by unfold maxLen; omega) (by omega) (by omega) ?_)))
              intro v6 w6 ho6 hu6 hf6
              have gb6 := hu6.heap gb (fun h => by have := hge _ h; omega)
              obtain ⟨_, aa, cc, rfl, -⟩ := id (has_of_owns ho6)
              have z6 : w6.cell? ⟨o, 0, none⟩ = some (.slice va l.length vc) := (cells_of gb6).1 0
              have zf6 := (cells_of gb6).2 0
              have us := Upd.setCell (S := fun k => k = o) w6 (a := ⟨o, 0, none⟩) rfl (.slice aa (l.length + 1) cc)
              have hb7 : (w6.setCell ⟨o, 0, none⟩ (.slice aa (l.length + 1) cc)).heap[o]? = some (.cells (lnsC (.slice aa (l.length + 1) cc)) 35 (0, 0)) := set_blk (j := 0) gb6 (.slice aa (l.length + 1) cc)
              have ho7 := us.owns ho6 (fun j hj e => by have := own_ge ho6 hj; omega)
              have ho8 : (w6.setCell ⟨o, 0, none⟩ (.slice aa (l.length + 1) cc)).ownsRow base 96 8 (.slice aa (l.length + 1) cc) (l ++ [(⟨n1, n2, n3, ⟨hs, hr, hi, hg, hn_⟩⟩ : Ln)]).length ((l ++ [(⟨n1, n2, n3, ⟨hs, hr, hi, hg, hn_⟩⟩ : Ln)]).flatMap lnC) := by rw [List.length_append, List.flatMap_append]; exact ho7
              have hR8 : RdAt (w6.setCell ⟨o, 0, none⟩ (.slice aa (l.length + 1) cc)) r L s ra re := (hRd.upd hu6 fun j _ hj => .inr (by have := hge j hj; omega)).upd us fun j _ hj => .inr (by omega)
              have hU8 : Upd (fun k => k = r ∨ k = o ∨ At (.slice va l.length vc) k) w (w6.setCell ⟨o, 0, none⟩ (.slice aa (l.length + 1) cc)) := ((hU.mono fun _ _ h => .inl h).trans hu6 fun j hj h => .inr (.inr h)).trans us fun _ _ h => .inr (.inl h)
              have hg9 := Lib.hid (hfin.out _ _ hR8 hb7 ho8 hU8 (fun k hk => (hf6 k hk).imp (fun h => h) fun h => by omega))
              clear hR8 hb7 ho8 hU8 ho7 us gb6 hu6 ho6 hf6 hRd gb ho hU gq hb9 z zf
              go_wp2_with fail
              go_returns
              exact hg9.out
        case hsv9_1 =>
          intro K hK
          go_simp
          have hal_ := Upd.alloc Non w3 (.cells #[.string ⟨#[]⟩, .int .i64 0, .bool false, .int .i64 0, .int .i64 0, .int .i64 0, .bool false, .bool false] 96)
          have hn := heap_alloc_new w3 (.cells #[.string ⟨#[]⟩, .int .i64 0, .bool false, .int .i64 0, .int .i64 0, .int .i64 0, .bool false, .bool false] 96)
          have hsz_ := hU.size
          have hownlt_ : ∀ k, At v k → k < (w3).heap.size := fun k hk => own_lt ho hk
          obtain ⟨N, hN⟩ : ∃ N, (w3).heap.size = N := ⟨_, rfl⟩
          rw [hN] at hn hsz_ hownlt_
          replace gq := hal_.cell gq fun h => h
          replace gb := hal_.heap gb fun h => h
          replace ho := hal_.owns ho fun _ _ h => h
          replace hU := hU.trans hal_ fun _ _ h => h.elim
          replace hRd := hRd.non hal_
          clear hal_
          refine hK.out _ _ (by exact gq) (fun hHeld => ?_)
          clear hK K
          try simp only [Act.put, List.setIfInBounds_toArray, List.set_cons_zero, List.set_cons_succ]
          obtain ⟨w7, hw_⟩ : ∃ x, World.alloc w3 (.cells #[.string ⟨#[]⟩, .int .i64 0, .bool false, .int .i64 0, .int .i64 0, .int .i64 0, .bool false, .bool false] 96) = x := ⟨_, rfl⟩
          rw [hw_] at hn gq gb ho hU hRd ⊢
          clear hw_
          rw [hN]
          replace hN := Lib.hid hN
          refine wpAnyH_ready (rs := [8]) (by kernel_rfl) (by simp) ?_
          refine (AllReadyH.cons (o := ?oov13_0) ?hov13_0 ?hsv13_0 AllReadyH.nil)
          case hov13_0 => (simp only [List.getElem?_toArray, List.getElem?_cons_succ, List.getElem?_cons_zero]; rfl)
          case hsv13_0 =>
            intro K hK
            go_simp
            (go_at_call 13; (refine (c4.out _ hRd).mono ?_); rintro en w8 ⟨rfl, hR_, hu_⟩)
            replace gq := hu_.cell gq (by dsimp only; omega)
            replace gb := hu_.heap gb (by omega)
            replace ho := hu_.owns ho (fun j hj e => by have := own_ge ho hj; omega)
            replace hU := hU.trans hu_ fun _ _ h => h
            replace hn := hu_.heap hn (by omega)
            replace hRd := hR_
            clear hR_ hu_
            try go_wp2_with fail
            refine hK.out _ _ (by exact gq) (fun hHeld => ?_)
            clear hK K
            try simp only [Act.put, List.setIfInBounds_toArray, List.set_cons_zero, List.set_cons_succ]
            (refine wpAnyH_take (i := 9) (oi := ?oi_v14) (v := ?v_v14) ?ho_v14 ?hs_v14 ?hf_v14 ?hr_v14 ?hQ_v14 ?hy_v14 ?hS_v14 ?rest_v14; (case hr_v14 => kernel_rfl); (case hf_v14 => kernel_rfl); (case hs_v14 => kernel_rfl); (case ho_v14 => (simp only [List.getElem?_toArray, List.getElem?_cons_succ, List.getElem?_cons_zero]; rfl)); (case hS_v14 => assumption); (case hQ_v14 => exact fun _ _ _ h => h); (case hy_v14 => (refine Or.inl ⟨by rfl, ?_⟩; (intro w hSw; (try dsimp only at hSw); go_simp) <;> with_reducible rfl)); (try simp only [Act.put, List.setIfInBounds_toArray, List.set_cons_zero, List.set_cons_succ]))
            refine wpAnyH_ready (rs := [11]) (by kernel_rfl) (by simp) ?_
            refine (AllReadyH.cons (o := ?oov15_0) ?hov15_0 ?hsv15_0 AllReadyH.nil)
            case hov15_0 => (simp only [List.getElem?_toArray, List.getElem?_cons_succ, List.getElem?_cons_zero]; rfl)
            case hsv15_0 =>
              intro K hK
              refine storeB_step rfl 96 _ _ rfl N #[.string ⟨n1.toArray⟩, .int .i64 n2, .bool n3, .int .i64 hs, .int .i64 hr, .int .i64 hi, .bool hg, .bool hn_] _ _ rfl rfl hn rfl hsz.out (by simp [Value.oneCell']) ?_
              intro w9 hb9 hu9
              replace gq := hu9.cell gq (by dsimp only; omega)
              refine hK.out _ _ (by exact gq) (fun hHeld => ?_)
              clear hK K
              try simp only [Act.put, List.setIfInBounds_toArray, List.set_cons_zero, List.set_cons_succ]
              refine wpAnyH_done (by kernel_rfl) ?_ _
              replace gb := hu9.heap gb (by omega)
              have hnv : ∀ j, At v j → j ≠ N := fun j hj e => by have := hownlt_ j hj; omega
              replace ho := hu9.owns ho hnv
              replace hRd := hRd.upd hu9 fun j _ hj => .inr (by omega)
              replace hU := hU.trans hu9 fun j hj e => by omega
              clear hu9 hn hnv hownlt_
              have z : w9.cell? ⟨o, 0, none⟩ = some v := (cells_of gb).1 0
              have zf := (cells_of gb).2 0
              obtain ⟨_, va, vc, rfl, -⟩ := id (has_of_owns ho)
              have hge : ∀ j, At (.slice va l.length vc) j → base ≤ j := fun j hj => own_ge ho hj
              have hWz : w.heap.size ≤ w9.heap.size := hU.size
              go_wp2_with (first | ((with_reducible (show wpList _ _ _ (⟨_, Op.load _ _, _, _, _, _⟩ :: _) _ _)); refine loadB_list rfl 96 _ rfl N #[.string ⟨n1.toArray⟩, .int .i64 n2, .bool n3, .int .i64 hs, .int .i64 hr, .int .i64 hi, .bool hg, .bool hn_] _ _ rfl hb9 Tryz.underlying96 rfl hsz.out ?_) | (at_builtin; go_must (refine wpList_app1n rfl _ _ 33 rfl base 96 (.agg #[.string ⟨#[]⟩, .int .i64 0, .bool false, .int .i64 0, .int .i64 0, .int .i64 0, .bool false, .bool false]) 8 64 Tryz.underlying33 hii.out rfl (.slice va l.length vc) l.length (l.flatMap lnC) rfl ho [.string ⟨n1.toArray⟩, .int .i64 n2, .bool n3, .int .i64 hs, .int .i64 hr, .int .i64 hi, .bool hg, .bool hn_] w9.heap.size rfl rfl rfl (by simp [Value.oneCell']) (by unfold maxLen; omega) (by omega) (by omega) ?_)))
              intro v6 w6 ho6 hu6 hf6
              have gb6 := hu6.heap gb (fun h => by have := hge _ h; omega)
              obtain ⟨_, aa, cc, rfl, -⟩ := id (has_of_owns ho6)
              have z6 : w6.cell? ⟨o, 0, none⟩ = some (.slice va l.length vc) := (cells_of gb6).1 0
              have zf6 := (cells_of gb6).2 0
              have us := Upd.setCell (S := fun k => k = o) w6 (a := ⟨o, 0, none⟩) rfl (.slice aa (l.length + 1) cc)
              have hb7 : (w6.setCell ⟨o, 0, none⟩ (.slice aa (l.length + 1) cc)).heap[o]? = some (.cells (lnsC (.slice aa (l.length + 1) cc)) 35 (0, 0)) := set_blk (j := 0) gb6 (.slice aa (l.length + 1) cc)
              have ho7 := us.owns ho6 (fun j hj e => by have := own_ge ho6 hj; omega)
              have ho8 : (w6.setCell ⟨o, 0, none⟩ (.slice aa (l.length + 1) cc)).ownsRow base 96 8 (.slice aa (l.length + 1) cc) (l ++ [(⟨n1, n2, n3, ⟨hs, hr, hi, hg, hn_⟩⟩ : Ln)]).length ((l ++ [(⟨n1, n2, n3, ⟨hs, hr, hi, hg, hn_⟩⟩ : Ln)]).flatMap lnC) := by rw [List.length_append, List.flatMap_append]; exact ho7
              have hR8 : RdAt (w6.setCell ⟨o, 0, none⟩ (.slice aa (l.length + 1) cc)) r L s ra re := (hRd.upd hu6 fun j _ hj => .inr (by have := hge j hj; omega)).upd us fun j _ hj => .inr (by omega)
              have hU8 : Upd (fun k => k = r ∨ k = o ∨ At (.slice va l.length vc) k) w (w6.setCell ⟨o, 0, none⟩ (.slice aa (l.length + 1) cc)) := ((hU.mono fun _ _ h => .inl h).trans hu6 fun j hj h => .inr (.inr h)).trans us fun _ _ h => .inr (.inl h)
              have hg9 := Lib.hid (hfin.out _ _ hR8 hb7 ho8 hU8 (fun k hk => (hf6 k hk).imp (fun h => h) fun h => by omega))
              clear hR8 hb7 ho8 hU8 ho7 us gb6 hu6 ho6 hf6 hRd gb ho hU gq hb9 z zf
              go_wp2_with fail
              go_returns
              exact hg9.out
      case hsv8_1 =>
        intro K hK
        go_simp
        have hal_ := Upd.alloc Non w2 (.cells #[.string ⟨#[]⟩, .int .i64 0, .bool false, .int .i64 0, .int .i64 0, .int .i64 0, .bool false, .bool false] 96)
        have hn := heap_alloc_new w2 (.cells #[.string ⟨#[]⟩, .int .i64 0, .bool false, .int .i64 0, .int .i64 0, .int .i64 0, .bool false, .bool false] 96)
        have hsz_ := hU.size
        have hownlt_ : ∀ k, At v k → k < (w2).heap.size := fun k hk => own_lt ho hk
        obtain ⟨N, hN⟩ : ∃ N, (w2).heap.size = N := ⟨_, rfl⟩
        rw [hN] at hn hsz_ hownlt_
        replace gq := hal_.cell gq fun h => h
        replace gb := hal_.heap gb fun h => h
        replace ho := hal_.owns ho fun _ _ h => h
        replace hU := hU.trans hal_ fun _ _ h => h.elim
        replace hRd := hRd.non hal_
        clear hal_
        refine hK.out _ _ (by exact gq) (fun hHeld => ?_)
        clear hK K
        try simp only [Act.put, List.setIfInBounds_toArray, List.set_cons_zero, List.set_cons_succ]
        obtain ⟨w10, hw_⟩ : ∃ x, World.alloc w2 (.cells #[.string ⟨#[]⟩, .int .i64 0, .bool false, .int .i64 0, .int .i64 0, .int .i64 0, .bool false, .bool false] 96) = x := ⟨_, rfl⟩
        rw [hw_] at hn gq gb ho hU hRd ⊢
        clear hw_
        rw [hN]
        replace hN := Lib.hid hN
        refine wpAnyH_ready (rs := [6]) (by kernel_rfl) (by simp) ?_
        refine (AllReadyH.cons (o := ?oov16_0) ?hov16_0 ?hsv16_0 AllReadyH.nil)
        case hov16_0 => (simp only [List.getElem?_toArray, List.getElem?_cons_succ, List.getElem?_cons_zero]; rfl)
        case hsv16_0 =>
          intro K hK
          go_simp
          (go_at_call 15; (refine (c3.out _ hRd).mono ?_); rintro en w11 ⟨rfl, hR_, hu_⟩)
          replace gq := hu_.cell gq (by dsimp only; omega)
          replace gb := hu_.heap gb (by omega)
          replace ho := hu_.owns ho (fun j hj e => by have := own_ge ho hj; omega)
          replace hU := hU.trans hu_ fun _ _ h => h
          replace hn := hu_.heap hn (by omega)
          replace hRd := hR_
          clear hR_ hu_
          try go_wp2_with fail
          refine hK.out _ _ (by exact gq) (fun hHeld => ?_)
          clear hK K
          try simp only [Act.put, List.setIfInBounds_toArray, List.set_cons_zero, List.set_cons_succ]
          refine wpAnyH_ready (rs := [8]) (by kernel_rfl) (by simp) ?_
          refine (AllReadyH.cons (o := ?oov17_0) ?hov17_0 ?hsv17_0 AllReadyH.nil)
          case hov17_0 => (simp only [List.getElem?_toArray, List.getElem?_cons_succ, List.getElem?_cons_zero]; rfl)
          case hsv17_0 =>
            intro K hK
            go_simp
            (go_at_call 13; (refine (c4.out _ hRd).mono ?_); rintro en w12 ⟨rfl, hR_, hu_⟩)
            replace gq := hu_.cell gq (by dsimp only; omega)
            replace gb := hu_.heap gb (by omega)
            replace ho := hu_.owns ho (fun j hj e => by have := own_ge ho hj; omega)
            replace hU := hU.trans hu_ fun _ _ h => h
            replace hn := hu_.heap hn (by omega)
            replace hRd := hR_
            clear hR_ hu_
            try go_wp2_with fail
            refine hK.out _ _ (by exact gq) (fun hHeld => ?_)
            clear hK K
            try simp only [Act.put, List.setIfInBounds_toArray, List.set_cons_zero, List.set_cons_succ]
            (refine wpAnyH_take (i := 9) (oi := ?oi_v18) (v := ?v_v18) ?ho_v18 ?hs_v18 ?hf_v18 ?hr_v18 ?hQ_v18 ?hy_v18 ?hS_v18 ?rest_v18; (case hr_v18 => kernel_rfl); (case hf_v18 => kernel_rfl); (case hs_v18 => kernel_rfl); (case ho_v18 => (simp only [List.getElem?_toArray, List.getElem?_cons_succ, List.getElem?_cons_zero]; rfl)); (case hS_v18 => assumption); (case hQ_v18 => exact fun _ _ _ h => h); (case hy_v18 => (refine Or.inl ⟨by rfl, ?_⟩; (intro w hSw; (try dsimp only at hSw); go_simp) <;> with_reducible rfl)); (try simp only [Act.put, List.setIfInBounds_toArray, List.set_cons_zero, List.set_cons_succ]))
            refine wpAnyH_ready (rs := [11]) (by kernel_rfl) (by simp) ?_
            refine (AllReadyH.cons (o := ?oov19_0) ?hov19_0 ?hsv19_0 AllReadyH.nil)
            case hov19_0 => (simp only [List.getElem?_toArray, List.getElem?_cons_succ, List.getElem?_cons_zero]; rfl)
            case hsv19_0 =>
              intro K hK
              refine storeB_step rfl 96 _ _ rfl N #[.string ⟨n1.toArray⟩, .int .i64 n2, .bool n3, .int .i64 hs, .int .i64 hr, .int .i64 hi, .bool hg, .bool hn_] _ _ rfl rfl hn rfl hsz.out (by simp [Value.oneCell']) ?_
              intro w13 hb9 hu9
              replace gq := hu9.cell gq (by dsimp only; omega)
              refine hK.out _ _ (by exact gq) (fun hHeld => ?_)
              clear hK K
              try simp only [Act.put, List.setIfInBounds_toArray, List.set_cons_zero, List.set_cons_succ]
              refine wpAnyH_done (by kernel_rfl) ?_ _
              replace gb := hu9.heap gb (by omega)
              have hnv : ∀ j, At v j → j ≠ N := fun j hj e => by have := hownlt_ j hj; omega
              replace ho := hu9.owns ho hnv
              replace hRd := hRd.upd hu9 fun j _ hj => .inr (by omega)
              replace hU := hU.trans hu9 fun j hj e => by omega
              clear hu9 hn hnv hownlt_
              have z : w13.cell? ⟨o, 0, none⟩ = some v := (cells_of gb).1 0
              have zf := (cells_of gb).2 0
              obtain ⟨_, va, vc, rfl, -⟩ := id (has_of_owns ho)
              have hge : ∀ j, At (.slice va l.length vc) j → base ≤ j := fun j hj => own_ge ho hj
              have hWz : w.heap.size ≤ w13.heap.size := hU.size
              go_wp2_with (first | ((with_reducible (show wpList _ _ _ (⟨_, Op.load _ _, _, _, _, _⟩ :: _) _ _)); refine loadB_list rfl 96 _ rfl N #[.string ⟨n1.toArray⟩, .int .i64 n2, .bool n3, .int .i64 hs, .int .i64 hr, .int .i64 hi, .bool hg, .bool hn_] _ _ rfl hb9 Tryz.underlying96 rfl hsz.out ?_) | (at_builtin; go_must (refine wpList_app1n rfl _ _ 33 rfl base 96 (.agg #[.string ⟨#[]⟩, .int .i64 0, .bool false, .int .i64 0, .int .i64 0, .int .i64 0, .bool false, .bool false]) 8 64 Tryz.underlying33 hii.out rfl (.slice va l.length vc) l.length (l.flatMap lnC) rfl ho [.string ⟨n1.toArray⟩, .int .i64 n2, .bool n3, .int .i64 hs, .int .i64 hr, .int .i64 hi, .bool hg, .bool hn_] w13.heap.size rfl rfl rfl (by simp [Value.oneCell']) (by unfold maxLen; omega) (by omega) (by omega) ?_)))
              intro v6 w6 ho6 hu6 hf6
              have gb6 := hu6.heap gb (fun h => by have := hge _ h; omega)
              obtain ⟨_, aa, cc, rfl, -⟩ := id (has_of_owns ho6)
              have z6 : w6.cell? ⟨o, 0, none⟩ = some (.slice va l.length vc) := (cells_of gb6).1 0
              have zf6 := (cells_of gb6).2 0
              have us := Upd.setCell (S := fun k => k = o) w6 (a := ⟨o, 0, none⟩) rfl (.slice aa (l.length + 1) cc)
              have hb7 : (w6.setCell ⟨o, 0, none⟩ (.slice aa (l.length + 1) cc)).heap[o]? = some (.cells (lnsC (.slice aa (l.length + 1) cc)) 35 (0, 0)) := set_blk (j := 0) gb6 (.slice aa (l.length + 1) cc)
              have ho7 := us.owns ho6 (fun j hj e => by have := own_ge ho6 hj; omega)
              have ho8 : (w6.setCell ⟨o, 0, none⟩ (.slice aa (l.length + 1) cc)).ownsRow base 96 8 (.slice aa (l.length + 1) cc) (l ++ [(⟨n1, n2, n3, ⟨hs, hr, hi, hg, hn_⟩⟩ : Ln)]).length ((l ++ [(⟨n1, n2, n3, ⟨hs, hr, hi, hg, hn_⟩⟩ : Ln)]).flatMap lnC) := by rw [List.length_append, List.flatMap_append]; exact ho7
              have hR8 : RdAt (w6.setCell ⟨o, 0, none⟩ (.slice aa (l.length + 1) cc)) r L s ra re := (hRd.upd hu6 fun j _ hj => .inr (by have := hge j hj; omega)).upd us fun j _ hj => .inr (by omega)
              have hU8 : Upd (fun k => k = r ∨ k = o ∨ At (.slice va l.length vc) k) w (w6.setCell ⟨o, 0, none⟩ (.slice aa (l.length + 1) cc)) := ((hU.mono fun _ _ h => .inl h).trans hu6 fun j hj h => .inr (.inr h)).trans us fun _ _ h => .inr (.inl h)
              have hg9 := Lib.hid (hfin.out _ _ hR8 hb7 ho8 hU8 (fun k hk => (hf6 k hk).imp (fun h => h) fun h => by omega))
              clear hR8 hb7 ho8 hU8 ho7 us gb6 hu6 ho6 hf6 hRd gb ho hU gq hb9 z zf
              go_wp2_with fail
              go_returns
              exact hg9.out
    case hsv7_1 =>
      intro K hK
      go_simp
      have hal_ := Upd.alloc Non w1 (.cells #[.string ⟨#[]⟩, .int .i64 0, .bool false, .int .i64 0, .int .i64 0, .int .i64 0, .bool false, .bool false] 96)
      have hn := heap_alloc_new w1 (.cells #[.string ⟨#[]⟩, .int .i64 0, .bool false, .int .i64 0, .int .i64 0, .int .i64 0, .bool false, .bool false] 96)
      have hsz_ := hU.size
      have hownlt_ : ∀ k, At v k → k < (w1).heap.size := fun k hk => own_lt ho hk
      obtain ⟨N, hN⟩ : ∃ N, (w1).heap.size = N := ⟨_, rfl⟩
      rw [hN] at hn hsz_ hownlt_
      replace gq := hal_.cell gq fun h => h
      replace gb := hal_.heap gb fun h => h
      replace ho := hal_.owns ho fun _ _ h => h
      replace hU := hU.trans hal_ fun _ _ h => h.elim
      replace hRd := hRd.non hal_
      clear hal_
      refine hK.out _ _ (by exact gq) (fun hHeld => ?_)
      clear hK K
      try simp only [Act.put, List.setIfInBounds_toArray, List.set_cons_zero, List.set_cons_succ]
      obtain ⟨w14, hw_⟩ : ∃ x, World.alloc w1 (.cells #[.string ⟨#[]⟩, .int .i64 0, .bool false, .int .i64 0, .int .i64 0, .int .i64 0, .bool false, .bool false] 96) = x := ⟨_, rfl⟩
      rw [hw_] at hn gq gb ho hU hRd ⊢
      clear hw_
      rw [hN]
      replace hN := Lib.hid hN
      refine wpAnyH_ready (rs := [4]) (by kernel_rfl) (by simp) ?_
      refine (AllReadyH.cons (o := ?oov20_0) ?hov20_0 ?hsv20_0 AllReadyH.nil)
      case hov20_0 => (simp only [List.getElem?_toArray, List.getElem?_cons_succ, List.getElem?_cons_zero]; rfl)
      case hsv20_0 =>
        intro K hK
        go_simp
        (go_at_call 10; (refine (c2.out _ hRd).mono ?_); rintro en w15 ⟨rfl, hR_, hu_⟩)
        replace gq := hu_.cell gq (by dsimp only; omega)
        replace gb := hu_.heap gb (by omega)
        replace ho := hu_.owns ho (fun j hj e => by have := own_ge ho hj; omega)
        replace hU := hU.trans hu_ fun _ _ h => h
        replace hn := hu_.heap hn (by omega)
        replace hRd := hR_
        clear hR_ hu_
        try go_wp2_with fail
        refine hK.out _ _ (by exact gq) (fun hHeld => ?_)
        clear hK K
        try simp only [Act.put, List.setIfInBounds_toArray, List.set_cons_zero, List.set_cons_succ]
        refine wpAnyH_ready (rs := [6]) (by kernel_rfl) (by simp) ?_
        refine (AllReadyH.cons (o := ?oov21_0) ?hov21_0 ?hsv21_0 AllReadyH.nil)
        case hov21_0 => (simp only [List.getElem?_toArray, List.getElem?_cons_succ, List.getElem?_cons_zero]; rfl)
        case hsv21_0 =>
          intro K hK
          go_simp
          (go_at_call 15; (refine (c3.out _ hRd).mono ?_); rintro en w16 ⟨rfl, hR_, hu_⟩)
          replace gq := hu_.cell gq (by dsimp only; omega)
          replace gb := hu_.heap gb (by omega)
          replace ho := hu_.owns ho (fun j hj e => by have := own_ge ho hj; omega)
          replace hU := hU.trans hu_ fun _ _ h => h
          replace hn := hu_.heap hn (by omega)
          replace hRd := hR_
          clear hR_ hu_
          try go_wp2_with fail
          refine hK.out _ _ (by exact gq) (fun hHeld => ?_)
          clear hK K
          try simp only [Act.put, List.setIfInBounds_toArray, List.set_cons_zero, List.set_cons_succ]
          refine wpAnyH_ready (rs := [8]) (by kernel_rfl) (by simp) ?_
          refine (AllReadyH.cons (o := ?oov22_0) ?hov22_0 ?hsv22_0 AllReadyH.nil)
          case hov22_0 => (simp only [List.getElem?_toArray, List.getElem?_cons_succ, List.getElem?_cons_zero]; rfl)
          case hsv22_0 =>
            intro K hK
            go_simp
            (go_at_call 13; (refine (c4.out _ hRd).mono ?_); rintro en w17 ⟨rfl, hR_, hu_⟩)
            replace gq := hu_.cell gq (by dsimp only; omega)
            replace gb := hu_.heap gb (by omega)
            replace ho := hu_.owns ho (fun j hj e => by have := own_ge ho hj; omega)
            replace hU := hU.trans hu_ fun _ _ h => h
            replace hn := hu_.heap hn (by omega)
            replace hRd := hR_
            clear hR_ hu_
            try go_wp2_with fail
            refine hK.out _ _ (by exact gq) (fun hHeld => ?_)
            clear hK K
            try simp only [Act.put, List.setIfInBounds_toArray, List.set_cons_zero, List.set_cons_succ]
            (refine wpAnyH_take (i := 9) (oi := ?oi_v23) (v := ?v_v23) ?ho_v23 ?hs_v23 ?hf_v23 ?hr_v23 ?hQ_v23 ?hy_v23 ?hS_v23 ?rest_v23; (case hr_v23 => kernel_rfl); (case hf_v23 => kernel_rfl); (case hs_v23 => kernel_rfl); (case ho_v23 => (simp only [List.getElem?_toArray, List.getElem?_cons_succ, List.getElem?_cons_zero]; rfl)); (case hS_v23 => assumption); (case hQ_v23 => exact fun _ _ _ h => h); (case hy_v23 => (refine Or.inl ⟨by rfl, ?_⟩; (intro w hSw; (try dsimp only at hSw); go_simp) <;> with_reducible rfl)); (try simp only [Act.put, List.setIfInBounds_toArray, List.set_cons_zero, List.set_cons_succ]))
            refine wpAnyH_ready (rs := [11]) (by kernel_rfl) (by simp) ?_
            refine (AllReadyH.cons (o := ?oov24_0) ?hov24_0 ?hsv24_0 AllReadyH.nil)
            case hov24_0 => (simp only [List.getElem?_toArray, List.getElem?_cons_succ, List.getElem?_cons_zero]; rfl)
            case hsv24_0 =>
              intro K hK
              refine storeB_step rfl 96 _ _ rfl N #[.string ⟨n1.toArray⟩, .int .i64 n2, .bool n3, .int .i64 hs, .int .i64 hr, .int .i64 hi, .bool hg, .bool hn_] _ _ rfl rfl hn rfl hsz.out (by simp [Value.oneCell']) ?_
              intro w18 hb9 hu9
              replace gq := hu9.cell gq (by dsimp only; omega)
              refine hK.out _ _ (by exact gq) (fun hHeld => ?_)
              clear hK K
              try simp only [Act.put, List.setIfInBounds_toArray, List.set_cons_zero, List.set_cons_succ]
              refine wpAnyH_done (by kernel_rfl) ?_ _
              replace gb := hu9.heap gb (by omega)
              have hnv : ∀ j, At v j → j ≠ N := fun j hj e => by have := hownlt_ j hj; omega
              replace ho := hu9.owns ho hnv
              replace hRd := hRd.upd hu9 fun j _ hj => .inr (by omega)
              replace hU := hU.trans hu9 fun j hj e => by omega
              clear hu9 hn hnv hownlt_
              have z : w18.cell? ⟨o, 0, none⟩ = some v := (cells_of gb).1 0
              have zf := (cells_of gb).2 0
              obtain ⟨_, va, vc, rfl, -⟩ := id (has_of_owns ho)
              have hge : ∀ j, At (.slice va l.length vc) j → base ≤ j := fun j hj => own_ge ho hj
              have hWz : w.heap.size ≤ w18.heap.size := hU.size
              go_wp2_with (first | ((with_reducible (show wpList _ _ _ (⟨_, Op.load _ _, _, _, _, _⟩ :: _) _ _)); refine loadB_list rfl 96 _ rfl N #[.string ⟨n1.toArray⟩, .int .i64 n2, .bool n3, .int .i64 hs, .int .i64 hr, .int .i64 hi, .bool hg, .bool hn_] _ _ rfl hb9 Tryz.underlying96 rfl hsz.out ?_) | (at_builtin; go_must (refine wpList_app1n rfl _ _ 33 rfl base 96 (.agg #[.string ⟨#[]⟩, .int .i64 0, .bool false, .int .i64 0, .int .i64 0, .int .i64 0, .bool false, .bool false]) 8 64 Tryz.underlying33 hii.out rfl (.slice va l.length vc) l.length (l.flatMap lnC) rfl ho [.string ⟨n1.toArray⟩, .int .i64 n2, .bool n3, .int .i64 hs, .int .i64 hr, .int .i64 hi, .bool hg, .bool hn_] w18.heap.size rfl rfl rfl (by simp [Value.oneCell']) (by unfold maxLen; omega) (by omega) (by omega) ?_)))
              intro v6 w6 ho6 hu6 hf6
              have gb6 := hu6.heap gb (fun h => by have := hge _ h; omega)
              obtain ⟨_, aa, cc, rfl, -⟩ := id (has_of_owns ho6)
              have z6 : w6.cell? ⟨o, 0, none⟩ = some (.slice va l.length vc) := (cells_of gb6).1 0
              have zf6 := (cells_of gb6).2 0
              have us := Upd.setCell (S := fun k => k = o) w6 (a := ⟨o, 0, none⟩) rfl (.slice aa (l.length + 1) cc)
              have hb7 : (w6.setCell ⟨o, 0, none⟩ (.slice aa (l.length + 1) cc)).heap[o]? = some (.cells (lnsC (.slice aa (l.length + 1) cc)) 35 (0, 0)) := set_blk (j := 0) gb6 (.slice aa (l.length + 1) cc)
              have ho7 := us.owns ho6 (fun j hj e => by have := own_ge ho6 hj; omega)
              have ho8 : (w6.setCell ⟨o, 0, none⟩ (.slice aa (l.length + 1) cc)).ownsRow base 96 8 (.slice aa (l.length + 1) cc) (l ++ [(⟨n1, n2, n3, ⟨hs, hr, hi, hg, hn_⟩⟩ : Ln)]).length ((l ++ [(⟨n1, n2, n3, ⟨hs, hr, hi, hg, hn_⟩⟩ : Ln)]).flatMap lnC) := by rw [List.length_append, List.flatMap_append]; exact ho7
              have hR8 : RdAt (w6.setCell ⟨o, 0, none⟩ (.slice aa (l.length + 1) cc)) r L s ra re := (hRd.upd hu6 fun j _ hj => .inr (by have := hge j hj; omega)).upd us fun j _ hj => .inr (by omega)
              have hU8 : Upd (fun k => k = r ∨ k = o ∨ At (.slice va l.length vc) k) w (w6.setCell ⟨o, 0, none⟩ (.slice aa (l.length + 1) cc)) := ((hU.mono fun _ _ h => .inl h).trans hu6 fun j hj h => .inr (.inr h)).trans us fun _ _ h => .inr (.inl h)
              have hg9 := Lib.hid (hfin.out _ _ hR8 hb7 ho8 hU8 (fun k hk => (hf6 k hk).imp (fun h => h) fun h => by omega))
              clear hR8 hb7 ho8 hU8 ho7 us gb6 hu6 ho6 hf6 hRd gb ho hU gq hb9 z zf
              go_wp2_with fail
              go_returns
              exact hg9.out
  case hsv6_1 =>
    intro K hK
    go_simp
    have hal_ := Upd.alloc Non w0_ (.cells #[.string ⟨#[]⟩, .int .i64 0, .bool false, .int .i64 0, .int .i64 0, .int .i64 0, .bool false, .bool false] 96)
    have hn := heap_alloc_new w0_ (.cells #[.string ⟨#[]⟩, .int .i64 0, .bool false, .int .i64 0, .int .i64 0, .int .i64 0, .bool false, .bool false] 96)
    have hsz_ := hU.size
    have hownlt_ : ∀ k, At v k → k < (w0_).heap.size := fun k hk => own_lt ho hk
    obtain ⟨N, hN⟩ : ∃ N, (w0_).heap.size = N := ⟨_, rfl⟩
    rw [hN] at hn hsz_ hownlt_
    replace gq := hal_.cell gq fun h => h
    replace gb := hal_.heap gb fun h => h
    replace ho := hal_.owns ho fun _ _ h => h
    replace hU := hU.trans hal_ fun _ _ h => h.elim
    replace hRd := hRd.non hal_
    clear hal_
    refine hK.out _ _ (by exact gq) (fun hHeld => ?_)
    clear hK K
    try simp only [Act.put, List.setIfInBounds_toArray, List.set_cons_zero, List.set_cons_succ]
    obtain ⟨w19, hw_⟩ : ∃ x, World.alloc w0_ (.cells #[.string ⟨#[]⟩, .int .i64 0, .bool false, .int .i64 0, .int .i64 0, .int .i64 0, .bool false, .bool false] 96) = x := ⟨_, rfl⟩
    rw [hw_] at hn gq gb ho hU hRd ⊢
    clear hw_
    rw [hN]
    replace hN := Lib.hid hN
    refine wpAnyH_ready (rs := [1]) (by kernel_rfl) (by simp) ?_
    refine (AllReadyH.cons (o := ?oov25_0) ?hov25_0 ?hsv25_0 AllReadyH.nil)
    case hov25_0 => (simp only [List.getElem?_toArray, List.getElem?_cons_succ, List.getElem?_cons_zero]; rfl)
    case hsv25_0 =>
      intro K hK
      go_simp
      (go_at_call 11; (refine (c1.out _ hRd).mono ?_); rintro en w20 ⟨rfl, hR_, hu_⟩)
      replace gq := hu_.cell gq (by dsimp only; omega)
      replace gb := hu_.heap gb (by omega)
      replace ho := hu_.owns ho (fun j hj e => by have := own_ge ho hj; omega)
      replace hU := hU.trans hu_ fun _ _ h => h
      replace hn := hu_.heap hn (by omega)
      replace hRd := hR_
      clear hR_ hu_
      try go_wp2_with fail
      refine hK.out _ _ (by exact gq) (fun hHeld => ?_)
      clear hK K
      try simp only [Act.put, List.setIfInBounds_toArray, List.set_cons_zero, List.set_cons_succ]
      refine wpAnyH_ready (rs := [4]) (by kernel_rfl) (by simp) ?_
      refine (AllReadyH.cons (o := ?oov26_0) ?hov26_0 ?hsv26_0 AllReadyH.nil)
      case hov26_0 => (simp only [List.getElem?_toArray, List.getElem?_cons_succ, List.getElem?_cons_zero]; rfl)
      case hsv26_0 =>
        intro K hK
        go_simp
        (go_at_call 10; (refine (c2.out _ hRd).mono ?_); rintro en w21 ⟨rfl, hR_, hu_⟩)
        replace gq := hu_.cell gq (by dsimp only; omega)
        replace gb := hu_.heap gb (by omega)
        replace ho := hu_.owns ho (fun j hj e => by have := own_ge ho hj; omega)
        replace hU := hU.trans hu_ fun _ _ h => h
        replace hn := hu_.heap hn (by omega)
        replace hRd := hR_
        clear hR_ hu_
        try go_wp2_with fail
        refine hK.out _ _ (by exact gq) (fun hHeld => ?_)
        clear hK K
        try simp only [Act.put, List.setIfInBounds_toArray, List.set_cons_zero, List.set_cons_succ]
        refine wpAnyH_ready (rs := [6]) (by kernel_rfl) (by simp) ?_
        refine (AllReadyH.cons (o := ?oov27_0) ?hov27_0 ?hsv27_0 AllReadyH.nil)
        case hov27_0 => (simp only [List.getElem?_toArray, List.getElem?_cons_succ, List.getElem?_cons_zero]; rfl)
        case hsv27_0 =>
          intro K hK
          go_simp
          (go_at_call 15; (refine (c3.out _ hRd).mono ?_); rintro en w22 ⟨rfl, hR_, hu_⟩)
          replace gq := hu_.cell gq (by dsimp only; omega)
          replace gb := hu_.heap gb (by omega)
          replace ho := hu_.owns ho (fun j hj e => by have := own_ge ho hj; omega)
          replace hU := hU.trans hu_ fun _ _ h => h
          replace hn := hu_.heap hn (by omega)
          replace hRd := hR_
          clear hR_ hu_
          try go_wp2_with fail
          refine hK.out _ _ (by exact gq) (fun hHeld => ?_)
          clear hK K
          try simp only [Act.put, List.setIfInBounds_toArray, List.set_cons_zero, List.set_cons_succ]
          refine wpAnyH_ready (rs := [8]) (by kernel_rfl) (by simp) ?_
          refine (AllReadyH.cons (o := ?oov28_0) ?hov28_0 ?hsv28_0 AllReadyH.nil)
          case hov28_0 => (simp only [List.getElem?_toArray, List.getElem?_cons_succ, List.getElem?_cons_zero]; rfl)
          case hsv28_0 =>
            intro K hK
            go_simp
            (go_at_call 13; (refine (c4.out _ hRd).mono ?_); rintro en w23 ⟨rfl, hR_, hu_⟩)
            replace gq := hu_.cell gq (by dsimp only; omega)
            replace gb := hu_.heap gb (by omega)
            replace ho := hu_.owns ho (fun j hj e => by have := own_ge ho hj; omega)
            replace hU := hU.trans hu_ fun _ _ h => h
            replace hn := hu_.heap hn (by omega)
            replace hRd := hR_
            clear hR_ hu_
            try go_wp2_with fail
            refine hK.out _ _ (by exact gq) (fun hHeld => ?_)
            clear hK K
            try simp only [Act.put, List.setIfInBounds_toArray, List.set_cons_zero, List.set_cons_succ]
            (refine wpAnyH_take (i := 9) (oi := ?oi_v29) (v := ?v_v29) ?ho_v29 ?hs_v29 ?hf_v29 ?hr_v29 ?hQ_v29 ?hy_v29 ?hS_v29 ?rest_v29; (case hr_v29 => kernel_rfl); (case hf_v29 => kernel_rfl); (case hs_v29 => kernel_rfl); (case ho_v29 => (simp only [List.getElem?_toArray, List.getElem?_cons_succ, List.getElem?_cons_zero]; rfl)); (case hS_v29 => assumption); (case hQ_v29 => exact fun _ _ _ h => h); (case hy_v29 => (refine Or.inl ⟨by rfl, ?_⟩; (intro w hSw; (try dsimp only at hSw); go_simp) <;> with_reducible rfl)); (try simp only [Act.put, List.setIfInBounds_toArray, List.set_cons_zero, List.set_cons_succ]))
            refine wpAnyH_ready (rs := [11]) (by kernel_rfl) (by simp) ?_
            refine (AllReadyH.cons (o := ?oov30_0) ?hov30_0 ?hsv30_0 AllReadyH.nil)
            case hov30_0 => (simp only [List.getElem?_toArray, List.getElem?_cons_succ, List.getElem?_cons_zero]; rfl)
            case hsv30_0 =>
              intro K hK
              refine storeB_step rfl 96 _ _ rfl N #[.string ⟨n1.toArray⟩, .int .i64 n2, .bool n3, .int .i64 hs, .int .i64 hr, .int .i64 hi, .bool hg, .bool hn_] _ _ rfl rfl hn rfl hsz.out (by simp [Value.oneCell']) ?_
              intro w24 hb9 hu9
              replace gq := hu9.cell gq (by dsimp only; omega)
              refine hK.out _ _ (by exact gq) (fun hHeld => ?_)
              clear hK K
              try simp only [Act.put, List.setIfInBounds_toArray, List.set_cons_zero, List.set_cons_succ]
              refine wpAnyH_done (by kernel_rfl) ?_ _
              replace gb := hu9.heap gb (by omega)
              have hnv : ∀ j, At v j → j ≠ N := fun j hj e => by have := hownlt_ j hj; omega
              replace ho := hu9.owns ho hnv
              replace hRd := hRd.upd hu9 fun j _ hj => .inr (by omega)
              replace hU := hU.trans hu9 fun j hj e => by omega
              clear hu9 hn hnv hownlt_
              have z : w24.cell? ⟨o, 0, none⟩ = some v := (cells_of gb).1 0
              have zf := (cells_of gb).2 0
              obtain ⟨_, va, vc, rfl, -⟩ := id (has_of_owns ho)
              have hge : ∀ j, At (.slice va l.length vc) j → base ≤ j := fun j hj => own_ge ho hj
              have hWz : w.heap.size ≤ w24.heap.size := hU.size
              go_wp2_with (first | ((with_reducible (show wpList _ _ _ (⟨_, Op.load _ _, _, _, _, _⟩ :: _) _ _)); refine loadB_list rfl 96 _ rfl N #[.string ⟨n1.toArray⟩, .int .i64 n2, .bool n3, .int .i64 hs, .int .i64 hr, .int .i64 hi, .bool hg, .bool hn_] _ _ rfl hb9 Tryz.underlying96 rfl hsz.out ?_) | (at_builtin; go_must (refine wpList_app1n rfl _ _ 33 rfl base 96 (.agg #[.string ⟨#[]⟩, .int .i64 0, .bool false, .int .i64 0, .int .i64 0, .int .i64 0, .bool false, .bool false]) 8 64 Tryz.underlying33 hii.out rfl (.slice va l.length vc) l.length (l.flatMap lnC) rfl ho [.string ⟨n1.toArray⟩, .int .i64 n2, .bool n3, .int .i64 hs, .int .i64 hr, .int .i64 hi, .bool hg, .bool hn_] w24.heap.size rfl rfl rfl (by simp [Value.oneCell']) (by unfold maxLen; omega) (by omega) (by omega) ?_)))
              intro v6 w6 ho6 hu6 hf6
              have gb6 := hu6.heap gb (fun h => by have := hge _ h; omega)
              obtain ⟨_, aa, cc, rfl, -⟩ := id (has_of_owns ho6)
              have z6 : w6.cell? ⟨o, 0, none⟩ = some (.slice va l.length vc) := (cells_of gb6).1 0
              have zf6 := (cells_of gb6).2 0
              have us := Upd.setCell (S := fun k => k = o) w6 (a := ⟨o, 0, none⟩) rfl (.slice aa (l.length + 1) cc)
              have hb7 : (w6.setCell ⟨o, 0, none⟩ (.slice aa (l.length + 1) cc)).heap[o]? = some (.cells (lnsC (.slice aa (l.length + 1) cc)) 35 (0, 0)) := set_blk (j := 0) gb6 (.slice aa (l.length + 1) cc)
              have ho7 := us.owns ho6 (fun j hj e => by have := own_ge ho6 hj; omega)
              have ho8 : (w6.setCell ⟨o, 0, none⟩ (.slice aa (l.length + 1) cc)).ownsRow base 96 8 (.slice aa (l.length + 1) cc) (l ++ [(⟨n1, n2, n3, ⟨hs, hr, hi, hg, hn_⟩⟩ : Ln)]).length ((l ++ [(⟨n1, n2, n3, ⟨hs, hr, hi, hg, hn_⟩⟩ : Ln)]).flatMap lnC) := by rw [List.length_append, List.flatMap_append]; exact ho7
              have hR8 : RdAt (w6.setCell ⟨o, 0, none⟩ (.slice aa (l.length + 1) cc)) r L s ra re := (hRd.upd hu6 fun j _ hj => .inr (by have := hge j hj; omega)).upd us fun j _ hj => .inr (by omega)
              have hU8 : Upd (fun k => k = r ∨ k = o ∨ At (.slice va l.length vc) k) w (w6.setCell ⟨o, 0, none⟩ (.slice aa (l.length + 1) cc)) := ((hU.mono fun _ _ h => .inl h).trans hu6 fun j hj h => .inr (.inr h)).trans us fun _ _ h => .inr (.inl h)
              have hg9 := Lib.hid (hfin.out _ _ hR8 hb7 ho8 hU8 (fun k hk => (hf6 k hk).imp (fun h => h) fun h => by omega))
              clear hR8 hb7 ho8 hU8 ho7 us gb6 hu6 ho6 hf6 hRd gb ho hU gq hb9 z zf
              go_wp2_with fail
              go_returns
              exact hg9.out
end Go.Proofs.YtogekobpjjmnjaaGreat
