/- The closures of wire.ReadAnswer: uploads, parts (printed by gen/mkwaw.py). -/
import Derived.Test.YtogekobpjjmnjaaGreatMWaV
import Derived.Test.YtogekobpjjmnjaaGreatMWaD
namespace Go.Proofs.YtogekobpjjmnjaaGreat
open Go.RowKit Go.Amb
set_option linter.unusedVariables false
set_option linter.unusedSimpArgs false
set_option maxRecDepth 100000
variable {L : Nat}
attribute [local go_sem ↓] Go.wp_at_zero Go.wp_at_succ
set_option maxHeartbeats 8000000 in
theorem stUps (r : Nat) (s : List UInt8) (o base q : Nat) (RR : Rs) (S : Sl) (hqr : q ≠ r) (hqo : q ≠ o) (hro : r < o) (hob : o < base) (hqb : q < base) :
    StepOk 18 #[.pointer (some ⟨o, 0, none⟩), .pointer (some ⟨q, 0, none⟩)] r L s o base q 39 59 2 (fun v => rsC RR { S with u := v }) (rdUp wTx s) upC := by
  intro l a v w hR hA hq hbz hl
  obtain ⟨hb, ho⟩ := hA
  have c1 := Lib.hid (fun w h => wRText (L := L) r s a 0 w h)
  obtain ⟨X, hX⟩ : ∃ X, rdUp wTx s a 0 = X := ⟨_, rfl⟩
  rw [hX]
  unfold rdUp at hX
  generalize wTx s a 0 = x at *
  obtain ⟨a1, e1, n1⟩ := x
  dsimp only at *
  have c2 := Lib.hid (fun w h => fI64 (L := L) r s a1 e1 w h)
  generalize rdNum s a1 e1 8 = x at *
  obtain ⟨ra, re, n2⟩ := x
  dsimp only at *
  subst hX
  unfold rdV1 at c1

  obtain ⟨PR, hPR⟩ : ∃ PR, (fun (en : Ending) (w' : World) => en = .returned (.tuple #[]) ∧ ∃ v', RdAt w' r L s ra re ∧ Acc o base 39 59 2 (fun v => rsC RR { S with u := v }) ((l ++ [(⟨n1, n2⟩ : Up)]).flatMap upC) (l ++ [(⟨n1, n2⟩ : Up)]).length v' w' ∧ Upd (fun k => k = r ∨ k = o ∨ At v k) w w' ∧ (∀ k, At v' k → At v k ∨ w.heap.size ≤ k)) = PR := ⟨_, rfl⟩
  dsimp only
  rw [hPR]
  have hfin : Hid (∀ w' v', RdAt w' r L s ra re → w'.heap[o]? = some (.cells (rsC RR { S with u := v' }) 39 (0, 0)) → w'.ownsRow base 59 2 v' (l ++ [(⟨n1, n2⟩ : Up)]).length ((l ++ [(⟨n1, n2⟩ : Up)]).flatMap upC) → Upd (fun k => k = r ∨ k = o ∨ At v k) w w' → (∀ k, At v' k → At v k ∨ w.heap.size ≤ k) → PR (.returned (.tuple #[])) w') := Lib.hid (fun w' v' e1 e2 e3 e4 e5 => by rw [← hPR]; exact ⟨rfl, v', e1, ⟨e2, e3⟩, e4, e5⟩)
  clear hPR
  have hii : Hid ((Tryz.prog.info? 59).map (fun i => (i.zero, i.size, i.bytes)) = some (some (.agg #[.string ⟨#[]⟩, .int .i64 0]), 2, 24)) := Lib.hid (by kernel_rfl)
  have hRd : RdAt w.drew r L s a 0 := hR.non (Upd.drew _ _)
  have gq := (Upd.drew Non _).cell hq fun h => h
  have gb := (Upd.drew Non _).heap hb fun h => h
  replace ho := (Upd.drew Non w).owns ho fun _ _ h => h
  have hU : Upd (fun k => k = r) w w.drew := Upd.drew _ _
  have z : w.drew.cell? ⟨o, 22, none⟩ = some v := (cells_of gb).1 22
  have hwb := heap_lt hb
  clear hR hb hq
  go_enter Tryz.func18, Tryz.ntmps18
  go_wp2_with fail
  refine wp_region_held_drew (S := (fun w' => w'.cell? ⟨q, 0, none⟩ = some (.pointer (some ⟨r, 0, none⟩)))) (by kernel_rfl) (by exact gq) (fun hHeld => ?_)
  (refine wpAnyH_take (i := 0) (oi := ?oi_u1) (v := ?v_u1) ?ho_u1 ?hs_u1 ?hf_u1 ?hr_u1 ?hQ_u1 ?hy_u1 ?hS_u1 ?rest_u1; (case hr_u1 => kernel_rfl); (case hf_u1 => kernel_rfl); (case hs_u1 => kernel_rfl); (case ho_u1 => (simp only [List.getElem?_toArray, List.getElem?_cons_succ, List.getElem?_cons_zero]; rfl)); (case hS_u1 => assumption); (case hQ_u1 => exact fun _ _ _ h => h); (case hy_u1 => (refine Or.inl ⟨by rfl, ?_⟩; (intro w hSw; (try dsimp only at hSw); go_simp) <;> with_reducible rfl)); (try simp only [Act.put, List.setIfInBounds_toArray, List.set_cons_zero, List.set_cons_succ]))
  (refine wpAnyH_take (i := 2) (oi := ?oi_u2) (v := ?v_u2) ?ho_u2 ?hs_u2 ?hf_u2 ?hr_u2 ?hQ_u2 ?hy_u2 ?hS_u2 ?rest_u2; (case hr_u2 => kernel_rfl); (case hf_u2 => kernel_rfl); (case hs_u2 => kernel_rfl); (case ho_u2 => (simp only [List.getElem?_toArray, List.getElem?_cons_succ, List.getElem?_cons_zero]; rfl)); (case hS_u2 => assumption); (case hQ_u2 => exact fun _ _ _ h => h); (case hy_u2 => (refine Or.inl ⟨by rfl, ?_⟩; (intro w hSw; (try dsimp only at hSw); go_simp) <;> with_reducible rfl)); (try simp only [Act.put, List.setIfInBounds_toArray, List.set_cons_zero, List.set_cons_succ]))
  (refine wpAnyH_take (i := 4) (oi := ?oi_u3) (v := ?v_u3) ?ho_u3 ?hs_u3 ?hf_u3 ?hr_u3 ?hQ_u3 ?hy_u3 ?hS_u3 ?rest_u3; (case hr_u3 => kernel_rfl); (case hf_u3 => kernel_rfl); (case hs_u3 => kernel_rfl); (case ho_u3 => (simp only [List.getElem?_toArray, List.getElem?_cons_succ, List.getElem?_cons_zero]; rfl)); (case hS_u3 => assumption); (case hQ_u3 => exact fun _ _ _ h => h); (case hy_u3 => (refine Or.inl ⟨by rfl, ?_⟩; (intro w hSw; (try dsimp only at hSw); go_simp) <;> with_reducible rfl)); (try simp only [Act.put, List.setIfInBounds_toArray, List.set_cons_zero, List.set_cons_succ]))
  (refine wpAnyH_take (i := 5) (oi := ?oi_u4) (v := ?v_u4) ?ho_u4 ?hs_u4 ?hf_u4 ?hr_u4 ?hQ_u4 ?hy_u4 ?hS_u4 ?rest_u4; (case hr_u4 => kernel_rfl); (case hf_u4 => kernel_rfl); (case hs_u4 => kernel_rfl); (case ho_u4 => (simp only [List.getElem?_toArray, List.getElem?_cons_succ, List.getElem?_cons_zero]; rfl)); (case hS_u4 => assumption); (case hQ_u4 => exact fun _ _ _ h => h); (case hy_u4 => (refine Or.inl ⟨by rfl, ?_⟩; (intro w hSw; (try dsimp only at hSw); go_simp) <;> with_reducible rfl)); (try simp only [Act.put, List.setIfInBounds_toArray, List.set_cons_zero, List.set_cons_succ]))
  obtain ⟨w0_, hw0_⟩ : ∃ x, w.drew = x := ⟨_, rfl⟩
  rw [hw0_] at hHeld gq gb ho hU hRd z ⊢
  clear hw0_
  refine wpAnyH_ready (rs := [1, 3]) (by kernel_rfl) (by simp) ?_
  refine (AllReadyH.cons (o := ?oou5_0) ?hou5_0 ?hsu5_0 (AllReadyH.cons (o := ?oou5_1) ?hou5_1 ?hsu5_1 AllReadyH.nil))
  case hou5_0 => (simp only [List.getElem?_toArray, List.getElem?_cons_succ, List.getElem?_cons_zero]; rfl)
  case hou5_1 => (simp only [List.getElem?_toArray, List.getElem?_cons_succ, List.getElem?_cons_zero]; rfl)
  case hsu5_0 =>
    intro K hK
    go_simp
    refine hK.out _ _ (by exact gq) (fun hHeld => ?_)
    clear hK K
    try simp only [Act.put, List.setIfInBounds_toArray, List.set_cons_zero, List.set_cons_succ]
    refine wpAnyH_ready (rs := [3]) (by kernel_rfl) (by simp) ?_
    refine (AllReadyH.cons (o := ?oou6_0) ?hou6_0 ?hsu6_0 AllReadyH.nil)
    case hou6_0 => (simp only [List.getElem?_toArray, List.getElem?_cons_succ, List.getElem?_cons_zero]; rfl)
    case hsu6_0 =>
      intro K hK
      go_simp
      (go_at_call 11; (refine (c1.out _ hRd).mono ?_); rintro en w1 ⟨rfl, hR_, hu_⟩)
      replace gq := hu_.cell gq (by dsimp only; omega)
      replace gb := hu_.heap gb (by omega)
      replace ho := hu_.owns ho (fun j hj e => by have := own_ge ho hj; omega)
      replace hU := hU.trans hu_ fun _ _ h => h
      replace z := hu_.cell z (by dsimp only; omega)
      replace hRd := hR_
      clear hR_ hu_
      try go_wp2_with fail
      refine hK.out _ _ (by exact gq) (fun hHeld => ?_)
      clear hK K
      try simp only [Act.put, List.setIfInBounds_toArray, List.set_cons_zero, List.set_cons_succ]
      refine wpAnyH_ready (rs := [6]) (by kernel_rfl) (by simp) ?_
      refine (AllReadyH.cons (o := ?oou7_0) ?hou7_0 ?hsu7_0 AllReadyH.nil)
      case hou7_0 => (simp only [List.getElem?_toArray, List.getElem?_cons_succ, List.getElem?_cons_zero]; rfl)
      case hsu7_0 =>
        intro K hK
        go_simp
        (go_at_call 10; (refine (c2.out _ hRd).mono ?_); rintro en w2 ⟨rfl, hR_, hu_⟩)
        replace gq := hu_.cell gq (by dsimp only; omega)
        replace gb := hu_.heap gb (by omega)
        replace ho := hu_.owns ho (fun j hj e => by have := own_ge ho hj; omega)
        replace hU := hU.trans hu_ fun _ _ h => h
        replace z := hu_.cell z (by dsimp only; omega)
        replace hRd := hR_
        clear hR_ hu_
        try go_wp2_with fail
        refine hK.out _ _ (by exact gq) (fun hHeld => ?_)
        clear hK K
        try simp only [Act.put, List.setIfInBounds_toArray, List.set_cons_zero, List.set_cons_succ]
        (refine wpAnyH_take (i := 7) (oi := ?oi_u8) (v := ?v_u8) ?ho_u8 ?hs_u8 ?hf_u8 ?hr_u8 ?hQ_u8 ?hy_u8 ?hS_u8 ?rest_u8; (case hr_u8 => kernel_rfl); (case hf_u8 => kernel_rfl); (case hs_u8 => kernel_rfl); (case ho_u8 => (simp only [List.getElem?_toArray, List.getElem?_cons_succ, List.getElem?_cons_zero]; rfl)); (case hS_u8 => assumption); (case hQ_u8 => exact fun _ _ _ h => h); (case hy_u8 => (refine Or.inl ⟨by rfl, ?_⟩; (intro w hSw; (try dsimp only at hSw); go_simp) <;> with_reducible rfl)); (try simp only [Act.put, List.setIfInBounds_toArray, List.set_cons_zero, List.set_cons_succ]))
        refine wpAnyH_ready (rs := [8]) (by kernel_rfl) (by simp) ?_
        refine (AllReadyH.cons (o := ?oou9_0) ?hou9_0 ?hsu9_0 AllReadyH.nil)
        case hou9_0 => (simp only [List.getElem?_toArray, List.getElem?_cons_succ, List.getElem?_cons_zero]; rfl)
        case hsu9_0 =>
          intro K hK
          go_simp
          have hux := (Upd.refl Non w2).then_alloc (.cells #[.string ⟨n1.toArray⟩, .int .i64 n2] 59)
          have gq0 := gq
          replace gq := hux.cell gq fun h => h
          replace z := hux.cell z fun h => h
          clear hux
          refine hK.out _ _ (by exact gq) (fun hHeld => ?_)
          clear hK K
          try simp only [Act.put, List.setIfInBounds_toArray, List.set_cons_zero, List.set_cons_succ]
          refine wpAnyH_ready (rs := [9]) (by kernel_rfl) (by simp) ?_
          refine (AllReadyH.cons (o := ?oou10_0) ?hou10_0 ?hsu10_0 AllReadyH.nil)
          case hou10_0 => (simp only [List.getElem?_toArray, List.getElem?_cons_succ, List.getElem?_cons_zero]; rfl)
          case hsu10_0 =>
            intro K hK
            (go_must (refine step_app1p rfl _ _ 36 rfl base 59 (.agg #[.string ⟨#[]⟩, .int .i64 0]) 2 24 Tryz.underlying36 hii.out rfl v l.length (l.flatMap upC) rfl ho [.string ⟨n1.toArray⟩, .int .i64 n2] w2.heap.size rfl rfl rfl (by simp [Value.oneCell']) (by unfold maxLen; omega) (by omega) (by have := hU.size; omega) ?_); intro v6 w6 ho6 hu6 hf6; have g6 := hu6.cell gq0 (fun h => by have := own_ge ho h; dsimp only at this; omega); have gb6 := hu6.heap gb (fun h => by have := own_ge ho h; omega))
            refine hK.out _ _ (by exact g6) (fun hHeld => ?_)
            clear hK K
            try simp only [Act.put, List.setIfInBounds_toArray, List.set_cons_zero, List.set_cons_succ]
            (refine wpAnyH_take (i := 10) (oi := ?oi_u11) (v := ?v_u11) ?ho_u11 ?hs_u11 ?hf_u11 ?hr_u11 ?hQ_u11 ?hy_u11 ?hS_u11 ?rest_u11; (case hr_u11 => kernel_rfl); (case hf_u11 => kernel_rfl); (case hs_u11 => kernel_rfl); (case ho_u11 => (simp only [List.getElem?_toArray, List.getElem?_cons_succ, List.getElem?_cons_zero]; rfl)); (case hS_u11 => assumption); (case hQ_u11 => exact fun _ _ _ h => h); (case hy_u11 => (refine Or.inl ⟨by rfl, ?_⟩; (intro w hSw; (try dsimp only at hSw); go_simp) <;> with_reducible rfl)); (try simp only [Act.put, List.setIfInBounds_toArray, List.set_cons_zero, List.set_cons_succ]))
            refine wpAnyH_ready (rs := [11]) (by kernel_rfl) (by simp) ?_
            refine (AllReadyH.cons (o := ?oou12_0) ?hou12_0 ?hsu12_0 AllReadyH.nil)
            case hou12_0 => (simp only [List.getElem?_toArray, List.getElem?_cons_succ, List.getElem?_cons_zero]; rfl)
            case hsu12_0 =>
              intro K hK
              (refine step_store_cell rfl 36 _ _ rfl o 22 v6 _ _ rfl rfl gb6 (show 22 < 24 by omega) rfl (by obtain ⟨_, aa, cc, rfl, -⟩ := has_of_owns ho6; rfl) (by obtain ⟨_, aa, cc, rfl, -⟩ := has_of_owns ho6; rfl) ?_; intro w7 hb7 hu7; have g7 := hu7.cell g6 (by dsimp only; omega))
              refine hK.out _ _ (by exact g7) (fun hHeld => ?_)
              clear hK K
              try simp only [Act.put, List.setIfInBounds_toArray, List.set_cons_zero, List.set_cons_succ]
              refine wpAnyH_done (by kernel_rfl) ?_ _
              have hXs := hU.size
              have hu47 : Upd (fun k => k = r ∨ k = o ∨ At v k) w w7 := ((hU.mono fun _ _ h => .inl h).trans hu6 fun j hj h => .inr (.inr h)).trans hu7 fun _ _ h => .inr (.inl h)
              have hR7 : RdAt w7 r L s ra re := (hRd.upd hu6 fun j _ hj => .inr (by have := own_ge ho hj; omega)).upd hu7 fun j _ hj => .inr (by omega)
              have ho7 := hu7.owns ho6 (fun j hj e => by have := own_ge ho6 hj; omega)
              have ho8 : w7.ownsRow base 59 2 v6 (l ++ [(⟨n1, n2⟩ : Up)]).length ((l ++ [(⟨n1, n2⟩ : Up)]).flatMap upC) := by rw [List.length_append, List.flatMap_append]; exact ho7
              have hf7 : ∀ k, At v6 k → At v k ∨ w.heap.size ≤ k := fun k hk => (hf6 k hk).imp (fun h => h) fun h => by omega
              have hg_ := Lib.hid (hfin.out w7 v6 hR7 hb7 ho8 hu47 hf7)
              clear hb7 ho7 ho8 ho6 hu6 hu7 hf6 gb6 gb ho hU hRd gq gq0 z hR7 g7 g6 hu47 hf7
              go_wp2_with fail
              go_returns
              exact hg_.out
  case hsu5_1 =>
    intro K hK
    go_simp
    (go_at_call 11; (refine (c1.out _ hRd).mono ?_); rintro en w3 ⟨rfl, hR_, hu_⟩)
    replace gq := hu_.cell gq (by dsimp only; omega)
    replace gb := hu_.heap gb (by omega)
    replace ho := hu_.owns ho (fun j hj e => by have := own_ge ho hj; omega)
    replace hU := hU.trans hu_ fun _ _ h => h
    replace z := hu_.cell z (by dsimp only; omega)
    replace hRd := hR_
    clear hR_ hu_
    try go_wp2_with fail
    refine hK.out _ _ (by exact gq) (fun hHeld => ?_)
    clear hK K
    try simp only [Act.put, List.setIfInBounds_toArray, List.set_cons_zero, List.set_cons_succ]
    refine wpAnyH_ready (rs := [1, 6]) (by kernel_rfl) (by simp) ?_
    refine (AllReadyH.cons (o := ?oou13_0) ?hou13_0 ?hsu13_0 (AllReadyH.cons (o := ?oou13_1) ?hou13_1 ?hsu13_1 AllReadyH.nil))
    case hou13_0 => (simp only [List.getElem?_toArray, List.getElem?_cons_succ, List.getElem?_cons_zero]; rfl)
    case hou13_1 => (simp only [List.getElem?_toArray, List.getElem?_cons_succ, List.getElem?_cons_zero]; rfl)
    case hsu13_0 =>
      intro K hK
      go_simp
      refine hK.out _ _ (by exact gq) (fun hHeld => ?_)
      clear hK K
      try simp only [Act.put, List.setIfInBounds_toArray, List.set_cons_zero, List.set_cons_succ]
      refine wpAnyH_ready (rs := [6]) (by kernel_rfl) (by simp) ?_
      refine (AllReadyH.cons (o := ?oou14_0) ?hou14_0 ?hsu14_0 AllReadyH.nil)
      case hou14_0 => (simp only [List.getElem?_toArray, List.getElem?_cons_succ, List.getElem?_cons_zero]; rfl)
      case hsu14_0 =>
        intro K hK
        go_simp
        (go_at_call 10; (refine (c2.out _ hRd).mono ?_); rintro en w4 ⟨rfl, hR_, hu_⟩)
        replace gq := hu_.cell gq (by dsimp only; omega)
        replace gb := hu_.heap gb (by omega)
        replace ho := hu_.owns ho (fun j hj e => by have := own_ge ho hj; omega)
        replace hU := hU.trans hu_ fun _ _ h => h
        replace z := hu_.cell z (by dsimp only; omega)
        replace hRd := hR_
        clear hR_ hu_
        try go_wp2_with fail
        refine hK.out _ _ (by exact gq) (fun hHeld => ?_)
        clear hK K
        try simp only [Act.put, List.setIfInBounds_toArray, List.set_cons_zero, List.set_cons_succ]
        (refine wpAnyH_take (i := 7) (oi := ?oi_u15) (v := ?v_u15) ?ho_u15 ?hs_u15 ?hf_u15 ?hr_u15 ?hQ_u15 ?hy_u15 ?hS_u15 ?rest_u15; (case hr_u15 => kernel_rfl); (case hf_u15 => kernel_rfl); (case hs_u15 => kernel_rfl); (case ho_u15 => (simp only [List.getElem?_toArray, List.getElem?_cons_succ, List.getElem?_cons_zero]; rfl)); (case hS_u15 => assumption); (case hQ_u15 => exact fun _ _ _ h => h); (case hy_u15 => (refine Or.inl ⟨by rfl, ?_⟩; (intro w hSw; (try dsimp only at hSw); go_simp) <;> with_reducible rfl)); (try simp only [Act.put, List.setIfInBounds_toArray, List.set_cons_zero, List.set_cons_succ]))
        refine wpAnyH_ready (rs := [8]) (by kernel_rfl) (by simp) ?_
        refine (AllReadyH.cons (o := ?oou16_0) ?hou16_0 ?hsu16_0 AllReadyH.nil)
        case hou16_0 => (simp only [List.getElem?_toArray, List.getElem?_cons_succ, List.getElem?_cons_zero]; rfl)
        case hsu16_0 =>
          intro K hK
          go_simp
          have hux := (Upd.refl Non w4).then_alloc (.cells #[.string ⟨n1.toArray⟩, .int .i64 n2] 59)
          have gq0 := gq
          replace gq := hux.cell gq fun h => h
          replace z := hux.cell z fun h => h
          clear hux
          refine hK.out _ _ (by exact gq) (fun hHeld => ?_)
          clear hK K
          try simp only [Act.put, List.setIfInBounds_toArray, List.set_cons_zero, List.set_cons_succ]
          refine wpAnyH_ready (rs := [9]) (by kernel_rfl) (by simp) ?_
          refine (AllReadyH.cons (o := ?oou17_0) ?hou17_0 ?hsu17_0 AllReadyH.nil)
          case hou17_0 => (simp only [List.getElem?_toArray, List.getElem?_cons_succ, List.getElem?_cons_zero]; rfl)
          case hsu17_0 =>
            intro K hK
            (go_must (refine step_app1p rfl _ _ 36 rfl base 59 (.agg #[.string ⟨#[]⟩, .int .i64 0]) 2 24 Tryz.underlying36 hii.out rfl v l.length (l.flatMap upC) rfl ho [.string ⟨n1.toArray⟩, .int .i64 n2] w4.heap.size rfl rfl rfl (by simp [Value.oneCell']) (by unfold maxLen; omega) (by omega) (by have := hU.size; omega) ?_); intro v6 w6 ho6 hu6 hf6; have g6 := hu6.cell gq0 (fun h => by have := own_ge ho h; dsimp only at this; omega); have gb6 := hu6.heap gb (fun h => by have := own_ge ho h; omega))
            refine hK.out _ _ (by exact g6) (fun hHeld => ?_)
            clear hK K
            try simp only [Act.put, List.setIfInBounds_toArray, List.set_cons_zero, List.set_cons_succ]
            (refine wpAnyH_take (i := 10) (oi := ?oi_u18) (v := ?v_u18) ?ho_u18 ?hs_u18 ?hf_u18 ?hr_u18 ?hQ_u18 ?hy_u18 ?hS_u18 ?rest_u18; (case hr_u18 => kernel_rfl); (case hf_u18 => kernel_rfl); (case hs_u18 => kernel_rfl); (case ho_u18 => (simp only [List.getElem?_toArray, List.getElem?_cons_succ, List.getElem?_cons_zero]; rfl)); (case hS_u18 => assumption); (case hQ_u18 => exact fun _ _ _ h => h); (case hy_u18 => (refine Or.inl ⟨by rfl, ?_⟩; (intro w hSw; (try dsimp only at hSw); go_simp) <;> with_reducible rfl)); (try simp only [Act.put, List.setIfInBounds_toArray, List.set_cons_zero, List.set_cons_succ]))
            refine wpAnyH_ready (rs := [11]) (by kernel_rfl) (by simp) ?_
            refine (AllReadyH.cons (o := ?oou19_0) ?hou19_0 ?hsu19_0 AllReadyH.nil)
            case hou19_0 => (simp only [List.getElem?_toArray, List.getElem?_cons_succ, List.getElem?_cons_zero]; rfl)
            case hsu19_0 =>
              intro K hK
              (refine step_store_cell rfl 36 _ _ rfl o 22 v6 _ _ rfl rfl gb6 (show 22 < 24 by omega) rfl (by obtain ⟨_, aa, cc, rfl, -⟩ := has_of_owns ho6; rfl) (by obtain ⟨_, aa, cc, rfl, -⟩ := has_of_owns ho6; rfl) ?_; intro w7 hb7 hu7; have g7 := hu7.cell g6 (by dsimp only; omega))
              refine hK.out _ _ (by exact g7) (fun hHeld => ?_)
              clear hK K
              try simp only [Act.put, List.setIfInBounds_toArray, List.set_cons_zero, List.set_cons_succ]
              refine wpAnyH_done (by kernel_rfl) ?_ _
              have hXs := hU.size
              have hu47 : Upd (fun k => k = r ∨ k = o ∨ At v k) w w7 := ((hU.mono fun _ _ h => .inl h).trans hu6 fun j hj h => .inr (.inr h)).trans hu7 fun _ _ h => .inr (.inl h)
              have hR7 : RdAt w7 r L s ra re := (hRd.upd hu6 fun j _ hj => .inr (by have := own_ge ho hj; omega)).upd hu7 fun j _ hj => .inr (by omega)
              have ho7 := hu7.owns ho6 (fun j hj e => by have := own_ge ho6 hj; omega)
              have ho8 : w7.ownsRow base 59 2 v6 (l ++ [(⟨n1, n2⟩ : Up)]).length ((l ++ [(⟨n1, n2⟩ : Up)]).flatMap upC) := by rw [List.length_append, List.flatMap_append]; exact ho7
              have hf7 : ∀ k, At v6 k → At v k ∨ w.heap.size ≤ k := fun k hk => (hf6 k hk).imp (fun h => h) fun h => by omega
              have hg_ := Lib.hid (hfin.out w7 v6 hR7 hb7 ho8 hu47 hf7)
              clear hb7 ho7 ho8 ho6 hu6 hu7 hf6 gb6 gb ho hU hRd gq gq0 z hR7 g7 g6 hu47 hf7
              go_wp2_with fail
              go_returns
              exact hg_.out
    case hsu13_1 =>
      intro K hK
      go_simp
      (go_at_call 10; (refine (c2.out _ hRd).mono ?_); rintro en w5 ⟨rfl, hR_, hu_⟩)
      replace gq := hu_.cell gq (by dsimp only; omega)
      replace gb := hu_.heap gb (by omega)
      replace ho := hu_.owns ho (fun j hj e => by have := own_ge ho hj; omega)
      replace hU := hU.trans hu_ fun _ _ h => h
      replace z := hu_.cell z (by dsimp only; omega)
      replace hRd := hR_
      clear hR_ hu_
      try go_wp2_with fail
      refine hK.out _ _ (by exact gq) (fun hHeld => ?_)
      clear hK K
      try simp only [Act.put, List.setIfInBounds_toArray, List.set_cons_zero, List.set_cons_succ]
      (refine wpAnyH_take (i := 7) (oi := ?oi_u20) (v := ?v_u20) ?ho_u20 ?hs_u20 ?hf_u20 ?hr_u20 ?hQ_u20 ?hy_u20 ?hS_u20 ?rest_u20; (case hr_u20 => kernel_rfl); (case hf_u20 => kernel_rfl); (case hs_u20 => kernel_rfl); (case ho_u20 => (simp only [List.getElem?_toArray, List.getElem?_cons_succ, List.getElem?_cons_zero]; rfl)); (case hS_u20 => assumption); (case hQ_u20 => exact fun _ _ _ h => h); (case hy_u20 => (refine Or.inl ⟨by rfl, ?_⟩; (intro w hSw; (try dsimp only at hSw); go_simp) <;> with_reducible rfl)); (try simp only [Act.put, List.setIfInBounds_toArray, List.set_cons_zero, List.set_cons_succ]))
      refine wpAnyH_ready (rs := [1, 8]) (by kernel_rfl) (by simp) ?_
      refine (AllReadyH.cons (o := ?oou21_0) ?hou21_0 ?hsu21_0 (AllReadyH.cons (o := ?oou21_1) ?hou21_1 ?hsu21_1 AllReadyH.nil))
      case hou21_0 => (simp only [List.getElem?_toArray, List.getElem?_cons_succ, List.getElem?_cons_zero]; rfl)
      case hou21_1 => (simp only [List.getElem?_toArray, List.getElem?_cons_succ, List.getElem?_cons_zero]; rfl)
      case hsu21_0 =>
        intro K hK
        go_simp
        refine hK.out _ _ (by exact gq) (fun hHeld => ?_)
        clear hK K
        try simp only [Act.put, List.setIfInBounds_toArray, List.set_cons_zero, List.set_cons_succ]
        refine wpAnyH_ready (rs := [8]) (by kernel_rfl) (by simp) ?_
        refine (AllReadyH.cons (o := ?oou22_0) ?hou22_0 ?hsu22_0 AllReadyH.nil)
        case hou22_0 => (simp only [List.getElem?_toArray, List.getElem?_cons_succ, List.getElem?_cons_zero]; rfl)
        case hsu22_0 =>
          intro K hK
          go_simp
          have hux := (Upd.refl Non w5).then_alloc (.cells #[.string ⟨n1.toArray⟩, .int .i64 n2] 59)
          have gq0 := gq
          replace gq := hux.cell gq fun h => h
          replace z := hux.cell z fun h => h
          clear hux
          refine hK.out _ _ (by exact gq) (fun hHeld => ?_)
          clear hK K
          try simp only [Act.put, List.setIfInBounds_toArray, List.set_cons_zero, List.set_cons_succ]
          refine wpAnyH_ready (rs := [9]) (by kernel_rfl) (by simp) ?_
          refine (AllReadyH.cons (o := ?oou23_0) ?hou23_0 ?hsu23_0 AllReadyH.nil)
          case hou23_0 => (simp only [List.getElem?_toArray, List.getElem?_cons_succ, List.getElem?_cons_zero]; rfl)
          case hsu23_0 =>
            intro K hK
            (go_must (refine step_app1p rfl _ _ 36 rfl base 59 (.agg #[.string ⟨#[]⟩, .int .i64 0]) 2 24 Tryz.underlying36 hii.out rfl v l.length (l.flatMap upC) rfl ho [.string ⟨n1.toArray⟩, .int .i64 n2] w5.heap.size rfl rfl rfl (by simp [Value.oneCell']) (by unfold maxLen; omega) (by omega) (by have := hU.size; omega) ?_); intro v6 w6 ho6 hu6 hf6; have g6 := hu6.cell gq0 (fun h => by have := own_ge ho h; dsimp only at this; omega); have gb6 := hu6.heap gb (fun h => by have := own_ge ho h; omega))
            refine hK.out _ _ (by exact g6) (fun hHeld => ?_)
            clear hK K
            try simp only [Act.put, List.setIfInBounds_toArray, List.set_cons_zero, List.set_cons_succ]
            (refine wpAnyH_take (i := 10) (oi := ?oi_u24) (v := ?v_u24) ?ho_u24 ?hs_u24 ?hf_u24 ?hr_u24 ?hQ_u24 ?hy_u24 ?hS_u24 ?rest_u24; (case hr_u24 => kernel_rfl); (case hf_u24 => kernel_rfl); (case hs_u24 => kernel_rfl); (case ho_u24 => (simp only [List.getElem?_toArray, List.getElem?_cons_succ, List.getElem?_cons_zero]; rfl)); (case hS_u24 => assumption); (case hQ_u24 => exact fun _ _ _ h => h); (case hy_u24 => (refine Or.inl ⟨by rfl, ?_⟩; (intro w hSw; (try dsimp only at hSw); go_simp) <;> with_reducible rfl)); (try simp only [Act.put, List.setIfInBounds_toArray, List.set_cons_zero, List.set_cons_succ]))
            refine wpAnyH_ready (rs := [11]) (by kernel_rfl) (by simp) ?_
            refine (AllReadyH.cons (o := ?oou25_0) ?hou25_0 ?hsu25_0 AllReadyH.nil)
            case hou25_0 => (simp only [List.getElem?_toArray, List.getElem?_cons_succ, List.getElem?_cons_zero]; rfl)
            case hsu25_0 =>
              intro K hK
              (refine step_store_cell rfl 36 _ _ rfl o 22 v6 _ _ rfl rfl gb6 (show 22 < 24 by omega) rfl (by obtain ⟨_, aa, cc, rfl, -⟩ := has_of_owns ho6; rfl) (by obtain ⟨_, aa, cc, rfl, -⟩ := has_of_owns ho6; rfl) ?_; intro w7 hb7 hu7; have g7 := hu7.cell g6 (by dsimp only; omega))
              refine hK.out _ _ (by exact g7) (fun hHeld => ?_)
              clear hK K
              try simp only [Act.put, List.setIfInBounds_toArray, List.set_cons_zero, List.set_cons_succ]
              refine wpAnyH_done (by kernel_rfl) ?_ _
              have hXs := hU.size
              have hu47 : Upd (fun k => k = r ∨ k = o ∨ At v k) w w7 := ((hU.mono fun _ _ h => .inl h).trans hu6 fun j hj h => .inr (.inr h)).trans hu7 fun _ _ h => .inr (.inl h)
              have hR7 : RdAt w7 r L s ra re := (hRd.upd hu6 fun j _ hj => .inr (by have := own_ge ho hj; omega)).upd hu7 fun j _ hj => .inr (by omega)
              have ho7 := hu7.owns ho6 (fun j hj e => by have := own_ge ho6 hj; omega)
              have ho8 : w7.ownsRow base 59 2 v6 (l ++ [(⟨n1, n2⟩ : Up)]).length ((l ++ [(⟨n1, n2⟩ : Up)]).flatMap upC) := by rw [List.length_append, List.flatMap_append]; exact ho7
              have hf7 : ∀ k, At v6 k → At v k ∨ w.heap.size ≤ k := fun k hk => (hf6 k hk).imp (fun h => h) fun h => by omega
              have hg_ := Lib.hid (hfin.out w7 v6 hR7 hb7 ho8 hu47 hf7)
              clear hb7 ho7 ho8 ho6 hu6 hu7 hf6 gb6 gb ho hU hRd gq gq0 z hR7 g7 g6 hu47 hf7
              go_wp2_with fail
              go_returns
              exact hg_.out
      case hsu21_1 =>
        intro K hK
        go_simp
        have hux := (Upd.refl Non w5).then_alloc (.cells #[.string ⟨n1.toArray⟩, .int .i64 n2] 59)
        have gq0 := gq
        replace gq := hux.cell gq fun h => h
        replace z := hux.cell z fun h => h
        clear hux
        refine hK.out _ _ (by exact gq) (fun hHeld => ?_)
        clear hK K
        try simp only [Act.put, List.setIfInBounds_toArray, List.set_cons_zero, List.set_cons_succ]
        refine wpAnyH_ready (rs := [1]) (by kernel_rfl) (by simp) ?_
        refine (AllReadyH.cons (o := ?oou26_0) ?hou26_0 ?hsu26_0 AllReadyH.nil)
        case hou26_0 => (simp only [List.getElem?_toArray, List.getElem?_cons_succ, List.getElem?_cons_zero]; rfl)
        case hsu26_0 =>
          intro K hK
          go_simp
          refine hK.out _ _ (by exact gq) (fun hHeld => ?_)
          clear hK K
          try simp only [Act.put, List.setIfInBounds_toArray, List.set_cons_zero, List.set_cons_succ]
          refine wpAnyH_ready (rs := [9]) (by kernel_rfl) (by simp) ?_
          refine (AllReadyH.cons (o := ?oou27_0) ?hou27_0 ?hsu27_0 AllReadyH.nil)
          case hou27_0 => (simp only [List.getElem?_toArray, List.getElem?_cons_succ, List.getElem?_cons_zero]; rfl)
          case hsu27_0 =>
            intro K hK
            (go_must (refine step_app1p rfl _ _ 36 rfl base 59 (.agg #[.string ⟨#[]⟩, .int .i64 0]) 2 24 Tryz.underlying36 hii.out rfl v l.length (l.flatMap upC) rfl ho [.string ⟨n1.toArray⟩, .int .i64 n2] w5.heap.size rfl rfl rfl (by simp [Value.oneCell']) (by unfold maxLen; omega) (by omega) (by have := hU.size; omega) ?_); intro v6 w6 ho6 hu6 hf6; have g6 := hu6.cell gq0 (fun h => by have := own_ge ho h; dsimp only at this; omega); have gb6 := hu6.heap gb (fun h => by have := own_ge ho h; omega))
            refine hK.out _ _ (by exact g6) (fun hHeld => ?_)
            clear hK K
            try simp only [Act.put, List.setIfInBounds_toArray, List.set_cons_zero, List.set_cons_succ]
            (refine wpAnyH_take (i := 10) (oi := ?oi_u28) (v := ?v_u28) ?ho_u28 ?hs_u28 ?hf_u28 ?hr_u28 ?hQ_u28 ?hy_u28 ?hS_u28 ?rest_u28; (case hr_u28 => kernel_rfl); (case hf_u28 => kernel_rfl); (case hs_u28 => kernel_rfl); (case ho_u28 => (simp only [List.getElem?_toArray, List.getElem?_cons_succ, List.getElem?_cons_zero]; rfl)); (case hS_u28 => assumption); (case hQ_u28 => exact fun _ _ _ h => h); (case hy_u28 => (refine Or.inl ⟨by rfl, ?_⟩; (intro w hSw; (try dsimp only at hSw); go_simp) <;> with_reducible rfl)); (try simp only [Act.put, List.setIfInBounds_toArray, List.set_cons_zero, List.set_cons_succ]))
            refine wpAnyH_ready (rs := [11]) (by kernel_rfl) (by simp) ?_
            refine (AllReadyH.cons (o := ?oou29_0) ?hou29_0 ?hsu29_0 AllReadyH.nil)
            case hou29_0 => (simp only [List.getElem?_toArray, List.getElem?_cons_succ, List.getElem?_cons_zero]; rfl)
            case hsu29_0 =>
              intro K hK
              (refine step_store_cell rfl 36 _ _ rfl o 22 v6 _ _ rfl rfl gb6 (show 22 < 24 by omega) rfl (by obtain ⟨_, aa, cc, rfl, -⟩ := has_of_owns ho6; rfl) (by obtain ⟨_, aa, cc, rfl, -⟩ := has_of_owns ho6; rfl) ?_; intro w7 hb7 hu7; have g7 := hu7.cell g6 (by dsimp only; omega))
              refine hK.out _ _ (by exact g7) (fun hHeld => ?_)
              clear hK K
              try simp only [Act.put, List.setIfInBounds_toArray, List.set_cons_zero, List.set_cons_succ]
              refine wpAnyH_done (by kernel_rfl) ?_ _
              have hXs := hU.size
              have hu47 : Upd (fun k => k = r ∨ k = o ∨ At v k) w w7 := ((hU.mono fun _ _ h => .inl h).trans hu6 fun j hj h => .inr (.inr h)).trans hu7 fun _ _ h => .inr (.inl h)
              have hR7 : RdAt w7 r L s ra re := (hRd.upd hu6 fun j _ hj => .inr (by have := own_ge ho hj; omega)).upd hu7 fun j _ hj => .inr (by omega)
              have ho7 := hu7.owns ho6 (fun j hj e => by have := own_ge ho6 hj; omega)
              have ho8 : w7.ownsRow base 59 2 v6 (l ++ [(⟨n1, n2⟩ : Up)]).length ((l ++ [(⟨n1, n2⟩ : Up)]).flatMap upC) := by rw [List.length_append, List.flatMap_append]; exact ho7
              have hf7 : ∀ k, At v6 k → At v k ∨ w.heap.size ≤ k := fun k hk => (hf6 k hk).imp (fun h => h) fun h => by omega
              have hg_ := Lib.hid (hfin.out w7 v6 hR7 hb7 ho8 hu47 hf7)
              clear hb7 ho7 ho8 ho6 hu6 hu7 hf6 gb6 gb ho hU hRd gq gq0 z hR7 g7 g6 hu47 hf7
              go_wp2_with fail
              go_returns
              exact hg_.out
set_option maxHeartbeats 8000000 in
theorem stPts (r : Nat) (s : List UInt8) (o base q : Nat) (RR : Rs) (S : Sl) (hqr : q ≠ r) (hqo : q ≠ o) (hro : r < o) (hob : o < base) (hqb : q < base) :
    StepOk 19 #[.pointer (some ⟨o, 0, none⟩), .pointer (some ⟨q, 0, none⟩)] r L s o base q 39 61 6 (fun v => rsC RR { S with p := v }) (rdPt s) ptC := by
  intro l a v w hR hA hq hbz hl
  obtain ⟨hb, ho⟩ := hA
  have c1 := Lib.hid (fun w h => fU16 (L := L) r s a 0 w h)
  obtain ⟨X, hX⟩ : ∃ X, rdPt s a 0 = X := ⟨_, rfl⟩
  rw [hX]
  unfold rdPt at hX
  generalize rdNum s a 0 2 = x at *
  obtain ⟨a1, e1, n1⟩ := x
  dsimp only at *
  have c2 := Lib.hid (fun w h => wRHead (L := L) r s a1 e1 w h)
  generalize rdHd s a1 e1 = x at *
  obtain ⟨ra, re, ⟨hs, hr, hi, hg, hn_⟩⟩ := x
  dsimp only at *
  subst hX
  unfold rdV1 at c2
  unfold hdV at c2
  dsimp only at c2

  obtain ⟨PR, hPR⟩ : ∃ PR, (fun (en : Ending) (w' : World) => en = .returned (.tuple #[]) ∧ ∃ v', RdAt w' r L s ra re ∧ Acc o base 39 61 6 (fun v => rsC RR { S with p := v }) ((l ++ [(⟨n1, ⟨hs, hr, hi, hg, hn_⟩⟩ : Pt)]).flatMap ptC) (l ++ [(⟨n1, ⟨hs, hr, hi, hg, hn_⟩⟩ : Pt)]).length v' w' ∧ Upd (fun k => k = r ∨ k = o ∨ At v k) w w' ∧ (∀ k, At v' k → At v k ∨ w.heap.size ≤ k)) = PR := ⟨_, rfl⟩
  dsimp only
  rw [hPR]
  have hfin : Hid (∀ w' v', RdAt w' r L s ra re → w'.heap[o]? = some (.cells (rsC RR { S with p := v' }) 39 (0, 0)) → w'.ownsRow base 61 6 v' (l ++ [(⟨n1, ⟨hs, hr, hi, hg, hn_⟩⟩ : Pt)]).length ((l ++ [(⟨n1, ⟨hs, hr, hi, hg, hn_⟩⟩ : Pt)]).flatMap ptC) → Upd (fun k => k = r ∨ k = o ∨ At v k) w w' → (∀ k, At v' k → At v k ∨ w.heap.size ≤ k) → PR (.returned (.tuple #[])) w') := Lib.hid (fun w' v' e1 e2 e3 e4 e5 => by rw [← hPR]; exact ⟨rfl, v', e1, ⟨e2, e3⟩, e4, e5⟩)
  clear hPR
  have hii : Hid ((Tryz.prog.info? 61).map (fun i => (i.zero, i.size, i.bytes)) = some (some (.agg #[.int .i64 0, .int .i64 0, .int .i64 0, .int .i64 0, .bool false, .bool false]), 6, 40)) := Lib.hid (by kernel_rfl)
  have hRd : RdAt w.drew r L s a 0 := hR.non (Upd.drew _ _)
  have gq := (Upd.drew Non _).cell hq fun h => h
  have gb := (Upd.drew Non _).heap hb fun h => h
  replace ho := (Upd.drew Non w).owns ho fun _ _ h => h
  have hU : Upd (fun k => k = r) w w.drew := Upd.drew _ _
  have z : w.drew.cell? ⟨o, 23, none⟩ = some v := (cells_of gb).1 23
  have hwb := heap_lt hb
  clear hR hb hq
  go_enter Tryz.func19, Tryz.ntmps19
  go_wp2_with fail
  refine wp_region_held_drew (S := (fun w' => w'.cell? ⟨q, 0, none⟩ = some (.pointer (some ⟨r, 0, none⟩)))) (by kernel_rfl) (by exact gq) (fun hHeld => ?_)
  (refine wpAnyH_take (i := 0) (oi := ?oi_p1) (v := ?v_p1) ?ho_p1 ?hs_p1 ?hf_p1 ?hr_p1 ?hQ_p1 ?hy_p1 ?hS_p1 ?rest_p1; (case hr_p1 => kernel_rfl); (case hf_p1 => kernel_rfl); (case hs_p1 => kernel_rfl); (case ho_p1 => (simp only [List.getElem?_toArray, List.getElem?_cons_succ, List.getElem?_cons_zero]; rfl)); (case hS_p1 => assumption); (case hQ_p1 => exact fun _ _ _ h => h); (case hy_p1 => (refine Or.inl ⟨by rfl, ?_⟩; (intro w hSw; (try dsimp only at hSw); go_simp) <;> with_reducible rfl)); (try simp only [Act.put, List.setIfInBounds_toArray, List.set_cons_zero, List.set_cons_succ]))
  (refine wpAnyH_take (i := 2) (oi := ?oi_p2) (v := ?v_p2) ?ho_p2 ?hs_p2 ?hf_p2 ?hr_p2 ?hQ_p2 ?hy_p2 ?hS_p2 ?rest_p2; (case hr_p2 => kernel_rfl); (case hf_p2 => kernel_rfl); (case hs_p2 => kernel_rfl); (case ho_p2 => (simp only [List.getElem?_toArray, List.getElem?_cons_succ, List.getElem?_cons_zero]; rfl)); (case hS_p2 => assumption); (case hQ_p2 => exact fun _ _ _ h => h); (case hy_p2 => (refine Or.inl ⟨by rfl, ?_⟩; (intro w hSw; (try dsimp only at hSw); go_simp) <;> with_reducible rfl)); (try simp only [Act.put, List.setIfInBounds_toArray, List.set_cons_zero, List.set_cons_succ]))
  (refine wpAnyH_take (i := 3) (oi := ?oi_p3) (v := ?v_p3) ?ho_p3 ?hs_p3 ?hf_p3 ?hr_p3 ?hQ_p3 ?hy_p3 ?hS_p3 ?rest_p3; (case hr_p3 => kernel_rfl); (case hf_p3 => kernel_rfl); (case hs_p3 => kernel_rfl); (case ho_p3 => (simp only [List.getElem?_toArray, List.getElem?_cons_succ, List.getElem?_cons_zero]; rfl)); (case hS_p3 => assumption); (case hQ_p3 => exact fun _ _ _ h => h); (case hy_p3 => (refine Or.inl ⟨by rfl, ?_⟩; (intro w hSw; (try dsimp only at hSw); go_simp) <;> with_reducible rfl)); (try simp only [Act.put, List.setIfInBounds_toArray, List.set_cons_zero, List.set_cons_succ]))
  (refine wpAnyH_take (i := 5) (oi := ?oi_p4) (v := ?v_p4) ?ho_p4 ?hs_p4 ?hf_p4 ?hr_p4 ?hQ_p4 ?hy_p4 ?hS_p4 ?rest_p4; (case hr_p4 => kernel_rfl); (case hf_p4 => kernel_rfl); (case hs_p4 => kernel_rfl); (case ho_p4 => (simp only [List.getElem?_toArray, List.getElem?_cons_succ, List.getElem?_cons_zero]; rfl)); (case hS_p4 => assumption); (case hQ_p4 => exact fun _ _ _ h => h); (case hy_p4 => (refine Or.inl ⟨by rfl, ?_⟩; (intro w hSw; (try dsimp only at hSw); go_simp) <;> with_reducible rfl)); (try simp only [Act.put, List.setIfInBounds_toArray, List.set_cons_zero, List.set_cons_succ]))
  obtain ⟨w0_, hw0_⟩ : ∃ x, w.drew = x := ⟨_, rfl⟩
  rw [hw0_] at hHeld gq gb ho hU hRd z ⊢
  clear hw0_
  refine wpAnyH_ready (rs := [1, 4]) (by kernel_rfl) (by simp) ?_
  refine (AllReadyH.cons (o := ?oop5_0) ?hop5_0 ?hsp5_0 (AllReadyH.cons (o := ?oop5_1) ?hop5_1 ?hsp5_1 AllReadyH.nil))
  case hop5_0 => (simp only [List.getElem?_toArray, List.getElem?_cons_succ, List.getElem?_cons_zero]; rfl)
  case hop5_1 => (simp only [List.getElem?_toArray, List.getElem?_cons_succ, List.getElem?_cons_zero]; rfl)
  case hsp5_0 =>
    intro K hK
    go_simp
    refine hK.out _ _ (by exact gq) (fun hHeld => ?_)
    clear hK K
    try simp only [Act.put, List.setIfInBounds_toArray, List.set_cons_zero, List.set_cons_succ]
    refine wpAnyH_ready (rs := [4]) (by kernel_rfl) (by simp) ?_
    refine (AllReadyH.cons (o := ?oop6_0) ?hop6_0 ?hsp6_0 AllReadyH.nil)
    case hop6_0 => (simp only [List.getElem?_toArray, List.getElem?_cons_succ, List.getElem?_cons_zero]; rfl)
    case hsp6_0 =>
      intro K hK
      go_simp
      (go_at_call 20; (refine (c1.out _ hRd).mono ?_); rintro en w1 ⟨rfl, hR_, hu_⟩)
      replace gq := hu_.cell gq (by dsimp only; omega)
      replace gb := hu_.heap gb (by omega)
      replace ho := hu_.owns ho (fun j hj e => by have := own_ge ho hj; omega)
      replace hU := hU.trans hu_ fun _ _ h => h
      replace z := hu_.cell z (by dsimp only; omega)
      replace hRd := hR_
      clear hR_ hu_
      try go_wp2_with fail
      refine hK.out _ _ (by exact gq) (fun hHeld => ?_)
      clear hK K
      try simp only [Act.put, List.setIfInBounds_toArray, List.set_cons_zero, List.set_cons_succ]
      refine wpAnyH_ready (rs := [6]) (by kernel_rfl) (by simp) ?_
      refine (AllReadyH.cons (o := ?oop7_0) ?hop7_0 ?hsp7_0 AllReadyH.nil)
      case hop7_0 => (simp only [List.getElem?_toArray, List.getElem?_cons_succ, List.getElem?_cons_zero]; rfl)
      case hsp7_0 =>
        intro K hK
        go_simp
        (go_at_call 13; (refine (c2.out _ hRd).mono ?_); rintro en w2 ⟨rfl, hR_, hu_⟩)
        replace gq := hu_.cell gq (by dsimp only; omega)
        replace gb := hu_.heap gb (by omega)
        replace ho := hu_.owns ho (fun j hj e => by have := own_ge ho hj; omega)
        replace hU := hU.trans hu_ fun _ _ h => h
        replace z := hu_.cell z (by dsimp only; omega)
        replace hRd := hR_
        clear hR_ hu_
        try go_wp2_with fail
        refine hK.out _ _ (by exact gq) (fun hHeld => ?_)
        clear hK K
        try simp only [Act.put, List.setIfInBounds_toArray, List.set_cons_zero, List.set_cons_succ]
        (refine wpAnyH_take (i := 7) (oi := ?oi_p8) (v := ?v_p8) ?ho_p8 ?hs_p8 ?hf_p8 ?hr_p8 ?hQ_p8 ?hy_p8 ?hS_p8 ?rest_p8; (case hr_p8 => kernel_rfl); (case hf_p8 => kernel_rfl); (case hs_p8 => kernel_rfl); (case ho_p8 => (simp only [List.getElem?_toArray, List.getElem?_cons_succ, List.getElem?_cons_zero]; rfl)); (case hS_p8 => assumption); (case hQ_p8 => exact fun _ _ _ h => h); (case hy_p8 => (refine Or.inl ⟨by rfl, ?_⟩; (intro w hSw; (try dsimp only at hSw); go_simp) <;> with_reducible rfl)); (try simp only [Act.put, List.setIfInBounds_toArray, List.set_cons_zero, List.set_cons_succ]))
        refine wpAnyH_ready (rs := [8]) (by kernel_rfl) (by simp) ?_
        refine (AllReadyH.cons (o := ?oop9_0) ?hop9_0 ?hsp9_0 AllReadyH.nil)
        case hop9_0 => (simp only [List.getElem?_toArray, List.getElem?_cons_succ, List.getElem?_cons_zero]; rfl)
        case hsp9_0 =>
          intro K hK
          go_simp
          have hux := (Upd.refl Non w2).then_alloc (.cells #[.int .i64 n1, .int .i64 hs, .int .i64 hr, .int .i64 hi, .bool hg, .bool hn_] 61)
          have gq0 := gq
          replace gq := hux.cell gq fun h => h
          replace z := hux.cell z fun h => h
          clear hux
          refine hK.out _ _ (by exact gq) (fun hHeld => ?_)
          clear hK K
          try simp only [Act.put, List.setIfInBounds_toArray, List.set_cons_zero, List.set_cons_succ]
          refine wpAnyH_ready (rs := [9]) (by kernel_rfl) (by simp) ?_
          refine (AllReadyH.cons (o := ?oop10_0) ?hop10_0 ?hsp10_0 AllReadyH.nil)
          case hop10_0 => (simp only [List.getElem?_toArray, List.getElem?_cons_succ, List.getElem?_cons_zero]; rfl)
          case hsp10_0 =>
            intro K hK
            (go_must (refine step_app1p rfl _ _ 37 rfl base 61 (.agg #[.int .i64 0, .int .i64 0, .int .i64 0, .int .i64 0, .bool false, .bool false]) 6 40 Tryz.underlying37 hii.out rfl v l.length (l.flatMap ptC) rfl ho [.int .i64 n1, .int .i64 hs, .int .i64 hr, .int .i64 hi, .bool hg, .bool hn_] w2.heap.size rfl rfl rfl (by simp [Value.oneCell']) (by unfold maxLen; omega) (by omega) (by have := hU.size; omega) ?_); intro v6 w6 ho6 hu6 hf6; have g6 := hu6.cell gq0 (fun h => by have := own_ge ho h; dsimp only at this; omega); have gb6 := hu6.heap gb (fun h => by have := own_ge ho h; omega))
            refine hK.out _ _ (by exact g6) (fun hHeld => ?_)
            clear hK K
            try simp only [Act.put, List.setIfInBounds_toArray, List.set_cons_zero, List.set_cons_succ]
            (refine wpAnyH_take (i := 10) (oi := ?oi_p11) (v := ?v_p11) ?ho_p11 ?hs_p11 ?hf_p11 ?hr_p11 ?hQ_p11 ?hy_p11 ?hS_p11 ?rest_p11; (case hr_p11 => kernel_rfl); (case hf_p11 => kernel_rfl); (case hs_p11 => kernel_rfl); (case ho_p11 => (simp only [List.getElem?_toArray, List.getElem?_cons_succ, List.getElem?_cons_zero]; rfl)); (case hS_p11 => assumption); (case hQ_p11 => exact fun _ _ _ h => h); (case hy_p11 => (refine Or.inl ⟨by rfl, ?_⟩; (intro w hSw; (try dsimp only at hSw); go_simp) <;> with_reducible rfl)); (try simp only [Act.put, List.setIfInBounds_toArray, List.set_cons_zero, List.set_cons_succ]))
            refine wpAnyH_ready (rs := [11]) (by kernel_rfl) (by simp) ?_
            refine (AllReadyH.cons (o := ?oop12_0) ?hop12_0 ?hsp12_0 AllReadyH.nil)
            case hop12_0 => (simp only [List.getElem?_toArray, List.getElem?_cons_succ, List.getElem?_cons_zero]; rfl)
            case hsp12_0 =>
              intro K hK
              (refine step_store_cell rfl 37 _ _ rfl o 23 v6 _ _ rfl rfl gb6 (show 23 < 24 by omega) rfl (by obtain ⟨_, aa, cc, rfl, -⟩ := has_of_owns ho6; rfl) (by obtain ⟨_, aa, cc, rfl, -⟩ := has_of_owns ho6; rfl) ?_; intro w7 hb7 hu7; have g7 := hu7.cell g6 (by dsimp only; omega))
              refine hK.out _ _ (by exact g7) (fun hHeld => ?_)
              clear hK K
              try simp only [Act.put, List.setIfInBounds_toArray, List.set_cons_zero, List.set_cons_succ]
              refine wpAnyH_done (by kernel_rfl) ?_ _
              have hXs := hU.size
              have hu47 : Upd (fun k => k = r ∨ k = o ∨ At v k) w w7 := ((hU.mono fun _ _ h => .inl h).trans hu6 fun j hj h => .inr (.inr h)).trans hu7 fun _ _ h => .inr (.inl h)
              have hR7 : RdAt w7 r L s ra re := (hRd.upd hu6 fun j _ hj => .inr (by have := own_ge ho hj; omega)).upd hu7 fun j _ hj => .inr (by omega)
              have ho7 := hu7.owns ho6 (fun j hj e => by have := own_ge ho6 hj; omega)
              have ho8 : w7.ownsRow base 61 6 v6 (l ++ [(⟨n1, ⟨hs, hr, hi, hg, hn_⟩⟩ : Pt)]).length ((l ++ [(⟨n1, ⟨hs, hr, hi, hg, hn_⟩⟩ : Pt)]).flatMap ptC) := by rw [List.length_append, List.flatMap_append]; exact ho7
              have hf7 : ∀ k, At v6 k → At v k ∨ w.heap.size ≤ k := fun k hk => (hf6 k hk).imp (fun h => h) fun h => by omega
              have hg_ := Lib.hid (hfin.out w7 v6 hR7 hb7 ho8 hu47 hf7)
              clear hb7 ho7 ho8 ho6 hu6 hu7 hf6 gb6 gb ho hU hRd gq gq0 z hR7 g7 g6 hu47 hf7
              go_wp2_with fail
              go_returns
              exact hg_.out
  case hsp5_1 =>
    intro K hK
    go_simp
    (go_at_call 20; (refine (c1.out _ hRd).mono ?_); rintro en w3 ⟨rfl, hR_, hu_⟩)
    replace gq := hu_.cell gq (by dsimp only; omega)
    replace gb := hu_.heap gb (by omega)
    replace ho := hu_.owns ho (fun j hj e => by have := own_ge ho hj; omega)
    replace hU := hU.trans hu_ fun _ _ h => h
    replace z := hu_.cell z (by dsimp only; omega)
    replace hRd := hR_
    clear hR_ hu_
    try go_wp2_with fail
    refine hK.out _ _ (by exact gq) (fun hHeld => ?_)
    clear hK K
    try simp only [Act.put, List.setIfInBounds_toArray, List.set_cons_zero, List.set_cons_succ]
    refine wpAnyH_ready (rs := [1, 6]) (by kernel_rfl) (by simp) ?_
    refine (AllReadyH.cons (o := ?oop13_0) ?hop13_0 ?hsp13_0 (AllReadyH.cons (o := ?oop13_1) ?hop13_1 ?hsp13_1 AllReadyH.nil))
    case hop13_0 => (simp only [List.getElem?_toArray, List.getElem?_cons_succ, List.getElem?_cons_zero]; rfl)
    case hop13_1 => (simp only [List.getElem?_toArray, List.getElem?_cons_succ, List.getElem?_cons_zero]; rfl)
    case hsp13_0 =>
      intro K hK
      go_simp
      refine hK.out _ _ (by exact gq) (fun hHeld => ?_)
      clear hK K
      try simp only [Act.put, List.setIfInBounds_toArray, List.set_cons_zero, List.set_cons_succ]
      refine wpAnyH_ready (rs := [6]) (by kernel_rfl) (by simp) ?_
      refine (AllReadyH.cons (o := ?oop14_0) ?hop14_0 ?hsp14_0 AllReadyH.nil)
      case hop14_0 => (simp only [List.getElem?_toArray, List.getElem?_cons_succ, List.getElem?_cons_zero]; rfl)
      case hsp14_0 =>
        intro K hK
        go_simp
        (go_at_call 13; (refine (c2.out _ hRd).mono ?_); rintro en w4 ⟨rfl, hR_, hu_⟩)
        replace gq := hu_.cell gq (by dsimp only; omega)
        replace gb := hu_.heap gb (by omega)
        replace ho := hu_.owns ho (fun j hj e => by have := own_ge ho hj; omega)
        replace hU := hU.trans hu_ fun _ _ h => h
        replace z := hu_.cell z (by dsimp only; omega)
        replace hRd := hR_
        clear hR_ hu_
        try go_wp2_with fail
        refine hK.out _ _ (by exact gq) (fun hHeld => ?_)
        clear hK K
        try simp only [Act.put, List.setIfInBounds_toArray, List.set_cons_zero, List.set_cons_succ]
        (refine wpAnyH_take (i := 7) (oi := ?oi_p15) (v := ?v_p15) ?ho_p15 ?hs_p15 ?hf_p15 ?hr_p15 ?hQ_p15 ?hy_p15 ?hS_p15 ?rest_p15; (case hr_p15 => kernel_rfl); (case hf_p15 => kernel_rfl); (case hs_p15 => kernel_rfl); (case ho_p15 => (simp only [List.getElem?_toArray, List.getElem?_cons_succ, List.getElem?_cons_zero]; rfl)); (case hS_p15 => assumption); (case hQ_p15 => exact fun _ _ _ h => h); (case hy_p15 => (refine Or.inl ⟨by rfl, ?_⟩; (intro w hSw; (try dsimp only at hSw); go_simp) <;> with_reducible rfl)); (try simp only [Act.put, List.setIfInBounds_toArray, List.set_cons_zero, List.set_cons_succ]))
        refine wpAnyH_ready (rs := [8]) (by kernel_rfl) (by simp) ?_
        refine (AllReadyH.cons (o := ?oop16_0) ?hop16_0 ?hsp16_0 AllReadyH.nil)
        case hop16_0 => (simp only [List.getElem?_toArray, List.getElem?_cons_succ, List.getElem?_cons_zero]; rfl)
        case hsp16_0 =>
          intro K hK
          go_simp
          have hux := (Upd.refl Non w4).then_alloc (.cells #[.int .i64 n1, .int .i64 hs, .int .i64 hr, .int .i64 hi, .bool hg, .bool hn_] 61)
          have gq0 := gq
          replace gq := hux.cell gq fun h => h
          replace z := hux.cell z fun h => h
          clear hux
          refine hK.out _ _ (by exact gq) (fun hHeld => ?_)
          clear hK K
          try simp only [Act.put, List.setIfInBounds_toArray, List.set_cons_zero, List.set_cons_succ]
          refine wpAnyH_ready (rs := [9]) (by kernel_rfl) (by simp) ?_
          refine (AllReadyH.cons (o := ?oop17_0) ?hop17_0 ?hsp17_0 AllReadyH.nil)
          case hop17_0 => (simp only [List.getElem?_toArray, List.getElem?_cons_succ, List.getElem?_cons_zero]; rfl)
          case hsp17_0 =>
            intro K hK
            (go_must (refine step_app1p rfl _ _ 37 rfl base 61 (.agg #[.int .i64 0, .int .i64 0, .int .i64 0, .int .i64 0, .bool false, .bool false]) 6 40 Tryz.underlying37 hii.out rfl v l.length (l.flatMap ptC) rfl ho [.int .i64 n1, .int .i64 hs, .int .i64 hr, .int .i64 hi, .bool hg, .bool hn_] w4.heap.size rfl rfl rfl (by simp [Value.oneCell']) (by unfold maxLen; omega) (by omega) (by have := hU.size; omega) ?_); intro v6 w6 ho6 hu6 hf6; have g6 := hu6.cell gq0 (fun h => by have := own_ge ho h; dsimp only at this; omega); have gb6 := hu6.heap gb (fun h => by have := own_ge ho h; omega))
            refine hK.out _ _ (by exact g6) (fun hHeld => ?_)
            clear hK K
            try simp only [Act.put, List.setIfInBounds_toArray, List.set_cons_zero, List.set_cons_succ]
            (refine wpAnyH_take (i := 10) (oi := ?oi_p18) (v := ?v_p18) ?ho_p18 ?hs_p18 ?hf_p18 ?hr_p18 ?hQ_p18 ?hy_p18 ?hS_p18 ?rest_p18; (case hr_p18 => kernel_rfl); (case hf_p18 => kernel_rfl); (case hs_p18 => kernel_rfl); (case ho_p18 => (simp only [List.getElem?_toArray, List.getElem?_cons_succ, List.getElem?_cons_zero]; rfl)); (case hS_p18 => assumption); (case hQ_p18 => exact fun _ _ _ h => h); (case hy_p18 => (refine Or.inl ⟨by rfl, ?_⟩; (intro w hSw; (try dsimp only at hSw); go_simp) <;> with_reducible rfl)); (try simp only [Act.put, List.setIfInBounds_toArray, List.set_cons_zero, List.set_cons_succ]))
            refine wpAnyH_ready (rs := [11]) (by kernel_rfl) (by simp) ?_
            refine (AllReadyH.cons (o := ?oop19_0) ?hop19_0 ?hsp19_0 AllReadyH.nil)
            case hop19_0 => (simp only [List.getElem?_toArray, List.getElem?_cons_succ, List.getElem?_cons_zero]; rfl)
            case hsp19_0 =>
              intro K hK
              (refine step_store_cell rfl 37 _ _ rfl o 23 v6 _ _ rfl rfl gb6 (show 23 < 24 by omega) rfl (by obtain ⟨_, aa, cc, rfl, -⟩ := has_of_owns ho6; rfl) (by obtain ⟨_, aa, cc, rfl, -⟩ := has_of_owns ho6; rfl) ?_; intro w7 hb7 hu7; have g7 := hu7.cell g6 (by dsimp only; omega))
              refine hK.out _ _ (by exact g7) (fun hHeld => ?_)
              clear hK K
              try simp only [Act.put, List.setIfInBounds_toArray, List.set_cons_zero, List.set_cons_succ]
              refine wpAnyH_done (by kernel_rfl) ?_ _
              have hXs := hU.size
              have hu47 : Upd (fun k => k = r ∨ k = o ∨ At v k) w w7 := ((hU.mono fun _ _ h => .inl h).trans hu6 fun j hj h => .inr (.inr h)).trans hu7 fun _ _ h => .inr (.inl h)
              have hR7 : RdAt w7 r L s ra re := (hRd.upd hu6 fun j _ hj => .inr (by have := own_ge ho hj; omega)).upd hu7 fun j _ hj => .inr (by omega)
              have ho7 := hu7.owns ho6 (fun j hj e => by have := own_ge ho6 hj; omega)
              have ho8 : w7.ownsRow base 61 6 v6 (l ++ [(⟨n1, ⟨hs, hr, hi, hg, hn_⟩⟩ : Pt)]).length ((l ++ [(⟨n1, ⟨hs, hr, hi, hg, hn_⟩⟩ : Pt)]).flatMap ptC) := by rw [List.length_append, List.flatMap_append]; exact ho7
              have hf7 : ∀ k, At v6 k → At v k ∨ w.heap.size ≤ k := fun k hk => (hf6 k hk).imp (fun h => h) fun h => by omega
              have hg_ := Lib.hid (hfin.out w7 v6 hR7 hb7 ho8 hu47 hf7)
              clear hb7 ho7 ho8 ho6 hu6 hu7 hf6 gb6 gb ho hU hRd gq gq0 z hR7 g7 g6 hu47 hf7
              go_wp2_with fail
              go_returns
              exact hg_.out
    case hsp13_1 =>
      intro K hK
      go_simp
      (go_at_call 13; (refine (c2.out _ hRd).mono ?_); rintro en w5 ⟨rfl, hR_, hu_⟩)
      replace gq := hu_.cell gq (by dsimp only; omega)
      replace gb := hu_.heap gb (by omega)
      replace ho := hu_.owns ho (fun j hj e => by have := own_ge ho hj; omega)
      replace hU := hU.trans hu_ fun _ _ h => h
      replace z := hu_.cell z (by dsimp only; omega)
      replace hRd := hR_
      clear hR_ hu_
      try go_wp2_with fail
      refine hK.out _ _ (by exact gq) (fun hHeld => ?_)
      clear hK K
      try simp only [Act.put, List.setIfInBounds_toArray, List.set_cons_zero, List.set_cons_succ]
      (refine wpAnyH_take (i := 7) (oi := ?oi_p20) (v := ?v_p20) ?ho_p20 ?hs_p20 ?hf_p20 ?hr_p20 ?hQ_p20 ?hy_p20 ?hS_p20 ?rest_p20; (case hr_p20 => kernel_rfl); (case hf_p20 => kernel_rfl); (case hs_p20 => kernel_rfl); (case ho_p20 => (simp only [List.getElem?_toArray, List.getElem?_cons_succ, List.getElem?_cons_zero]; rfl)); (case hS_p20 => assumption); (case hQ_p20 => exact fun _ _ _ h => h); (case hy_p20 => (refine Or.inl ⟨by rfl, ?_⟩; (intro w hSw; (try dsimp only at hSw); go_simp) <;> with_reducible rfl)); (try simp only [Act.put, List.setIfInBounds_toArray, List.set_cons_zero, List.set_cons_succ]))
      refine wpAnyH_ready (rs := [1, 8]) (by kernel_rfl) (by simp) ?_
      refine (AllReadyH.cons (o := ?oop21_0) ?hop21_0 ?hsp21_0 (AllReadyH.cons (o := ?oop21_1) ?hop21_1 ?hsp21_1 AllReadyH.nil))
      case hop21_0 => (simp only [List.getElem?_toArray, List.getElem?_cons_succ, List.getElem?_cons_zero]; rfl)
      case hop21_1 => (simp only [List.getElem?_toArray, List.getElem?_cons_succ, List.getElem?_cons_zero]; rfl)
      case hsp21_0 =>
        intro K hK
        go_simp
        refine hK.out _ _ (by exact gq) (fun hHeld => ?_)
        clear hK K
        try simp only [Act.put, List.setIfInBounds_toArray, List.set_cons_zero, List.set_cons_succ]
        refine wpAnyH_ready (rs := [8]) (by kernel_rfl) (by simp) ?_
        refine (AllReadyH.cons (o := ?oop22_0) ?hop22_0 ?hsp22_0 AllReadyH.nil)
        case hop22_0 => (simp only [List.getElem?_toArray, List.getElem?_cons_succ, List.getElem?_cons_zero]; rfl)
        case hsp22_0 =>
          intro K hK
          go_simp
          have hux := (Upd.refl Non w5).then_alloc (.cells #[.int .i64 n1, .int .i64 hs, .int .i64 hr, .int .i64 hi, .bool hg, .bool hn_] 61)
          have gq0 := gq
          replace gq := hux.cell gq fun h => h
          replace z := hux.cell z fun h => h
          clear hux
          refine hK.out _ _ (by exact gq) (fun hHeld => ?_)
          clear hK K
          try simp only [Act.put, List.setIfInBounds_toArray, List.set_cons_zero, List.set_cons_succ]
          refine wpAnyH_ready (rs := [9]) (by kernel_rfl) (by simp) ?_
          refine (AllReadyH.cons (o := ?oop23_0) ?hop23_0 ?hsp23_0 AllReadyH.nil)
          case hop23_0 => (simp only [List.getElem?_toArray, List.getElem?_cons_succ, List.getElem?_cons_zero]; rfl)
          case hsp23_0 =>
            intro K hK
            (go_must (refine step_app1p rfl _ _ 37 rfl base 61 (.agg #[.int .i64 0, .int .i64 0, .int .i64 0, .int .i64 0, .bool false, .bool false]) 6 40 Tryz.underlying37 hii.out rfl v l.length (l.flatMap ptC) rfl ho [.int .i64 n1, .int .i64 hs, .int .i64 hr, .int .i64 hi, .bool hg, .bool hn_] w5.heap.size rfl rfl rfl (by simp [Value.oneCell']) (by unfold maxLen; omega) (by omega) (by have := hU.size; omega) ?_); intro v6 w6 ho6 hu6 hf6; have g6 := hu6.cell gq0 (fun h => by have := own_ge ho h; dsimp only at this; omega); have gb6 := hu6.heap gb (fun h => by have := own_ge ho h; omega))
            refine hK.out _ _ (by exact g6) (fun hHeld => ?_)
            clear hK K
            try simp only [Act.put, List.setIfInBounds_toArray, List.set_cons_zero, List.set_cons_succ]
            (refine wpAnyH_take (i := 10) (oi := ?oi_p24) (v := ?v_p24) ?ho_p24 ?hs_p24 ?hf_p24 ?hr_p24 ?hQ_p24 ?hy_p24 ?hS_p24 ?rest_p24; (case hr_p24 => kernel_rfl); (case hf_p24 => kernel_rfl); (case hs_p24 => kernel_rfl); (case ho_p24 => (simp only [List.getElem?_toArray, List.getElem?_cons_succ, List.getElem?_cons_zero]; rfl)); (case hS_p24 => assumption); (case hQ_p24 => exact fun _ _ _ h => h); (case hy_p24 => (refine Or.inl ⟨by rfl, ?_⟩; (intro w hSw; (try dsimp only at hSw); go_simp) <;> with_reducible rfl)); (try simp only [Act.put, List.setIfInBounds_toArray, List.set_cons_zero, List.set_cons_succ]))
            refine wpAnyH_ready (rs := [11]) (by kernel_rfl) (by simp) ?_
            refine (AllReadyH.cons (o := ?oop25_0) ?hop25_0 ?hsp25_0 AllReadyH.nil)
            case hop25_0 => (simp only [List.getElem?_toArray, List.getElem?_cons_succ, List.getElem?_cons_zero]; rfl)
            case hsp25_0 =>
              intro K hK
              (refine step_store_cell rfl 37 _ _ rfl o 23 v6 _ _ rfl rfl gb6 (show 23 < 24 by omega) rfl (by obtain ⟨_, aa, cc, rfl, -⟩ := has_of_owns ho6; rfl) (by obtain ⟨_, aa, cc, rfl, -⟩ := has_of_owns ho6; rfl) ?_; intro w7 hb7 hu7; have g7 := hu7.cell g6 (by dsimp only; omega))
              refine hK.out _ _ (by exact g7) (fun hHeld => ?_)
              clear hK K
              try simp only [Act.put, List.setIfInBounds_toArray, List.set_cons_zero, List.set_cons_succ]
              refine wpAnyH_done (by kernel_rfl) ?_ _
              have hXs := hU.size
              have hu47 : Upd (fun k => k = r ∨ k = o ∨ At v k) w w7 := ((hU.mono fun _ _ h => .inl h).trans hu6 fun j hj h => .inr (.inr h)).trans hu7 fun _ _ h => .inr (.inl h)
              have hR7 : RdAt w7 r L s ra re := (hRd.upd hu6 fun j _ hj => .inr (by have := own_ge ho hj; omega)).upd hu7 fun j _ hj => .inr (by omega)
              have ho7 := hu7.owns ho6 (fun j hj e => by have := own_ge ho6 hj; omega)
              have ho8 : w7.ownsRow base 61 6 v6 (l ++ [(⟨n1, ⟨hs, hr, hi, hg, hn_⟩⟩ : Pt)]).length ((l ++ [(⟨n1, ⟨hs, hr, hi, hg, hn_⟩⟩ : Pt)]).flatMap ptC) := by rw [List.length_append, List.flatMap_append]; exact ho7
              have hf7 : ∀ k, At v6 k → At v k ∨ w.heap.size ≤ k := fun k hk => (hf6 k hk).imp (fun h => h) fun h => by omega
              have hg_ := Lib.hid (hfin.out w7 v6 hR7 hb7 ho8 hu47 hf7)
              clear hb7 ho7 ho8 ho6 hu6 hu7 hf6 gb6 gb ho hU hRd gq gq0 z hR7 g7 g6 hu47 hf7
              go_wp2_with fail
              go_returns
              exact hg_.out
      case hsp21_1 =>
        intro K hK
        go_simp
        have hux := (Upd.refl Non w5).then_alloc (.cells #[.int .i64 n1, .int .i64 hs, .int .i64 hr, .int .i64 hi, .bool hg, .bool hn_] 61)
        have gq0 := gq
        replace gq := hux.cell gq fun h => h
        replace z := hux.cell z fun h => h
        clear hux
        refine hK.out _ _ (by exact gq) (fun hHeld => ?_)
        clear hK K
        try simp only [Act.put, List.setIfInBounds_toArray, List.set_cons_zero, List.set_cons_succ]
        refine wpAnyH_ready (rs := [1]) (by kernel_rfl) (by simp) ?_
        refine (AllReadyH.cons (o := ?oop26_0) ?hop26_0 ?hsp26_0 AllReadyH.nil)
        case hop26_0 => (simp only [List.getElem?_toArray, List.getElem?_cons_succ, List.getElem?_cons_zero]; rfl)
        case hsp26_0 =>
          intro K hK
          go_simp
          refine hK.out _ _ (by exact gq) (fun hHeld => ?_)
          clear hK K
          try simp only [Act.put, List.setIfInBounds_toArray, List.set_cons_zero, List.set_cons_succ]
          refine wpAnyH_ready (rs := [9]) (by kernel_rfl) (by simp) ?_
          refine (AllReadyH.cons (o := ?oop27_0) ?hop27_0 ?hsp27_0 AllReadyH.nil)
          case hop27_0 => (simp only [List.getElem?_toArray, List.getElem?_cons_succ, List.getElem?_cons_zero]; rfl)
          case hsp27_0 =>
            intro K hK
            (go_must (refine step_app1p rfl _ _ 37 rfl base 61 (.agg #[.int .i64 0, .int .i64 0, .int .i64 0, .int .i64 0, .bool false, .bool false]) 6 40 Tryz.underlying37 hii.out rfl v l.length (l.flatMap ptC) rfl ho [.int .i64 n1, .int .i64 hs, .int .i64 hr, .int .i64 hi, .bool hg, .bool hn_] w5.heap.size rfl rfl rfl (by simp [Value.oneCell']) (by unfold maxLen; omega) (by omega) (by have := hU.size; omega) ?_); intro v6 w6 ho6 hu6 hf6; have g6 := hu6.cell gq0 (fun h => by have := own_ge ho h; dsimp only at this; omega); have gb6 := hu6.heap gb (fun h => by have := own_ge ho h; omega))
            refine hK.out _ _ (by exact g6) (fun hHeld => ?_)
            clear hK K
            try simp only [Act.put, List.setIfInBounds_toArray, List.set_cons_zero, List.set_cons_succ]
            (refine wpAnyH_take (i := 10) (oi := ?oi_p28) (v := ?v_p28) ?ho_p28 ?hs_p28 ?hf_p28 ?hr_p28 ?hQ_p28 ?hy_p28 ?hS_p28 ?rest_p28; (case hr_p28 => kernel_rfl); (case hf_p28 => kernel_rfl); (case hs_p28 => kernel_rfl); (case ho_p28 => (simp only [List.getElem?_toArray, List.getElem?_cons_succ, List.getElem?_cons_zero]; rfl)); (case hS_p28 => assumption); (case hQ_p28 => exact fun _ _ _ h => h); (case hy_p28 => (refine Or.inl ⟨by rfl, ?_⟩; (intro w hSw; (try dsimp only at hSw); go_simp) <;> with_reducible rfl)); (try simp only [Act.put, List.setIfInBounds_toArray, List.set_cons_zero, List.set_cons_succ]))
            refine wpAnyH_ready (rs := [11]) (by kernel_rfl) (by simp) ?_
            refine (AllReadyH.cons (o := ?oop29_0) ?hop29_0 ?hsp29_0 AllReadyH.nil)
            case hop29_0 => (simp only [List.getElem?_toArray, List.getElem?_cons_succ, List.getElem?_cons_zero]; rfl)
            case hsp29_0 =>
              intro K hK
              (refine step_store_cell rfl 37 _ _ rfl o 23 v6 _ _ rfl rfl gb6 (show 23 < 24 by omega) rfl (by obtain ⟨_, aa, cc, rfl, -⟩ := has_of_owns ho6; rfl) (by obtain ⟨_, aa, cc, rfl, -⟩ := has_of_owns ho6; rfl) ?_; intro w7 hb7 hu7; have g7 := hu7.cell g6 (by dsimp only; omega))
              refine hK.out _ _ (by exact g7) (fun hHeld => ?_)
              clear hK K
              try simp only [Act.put, List.setIfInBounds_toArray, List.set_cons_zero, List.set_cons_succ]
              refine wpAnyH_done (by kernel_rfl) ?_ _
              have hXs := hU.size
              have hu47 : Upd (fun k => k = r ∨ k = o ∨ At v k) w w7 := ((hU.mono fun _ _ h => .inl h).trans hu6 fun j hj h => .inr (.inr h)).trans hu7 fun _ _ h => .inr (.inl h)
              have hR7 : RdAt w7 r L s ra re := (hRd.upd hu6 fun j _ hj => .inr (by have := own_ge ho hj; omega)).upd hu7 fun j _ hj => .inr (by omega)
              have ho7 := hu7.owns ho6 (fun j hj e => by have := own_ge ho6 hj; omega)
              have ho8 : w7.ownsRow base 61 6 v6 (l ++ [(⟨n1, ⟨hs, hr, hi, hg, hn_⟩⟩ : Pt)]).length ((l ++ [(⟨n1, ⟨hs, hr, hi, hg, hn_⟩⟩ : Pt)]).flatMap ptC) := by rw [List.length_append, List.flatMap_append]; exact ho7
              have hf7 : ∀ k, At v6 k → At v k ∨ w.heap.size ≤ k := fun k hk => (hf6 k hk).imp (fun h => h) fun h => by omega
              have hg_ := Lib.hid (hfin.out w7 v6 hR7 hb7 ho8 hu47 hf7)
              clear hb7 ho7 ho8 ho6 hu6 hu7 hf6 gb6 gb ho hU hRd gq gq0 z hR7 g7 g6 hu47 hf7
              go_wp2_with fail
              go_returns
              exact hg_.out
end Go.Proofs.YtogekobpjjmnjaaGreat
