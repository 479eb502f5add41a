/- The walk over layout.Span. -/
import Derived.Test.YtaflpabpkpfifaaDoorMLyD
namespace Go.Proofs.YtaflpabpkpfifaaDoor
set_option maxRecDepth 100000
open Go.RowKit Go.Amb
set_option linter.unusedVariables false
attribute [local go_sem ↓] Go.wp_at_zero Go.wp_at_succ

theorem yBehind (s : List UInt8) (w : World) (hs : s.length ≤ 1000) : Calls Tryd.prog 39 #[.string ⟨s.toArray⟩] w fun e w' => e = .returned (.string ⟨(s ++ [255]).toArray⟩) ∧ w = w' := by
  have h : s.length + 1 ≤ 9223372036854775807 := by omega
  go_enter Tryd.func39, Tryd.ntmps39
  go_wp2_with fail
  go_ret
  exact ⟨congrArg (fun b => Ending.returned (.string b)) (ByteArray.mk_append_mk s [255]), rfl⟩
theorem encK_len (x : Ky) : (encK x).length ≤ 128 := by
  unfold encK encR
  split
  · split
    · assumption
    · simp
  · simp
def spV (p : Str × Str) : Value := .agg #[txtV p.1, txtV p.2]
theorem spanR_arg {x : Ky} (h : ¬ (numbersB x = true ∧ (x.b = [] → x.o = []) ∧ (x.o = [] → x.ns = []))) : spanR x = (([], []), 2) := by unfold spanR; rw [if_neg h]
theorem spanR_name {x : Ky} (h : numbersB x = true ∧ (x.b = [] → x.o = []) ∧ (x.o = [] → x.ns = [])) (h2 : ¬ ((x.b = [] ∨ bk x.b = 0) ∧ (x.o = [] ∨ obj x.o = 0))) : spanR x = (([], []), 15) := by unfold spanR; rw [if_pos h, if_neg h2]
theorem spanR_ok {x : Ky} (h : numbersB x = true ∧ (x.b = [] → x.o = []) ∧ (x.o = [] → x.ns = [])) (h2 : (x.b = [] ∨ bk x.b = 0) ∧ (x.o = [] ∨ obj x.o = 0)) : spanR x = ((encK x, encK x ++ [255]), 0) := by unfold spanR; rw [if_pos h, if_pos h2]

theorem size_span : Hid ((Tryd.prog.info? 34).map (·.size) = some 2) := Lib.hid (by kernel_rfl)
set_option maxHeartbeats 4000000 in
theorem ySpan (x : Ky) (nv : Value) (w : World) (hN : Ints w nv x.ns) (hn : ∀ n ∈ x.ns, i64Ok n) (hsb : x.b.length ≤ 140737488355328) (hso : x.o.length ≤ 140737488355328) :
    Calls Tryd.prog 12 #[kyV x nv] w (Ret (.tuple #[spV (spanR x).1, .int .i64 (spanR x).2]) w) := by
  have hcN := Lib.hid (fun w' (hu : Upd Non w w') => yNumbers x nv w' (hN.upd hu fun _ _ h => h))
  have hcK := Lib.hid (yNums x.k)
  have hcB := Lib.hid (fun w => lBucket x.b w hsb)
  have hcO := Lib.hid (fun w => lObject x.o w hso)
  have hcE : Hid (numbersB x = true → ∀ w1, Upd Non w w1 → Calls Tryd.prog 32 #[kyV x nv, .slice (some ⟨w1.heap.size, 0, none⟩) 2 2] (w1.alloc (.cells #[.string ⟨x.b.toArray⟩, .string ⟨x.o.toArray⟩] 9)) (Ret (txtV (encK x)) (w1.alloc (.cells #[.string ⟨x.b.toArray⟩, .string ⟨x.o.toArray⟩] 9)))) := Lib.hid (by
    intro hb w1 hu
    have hk := numbersB_kind hb
    have ht : Txts (w1.alloc (.cells #[.string ⟨x.b.toArray⟩, .string ⟨x.o.toArray⟩] 9)) (.slice (some ⟨w1.heap.size, 0, none⟩) 2 2) [x.b, x.o] :=
      has_of_owns (World.ownsRow_lit (base := 0) (size := 1) (e := 9) w1 #[.string ⟨x.b.toArray⟩, .string ⟨x.o.toArray⟩] 2 (Nat.zero_le _) (by decide) rfl)
    have := yEncode x nv (.slice (some ⟨w1.heap.size, 0, none⟩) 2 2) [x.b, x.o] (w1.alloc (.cells #[.string ⟨x.b.toArray⟩, .string ⟨x.o.toArray⟩] 9)) ⟨hk.1, hk.2.1⟩ hn (by simp) (by simp; exact ⟨hsb, hso⟩) hk.2.2 (hN.upd (hu.then_alloc _) fun _ _ h => h) ht
    rw [partsTo_two] at this
    exact this)
  obtain ⟨a, c, rfl, hlc, hc, -⟩ := ints_at hN
  have hmx := hc
  unfold maxLen at hmx
  by_cases hnb : numbersB x = true
  · rw [hnb] at hcN
    replace hcE := Lib.hid (hcE.out hnb)
    obtain ⟨k, b, o, ns⟩ := x
    cases b with
    | nil =>
      cases o with
      | nil =>
        by_cases hz : ns = []
        · have hsp := spanR_ok (x := ⟨k, [], [], ns⟩) ⟨hnb, fun _ => rfl, fun _ => hz⟩ ⟨.inl rfl, .inl rfl⟩
          have hz2 : ¬ 0 < ns.length := by rw [hz]; simp
          clear hz
          have hEl := encK_len (⟨k, [], [], ns⟩ : Ky)
          generalize hes : encK (⟨k, [], [], ns⟩ : Ky) = s at *
          clear hes
          replace hnb := Lib.hid hnb
          replace hsp := Lib.hid hsp
          unfold kyV txtV at *
          go_enter Tryd.func12, Tryd.ntmps12
          simp only at *
          go_wp2_with fail
          refine (hcN.out _ ((Upd.alloc Non w _).then_alloc _)).mono ?_
          rintro e w2 ⟨rfl, hX⟩
          have q := (hX.own2 (fun _ h => h.elim)).1
          have c0 := q 0
          have c1 := q 1
          have c2 := q 2
          have c3 := q 3
          clear q
          go_wp2_with fail
          refine (hcE.out _ (hX.own2 (fun _ h => h.elim)).2.2.2.2.2.2).mono ?_
          rintro e w6 ⟨rfl, hu6⟩
          replace hX := (hX.then_alloc _).trans hu6 fun _ _ h => h
          clear hu6 c0 c1 c2 c3
          go_wp2_with fail
          refine (yBehind s _ (by omega)).mono ?_
          rintro e w7 ⟨rfl, rfl⟩
          have hb := hX.heap (heap_alloc2_new w _ _) fun h => h
          have hU := (hX.own2 (fun _ h => h.elim)).2.2.2.2.2.2
          clear hX
          try simp only []
          go_wp2_with ((with_reducible (show wpList _ _ _ (⟨_, Op.store _ _ _, _, _, _, _⟩ :: _) _ _)); refine storeB_list rfl 34 _ _ rfl (w.heap.size + 1) #[.string ⟨s.toArray⟩, .string ⟨(s ++ [255]).toArray⟩] _ _ rfl rfl hb rfl size_span.out (by simp [Value.oneCell']) ?_)
          intro w5 hb5 hu5
          obtain ⟨x0, x1⟩ := cell2 hb5
          have hU5 := hU.trans hu5 (fun k hk e => by omega)
          clear hb hb5 hu5 hU
          go_wp2_with fail
          refine bodyPost_ret (v := .tuple #[.agg #[.string ⟨s.toArray⟩, .string ⟨(s ++ [255]).toArray⟩], .int .i64 0]) (by simp [results, Tryd.results12, go_sem, x0, x1]; try rfl) rfl ⟨by rw [hsp.out]; rfl, hU5⟩
        · have hsp := spanR_arg (x := ⟨k, [], [], ns⟩) (fun e => hz (e.2.2 rfl))
          have hz2 : 0 < ns.length := List.length_pos_iff.2 hz
          clear hz
          have hEl := encK_len (⟨k, [], [], ns⟩ : Ky)
          generalize hes : encK (⟨k, [], [], ns⟩ : Ky) = s at *
          clear hes
          replace hnb := Lib.hid hnb
          replace hsp := Lib.hid hsp
          unfold kyV txtV at *
          go_enter Tryd.func12, Tryd.ntmps12
          simp only at *
          go_wp2_with fail
          refine (hcN.out _ ((Upd.alloc Non w _).then_alloc _)).mono ?_
          rintro e w2 ⟨rfl, hX⟩
          have q := (hX.own2 (fun _ h => h.elim)).1
          have c0 := q 0
          have c1 := q 1
          have c2 := q 2
          have c3 := q 3
          clear q
          have hb := hX.heap (heap_alloc2_new w _ _) fun h => h
          have hU := (hX.own2 (fun _ h => h.elim)).2.2.2.2.2.2
          clear hX
          try simp only []
          go_wp2_with ((with_reducible (show wpList _ _ _ (⟨_, Op.store _ _ _, _, _, _, _⟩ :: _) _ _)); refine storeB_list rfl 34 _ _ rfl (w.heap.size + 1) #[.string ⟨#[]⟩, .string ⟨#[]⟩] _ _ rfl rfl hb rfl size_span.out (by simp [Value.oneCell']) ?_)
          intro w5 hb5 hu5
          obtain ⟨x0, x1⟩ := cell2 hb5
          have hU5 := hU.trans hu5 (fun k hk e => by omega)
          clear hb hb5 hu5 hU
          go_wp2_with fail
          refine bodyPost_ret (v := .tuple #[.agg #[.string ⟨#[]⟩, .string ⟨#[]⟩], .int .i64 2]) (by simp [results, Tryd.results12, go_sem, x0, x1]; try rfl) rfl ⟨by rw [hsp.out]; rfl, hU5⟩
      | cons o0 or =>
        have hsp := spanR_arg (x := ⟨k, [], o0 :: or, ns⟩) (fun e => by simp at e)
        have hEl := encK_len (⟨k, [], o0 :: or, ns⟩ : Ky)
        generalize hes : encK (⟨k, [], o0 :: or, ns⟩ : Ky) = s at *
        clear hes
        replace hnb := Lib.hid hnb
        replace hsp := Lib.hid hsp
        unfold kyV txtV at *
        go_enter Tryd.func12, Tryd.ntmps12
        simp only at *
        go_wp2_with fail
        refine (hcN.out _ ((Upd.alloc Non w _).then_alloc _)).mono ?_
        rintro e w2 ⟨rfl, hX⟩
        have q := (hX.own2 (fun _ h => h.elim)).1
        have c0 := q 0
        have c1 := q 1
        have c2 := q 2
        have c3 := q 3
        clear q
        have hb := hX.heap (heap_alloc2_new w _ _) fun h => h
        have hU := (hX.own2 (fun _ h => h.elim)).2.2.2.2.2.2
        clear hX
        try simp only []
        go_wp2_with ((with_reducible (show wpList _ _ _ (⟨_, Op.store _ _ _, _, _, _, _⟩ :: _) _ _)); refine storeB_list rfl 34 _ _ rfl (w.heap.size + 1) #[.string ⟨#[]⟩, .string ⟨#[]⟩] _ _ rfl rfl hb rfl size_span.out (by simp [Value.oneCell']) ?_)
        intro w5 hb5 hu5
        obtain ⟨x0, x1⟩ := cell2 hb5
        have hU5 := hU.trans hu5 (fun k hk e => by omega)
        clear hb hb5 hu5 hU
        go_wp2_with fail
        refine bodyPost_ret (v := .tuple #[.agg #[.string ⟨#[]⟩, .string ⟨#[]⟩], .int .i64 2]) (by simp [results, Tryd.results12, go_sem, x0, x1]; try rfl) rfl ⟨by rw [hsp.out]; rfl, hU5⟩
    | cons b0 br =>
      have hbn : (b0 :: br : Str) ≠ [] := by simp
      cases o with
      | nil =>
        by_cases hz : ns = []
        · have hz2 : ¬ 0 < ns.length := by rw [hz]; simp
          rcases bk_or (b0 :: br) with hb0 | hb0
          · have hsp := spanR_ok (x := ⟨k, b0 :: br, [], ns⟩) ⟨hnb, fun _ => rfl, fun _ => hz⟩ ⟨.inr hb0, .inl rfl⟩
            rw [hb0] at hcB
            clear hz hb0
            have hEl := encK_len (⟨k, b0 :: br, [], ns⟩ : Ky)
            generalize hes : encK (⟨k, b0 :: br, [], ns⟩ : Ky) = s at *
            clear hes
            replace hnb := Lib.hid hnb
            replace hsp := Lib.hid hsp
            unfold kyV txtV at *
            go_enter Tryd.func12, Tryd.ntmps12
            simp only at *
            go_wp2_with fail
            refine (hcN.out _ ((Upd.alloc Non w _).then_alloc _)).mono ?_
            rintro e w2 ⟨rfl, hX⟩
            have q := (hX.own2 (fun _ h => h.elim)).1
            have c0 := q 0
            have c1 := q 1
            have c2 := q 2
            have c3 := q 3
            clear q
            go_wp2_with fail
            refine (hcB.out _).mono ?_
            rintro e w3 ⟨rfl, hu3⟩
            replace hX := hX.trans hu3 fun _ _ h => h
            clear hu3 c0 c1 c2 c3
            have q := (hX.own2 (fun _ h => h.elim)).1
            have c0 := q 0
            have c1 := q 1
            have c2 := q 2
            have c3 := q 3
            clear q
            go_wp2_with fail
            refine (hcE.out _ (hX.own2 (fun _ h => h.elim)).2.2.2.2.2.2).mono ?_
            rintro e w6 ⟨rfl, hu6⟩
            replace hX := (hX.then_alloc _).trans hu6 fun _ _ h => h
            clear hu6 c0 c1 c2 c3
            go_wp2_with fail
            refine (yBehind s _ (by omega)).mono ?_
            rintro e w7 ⟨rfl, rfl⟩
            have hb := hX.heap (heap_alloc2_new w _ _) fun h => h
            have hU := (hX.own2 (fun _ h => h.elim)).2.2.2.2.2.2
            clear hX
            try simp only []
            go_wp2_with ((with_reducible (show wpList _ _ _ (⟨_, Op.store _ _ _, _, _, _, _⟩ :: _) _ _)); refine storeB_list rfl 34 _ _ rfl (w.heap.size + 1) #[.string ⟨s.toArray⟩, .string ⟨(s ++ [255]).toArray⟩] _ _ rfl rfl hb rfl size_span.out (by simp [Value.oneCell']) ?_)
            intro w5 hb5 hu5
            obtain ⟨x0, x1⟩ := cell2 hb5
            have hU5 := hU.trans hu5 (fun k hk e => by omega)
            clear hb hb5 hu5 hU
            go_wp2_with fail
            refine bodyPost_ret (v := .tuple #[.agg #[.string ⟨s.toArray⟩, .string ⟨(s ++ [255]).toArray⟩], .int .i64 0]) (by simp [results, Tryd.results12, go_sem, x0, x1]; try rfl) rfl ⟨by rw [hsp.out]; rfl, hU5⟩
          · have hsp := spanR_name (x := ⟨k, b0 :: br, [], ns⟩) ⟨hnb, fun _ => rfl, fun _ => hz⟩ (fun e => by rcases e.1 with h | h; exact hbn h; simp only at h; rw [hb0] at h; cases h)
            rw [hb0] at hcB
            clear hz hb0
            have hEl := encK_len (⟨k, b0 :: br, [], ns⟩ : Ky)
            generalize hes : encK (⟨k, b0 :: br, [], ns⟩ : Ky) = s at *
            clear hes
            replace hnb := Lib.hid hnb
            replace hsp := Lib.hid hsp
            unfold kyV txtV at *
            go_enter Tryd.func12, Tryd.ntmps12
            simp only at *
            go_wp2_with fail
            refine (hcN.out _ ((Upd.alloc Non w _).then_alloc _)).mono ?_
            rintro e w2 ⟨rfl, hX⟩
            have q := (hX.own2 (fun _ h => h.elim)).1
            have c0 := q 0
            have c1 := q 1
            have c2 := q 2
            have c3 := q 3
            clear q
            go_wp2_with fail
            refine (hcB.out _).mono ?_
            rintro e w3 ⟨rfl, hu3⟩
            replace hX := hX.trans hu3 fun _ _ h => h
            clear hu3 c0 c1 c2 c3
            have q := (hX.own2 (fun _ h => h.elim)).1
            have c0 := q 0
            have c1 := q 1
            have c2 := q 2
            have c3 := q 3
            clear q
            have hb := hX.heap (heap_alloc2_new w _ _) fun h => h
            have hU := (hX.own2 (fun _ h => h.elim)).2.2.2.2.2.2
            clear hX
            try simp only []
            go_wp2_with ((with_reducible (show wpList _ _ _ (⟨_, Op.store _ _ _, _, _, _, _⟩ :: _) _ _)); refine storeB_list rfl 34 _ _ rfl (w.heap.size + 1) #[.string ⟨#[]⟩, .string ⟨#[]⟩] _ _ rfl rfl hb rfl size_span.out (by simp [Value.oneCell']) ?_)
            intro w5 hb5 hu5
            obtain ⟨x0, x1⟩ := cell2 hb5
            have hU5 := hU.trans hu5 (fun k hk e => by omega)
            clear hb hb5 hu5 hU
            go_wp2_with fail
            refine bodyPost_ret (v := .tuple #[.agg #[.string ⟨#[]⟩, .string ⟨#[]⟩], .int .i64 15]) (by simp [results, Tryd.results12, go_sem, x0, x1]; try rfl) rfl ⟨by rw [hsp.out]; rfl, hU5⟩
        · have hsp := spanR_arg (x := ⟨k, b0 :: br, [], ns⟩) (fun e => hz (e.2.2 rfl))
          have hz2 : 0 < ns.length := List.length_pos_iff.2 hz
          clear hz
          have hEl := encK_len (⟨k, b0 :: br, [], ns⟩ : Ky)
          generalize hes : encK (⟨k, b0 :: br, [], ns⟩ : Ky) = s at *
          clear hes
          replace hnb := Lib.hid hnb
          replace hsp := Lib.hid hsp
          unfold kyV txtV at *
          go_enter Tryd.func12, Tryd.ntmps12
          simp only at *
          go_wp2_with fail
          refine (hcN.out _ ((Upd.alloc Non w _).then_alloc _)).mono ?_
          rintro e w2 ⟨rfl, hX⟩
          have q := (hX.own2 (fun _ h => h.elim)).1
          have c0 := q 0
          have c1 := q 1
          have c2 := q 2
          have c3 := q 3
          clear q
          have hb := hX.heap (heap_alloc2_new w _ _) fun h => h
          have hU := (hX.own2 (fun _ h => h.elim)).2.2.2.2.2.2
          clear hX
          try simp only []
          go_wp2_with ((with_reducible (show wpList _ _ _ (⟨_, Op.store _ _ _, _, _, _, _⟩ :: _) _ _)); refine storeB_list rfl 34 _ _ rfl (w.heap.size + 1) #[.string ⟨#[]⟩, .string ⟨#[]⟩] _ _ rfl rfl hb rfl size_span.out (by simp [Value.oneCell']) ?_)
          intro w5 hb5 hu5
          obtain ⟨x0, x1⟩ := cell2 hb5
          have hU5 := hU.trans hu5 (fun k hk e => by omega)
          clear hb hb5 hu5 hU
          go_wp2_with fail
          refine bodyPost_ret (v := .tuple #[.agg #[.string ⟨#[]⟩, .string ⟨#[]⟩], .int .i64 2]) (by simp [results, Tryd.results12, go_sem, x0, x1]; try rfl) rfl ⟨by rw [hsp.out]; rfl, hU5⟩
      | cons o0 or =>
        have hon : (o0 :: or : Str) ≠ [] := by simp
        rcases bk_or (b0 :: br) with hb0 | hb0
        · rcases obj_or (o0 :: or) with ho0 | ho0
          · have hsp := spanR_ok (x := ⟨k, b0 :: br, o0 :: or, ns⟩) ⟨hnb, fun e => absurd e hbn, fun e => absurd e hon⟩ ⟨.inr hb0, .inr ho0⟩
            rw [hb0] at hcB
            rw [ho0] at hcO
            clear hb0 ho0
            have hEl := encK_len (⟨k, b0 :: br, o0 :: or, ns⟩ : Ky)
            generalize hes : encK (⟨k, b0 :: br, o0 :: or, ns⟩ : Ky) = s at *
            clear hes
            replace hnb := Lib.hid hnb
            replace hsp := Lib.hid hsp
            unfold kyV txtV at *
            go_enter Tryd.func12, Tryd.ntmps12
            simp only at *
            go_wp2_with fail
            refine (hcN.out _ ((Upd.alloc Non w _).then_alloc _)).mono ?_
            rintro e w2 ⟨rfl, hX⟩
            have q := (hX.own2 (fun _ h => h.elim)).1
            have c0 := q 0
            have c1 := q 1
            have c2 := q 2
            have c3 := q 3
            clear q
            go_wp2_with fail
            refine (hcB.out _).mono ?_
            rintro e w3 ⟨rfl, hu3⟩
            replace hX := hX.trans hu3 fun _ _ h => h
            clear hu3 c0 c1 c2 c3
            have q := (hX.own2 (fun _ h => h.elim)).1
            have c0 := q 0
            have c1 := q 1
            have c2 := q 2
            have c3 := q 3
            clear q
            go_wp2_with fail
            refine (hcO.out _).mono ?_
            rintro e w4 ⟨rfl, hu4⟩
            replace hX := hX.trans hu4 fun _ _ h => h
            clear hu4 c0 c1 c2 c3
            have q := (hX.own2 (fun _ h => h.elim)).1
            have c0 := q 0
            have c1 := q 1
            have c2 := q 2
            have c3 := q 3
            clear q
            go_wp2_with fail
            refine (hcE.out _ (hX.own2 (fun _ h => h.elim)).2.2.2.2.2.2).mono ?_
            rintro e w6 ⟨rfl, hu6⟩
            replace hX := (hX.then_alloc _).trans hu6 fun _ _ h => h
            clear hu6 c0 c1 c2 c3
            go_wp2_with fail
            refine (yBehind s _ (by omega)).mono ?_
            rintro e w7 ⟨rfl, rfl⟩
            have hb := hX.heap (heap_alloc2_new w _ _) fun h => h
            have hU := (hX.own2 (fun _ h => h.elim)).2.2.2.2.2.2
            clear hX
            try simp only []
            go_wp2_with ((with_reducible (show wpList _ _ _ (⟨_, Op.store _ _ _, _, _, _, _⟩ :: _) _ _)); refine storeB_list rfl 34 _ _ rfl (w.heap.size + 1) #[.string ⟨s.toArray⟩, .string ⟨(s ++ [255]).toArray⟩] _ _ rfl rfl hb rfl size_span.out (by simp [Value.oneCell']) ?_)
            intro w5 hb5 hu5
            obtain ⟨x0, x1⟩ := cell2 hb5
            have hU5 := hU.trans hu5 (fun k hk e => by omega)
            clear hb hb5 hu5 hU
            go_wp2_with fail
            refine bodyPost_ret (v := .tuple #[.agg #[.string ⟨s.toArray⟩, .string ⟨(s ++ [255]).toArray⟩], .int .i64 0]) (by simp [results, Tryd.results12, go_sem, x0, x1]; try rfl) rfl ⟨by rw [hsp.out]; rfl, hU5⟩
          · have hsp := spanR_name (x := ⟨k, b0 :: br, o0 :: or, ns⟩) ⟨hnb, fun e => absurd e hbn, fun e => absurd e hon⟩ (fun e => by rcases e.2 with h | h; exact hon h; simp only at h; rw [ho0] at h; cases h)
            rw [hb0] at hcB
            rw [ho0] at hcO
            clear hb0 ho0
            have hEl := encK_len (⟨k, b0 :: br, o0 :: or, ns⟩ : Ky)
            generalize hes : encK (⟨k, b0 :: br, o0 :: or, ns⟩ : Ky) = s at *
            clear hes
            replace hnb := Lib.hid hnb
            replace hsp := Lib.hid hsp
            unfold kyV txtV at *
            go_enter Tryd.func12, Tryd.ntmps12
            simp only at *
            go_wp2_with fail
            refine (hcN.out _ ((Upd.alloc Non w _).then_alloc _)).mono ?_
            rintro e w2 ⟨rfl, hX⟩
            have q := (hX.own2 (fun _ h => h.elim)).1
            have c0 := q 0
            have c1 := q 1
            have c2 := q 2
            have c3 := q 3
            clear q
            go_wp2_with fail
            refine (hcB.out _).mono ?_
            rintro e w3 ⟨rfl, hu3⟩
            replace hX := hX.trans hu3 fun _ _ h => h
            clear hu3 c0 c1 c2 c3
            have q := (hX.own2 (fun _ h => h.elim)).1
            have c0 := q 0
            have c1 := q 1
            have c2 := q 2
            have c3 := q 3
            clear q
            go_wp2_with fail
            refine (hcO.out _).mono ?_
            rintro e w4 ⟨rfl, hu4⟩
            replace hX := hX.trans hu4 fun _ _ h => h
            clear hu4 c0 c1 c2 c3
            have q := (hX.own2 (fun _ h => h.elim)).1
            have c0 := q 0
            have c1 := q 1
            have c2 := q 2
            have c3 := q 3
            clear q
            have hb := hX.heap (heap_alloc2_new w _ _) fun h => h
            have hU := (hX.own2 (fun _ h => h.elim)).2.2.2.2.2.2
            clear hX
            try simp only []
            go_wp2_with ((with_reducible (show wpList _ _ _ (⟨_, Op.store _ _ _, _, _, _, _⟩ :: _) _ _)); refine storeB_list rfl 34 _ _ rfl (w.heap.size + 1) #[.string ⟨#[]⟩, .string ⟨#[]⟩] _ _ rfl rfl hb rfl size_span.out (by simp [Value.oneCell']) ?_)
            intro w5 hb5 hu5
            obtain ⟨x0, x1⟩ := cell2 hb5
            have hU5 := hU.trans hu5 (fun k hk e => by omega)
            clear hb hb5 hu5 hU
            go_wp2_with fail
            refine bodyPost_ret (v := .tuple #[.agg #[.string ⟨#[]⟩, .string ⟨#[]⟩], .int .i64 15]) (by simp [results, Tryd.results12, go_sem, x0, x1]; try rfl) rfl ⟨by rw [hsp.out]; rfl, hU5⟩
        · have hsp := spanR_name (x := ⟨k, b0 :: br, o0 :: or, ns⟩) ⟨hnb, fun e => absurd e hbn, fun e => absurd e hon⟩ (fun e => by rcases e.1 with h | h; exact hbn h; simp only at h; rw [hb0] at h; cases h)
          rw [hb0] at hcB
          clear hb0
          have hEl := encK_len (⟨k, b0 :: br, o0 :: or, ns⟩ : Ky)
          generalize hes : encK (⟨k, b0 :: br, o0 :: or, ns⟩ : Ky) = s at *
          clear hes
          replace hnb := Lib.hid hnb
          replace hsp := Lib.hid hsp
          unfold kyV txtV at *
          go_enter Tryd.func12, Tryd.ntmps12
          simp only at *
          go_wp2_with fail
          refine (hcN.out _ ((Upd.alloc Non w _).then_alloc _)).mono ?_
          rintro e w2 ⟨rfl, hX⟩
          have q := (hX.own2 (fun _ h => h.elim)).1
          have c0 := q 0
          have c1 := q 1
          have c2 := q 2
          have c3 := q 3
          clear q
          go_wp2_with fail
          refine (hcB.out _).mono ?_
          rintro e w3 ⟨rfl, hu3⟩
          replace hX := hX.trans hu3 fun _ _ h => h
          clear hu3 c0 c1 c2 c3
          have q := (hX.own2 (fun _ h => h.elim)).1
          have c0 := q 0
          have c1 := q 1
          have c2 := q 2
          have c3 := q 3
          clear q
          have hb := hX.heap (heap_alloc2_new w _ _) fun h => h
          have hU := (hX.own2 (fun _ h => h.elim)).2.2.2.2.2.2
          clear hX
          try simp only []
          go_wp2_with ((with_reducible (show wpList _ _ _ (⟨_, Op.store _ _ _, _, _, _, _⟩ :: _) _ _)); refine storeB_list rfl 34 _ _ rfl (w.heap.size + 1) #[.string ⟨#[]⟩, .string ⟨#[]⟩] _ _ rfl rfl hb rfl size_span.out (by simp [Value.oneCell']) ?_)
          intro w5 hb5 hu5
          obtain ⟨x0, x1⟩ := cell2 hb5
          have hU5 := hU.trans hu5 (fun k hk e => by omega)
          clear hb hb5 hu5 hU
          go_wp2_with fail
          refine bodyPost_ret (v := .tuple #[.agg #[.string ⟨#[]⟩, .string ⟨#[]⟩], .int .i64 15]) (by simp [results, Tryd.results12, go_sem, x0, x1]; try rfl) rfl ⟨by rw [hsp.out]; rfl, hU5⟩
  · have hnb2 : numbersB x = false := by simpa using hnb
    rw [hnb2] at hcN
    have hsp := spanR_arg (x := x) (fun e => hnb e.1)
    obtain ⟨k, b, o, ns⟩ := x
    have hEl := encK_len (⟨k, b, o, ns⟩ : Ky)
    generalize hes : encK (⟨k, b, o, ns⟩ : Ky) = s at *
    clear hes
    replace hnb := Lib.hid hnb
    replace hsp := Lib.hid hsp
    unfold kyV txtV at *
    go_enter Tryd.func12, Tryd.ntmps12
    simp only at *
    go_wp2_with fail
    refine (hcN.out _ ((Upd.alloc Non w _).then_alloc _)).mono ?_
    rintro e w2 ⟨rfl, hX⟩
    have q := (hX.own2 (fun _ h => h.elim)).1
    have c0 := q 0
    have c1 := q 1
    have c2 := q 2
    have c3 := q 3
    clear q
    have hb := hX.heap (heap_alloc2_new w _ _) fun h => h
    have hU := (hX.own2 (fun _ h => h.elim)).2.2.2.2.2.2
    clear hX
    try simp only []
    go_wp2_with ((with_reducible (show wpList _ _ _ (⟨_, Op.store _ _ _, _, _, _, _⟩ :: _) _ _)); refine storeB_list rfl 34 _ _ rfl (w.heap.size + 1) #[.string ⟨#[]⟩, .string ⟨#[]⟩] _ _ rfl rfl hb rfl size_span.out (by simp [Value.oneCell']) ?_)
    intro w5 hb5 hu5
    obtain ⟨x0, x1⟩ := cell2 hb5
    have hU5 := hU.trans hu5 (fun k hk e => by omega)
    clear hb hb5 hu5 hU
    go_wp2_with fail
    refine bodyPost_ret (v := .tuple #[.agg #[.string ⟨#[]⟩, .string ⟨#[]⟩], .int .i64 2]) (by simp [results, Tryd.results12, go_sem, x0, x1]; try rfl) rfl ⟨by rw [hsp.out]; rfl, hU5⟩
end Go.Proofs.YtaflpabpkpfifaaDoor
