/- The walk over ambryref21.Span. -/
import Derived.Test.YtaflpabpkpfifaaDoorMLyG
namespace Go.Proofs.YtaflpabpkpfifaaDoor
set_option maxRecDepth 100000
open Go.RowKit Go.Amb
set_option linter.unusedVariables false
attribute [local go_sem ↓] Go.wp_at_zero Go.wp_at_succ

set_option maxHeartbeats 4000000 in
theorem q21Span (x : Ky) (nv : Value) (w : World) (hN : Ints w nv x.ns) (hn : ∀ n ∈ x.ns, i64Ok n) (hsb : x.b.length ≤ 140737488355328) (hso : x.o.length ≤ 140737488355328) :
    Calls Tryd.prog 13 #[kyV x nv] w (Ret (.tuple #[spV (spanR x).1, .int .i64 (spanR x).2]) w) := by
  have hcK := Lib.hid (q21Nums x.k)
  have hcN := Lib.hid (fun w' (hu : Upd Non w w') => q21Numbers x nv (numsK x.k) w' (hN.upd hu fun _ _ h => h))
  have hcB := Lib.hid (fun w => rBucket x.b w hsb)
  have hcO := Lib.hid (fun w => rObject x.o w hso)
  have hcP : Hid (1 ≤ x.k ∧ x.k ≤ 6 → x.ns.length ≤ 3 → ∀ w1, Upd Non w w1 → Calls Tryd.prog 38 #[kyV x nv] w1 (PartsRet (partsK x) w1)) := Lib.hid (fun h1 h2 w1 hu => q21Parts x nv w1 h1 h2 (hN.upd hu fun _ _ h => h))
  have hcE : Hid (∀ w1 v, Parts w1 v (partsK x) → Calls Tryd.prog 37 #[v] w1 (Ret (txtV (encK x)) w1)) := Lib.hid (fun w1 v h => q21Bytes v _ w1 (partsK_ok x hn hsb hso) h)
  obtain ⟨a, c, rfl, hlc, hc, -⟩ := ints_at hN
  have hmx := hc
  unfold maxLen at hmx
  have hEl := encK_len x
  generalize hes : encK x = s at *
  by_cases hk6 : 1 ≤ x.k ∧ x.k ≤ 6
  · have hge : 0 ≤ numsK x.k := by
      obtain h | h | h | h | h | h : x.k = 1 ∨ x.k = 2 ∨ x.k = 3 ∨ x.k = 4 ∨ x.k = 5 ∨ x.k = 6 := by omega
      all_goals rw [h]; decide
    have hle := numsK_le x.k
    have hq := numbersB_eq x
    by_cases hM : numbersM x (numsK x.k) = true
    · have hnl : x.ns.length ≤ 3 := by
        unfold numbersM at hM
        rw [Bool.and_eq_true, decide_eq_true_eq] at hM
        omega
      replace hcP := Lib.hid (hcP.out hk6 hnl)
      rw [hM, Bool.true_and] at hq
      rw [hM] at hcN
      have hpp : x.k ≠ 1 ∨ x.o = [] → numbersB x = true := fun e => by
        rw [hq]
        rcases e with e | e
        · simp [e]
        · simp [e]
      have hpn : x.k = 1 → x.o ≠ [] → ¬ numbersB x = true := fun e f => by rw [hq]; simp [e, f]
      clear hM
      generalize numsK x.k = m at *
      have hneg : ¬ m < 0 := by omega
      clear hle hge hq
      obtain ⟨k, b, o, ns⟩ := x
      simp only at hpp hpn hcB hcO hk6 hes
      cases o with
      | nil =>
        have hnb := hpp (.inr rfl)
        clear hpp hpn
        obtain ⟨kb, hkb⟩ : ∃ kb, (k == 1) = kb := ⟨_, rfl⟩
        by_cases hz : ns = []
        · have hz2 : ¬ 0 < ns.length := by rw [hz]; simp
          cases b with
          | nil =>
            have hsp := spanR_ok (x := ⟨k, [], [], ns⟩) ⟨hnb, fun _ => rfl, fun _ => hz⟩ ⟨.inl rfl, .inl rfl⟩
            rw [hes] at hsp
            clear hz hes
            replace hk6 := Lib.hid hk6
            replace hnb := Lib.hid hnb
            replace hsp := Lib.hid hsp
            cases kb with
            | true =>
              unfold kyV txtV at *
              go_enter Tryd.func13, Tryd.ntmps13
              simp only at *
              go_wp2_with fail
              refine (hcK.out _).mono ?_
              rintro e w1 ⟨rfl, hX⟩
              have q := (hX.own2 (fun _ h => h.elim)).1
              have c0 := q 0
              have c1 := q 1
              have c2 := q 2
              have c3 := q 3
              clear q
              go_wp2_with fail
              refine (hcN.out _ (hX.own2 (fun _ h => h.elim)).2.2.2.2.2.2).mono ?_
              rintro e w2 ⟨rfl, hu2⟩
              replace hX := hX.trans hu2 fun _ _ h => h
              clear hu2 c0 c1 c2 c3
              have q := (hX.own2 (fun _ h => h.elim)).1
              have c0 := q 0
              have c1 := q 1
              have c2 := q 2
              have c3 := q 3
              clear q
              go_wp2_with fail
              refine (hcP.out _ (hX.own2 (fun _ h => h.elim)).2.2.2.2.2.2).mono ?_
              rintro e w5 ⟨v5, rfl, hP5, hu5⟩
              replace hX := hX.trans hu5 fun _ _ h => h
              clear c0 c1 c2 c3 hu5
              have hcE5 := Lib.hid (hcE.out w5 v5 hP5)
              obtain ⟨a5, d5, rfl⟩ : ∃ a c, v5 = .slice a _ c := by obtain ⟨_, a, c, e, _⟩ := hP5; exact ⟨a, c, e⟩
              clear hP5
              go_wp2_with fail
              refine hcE5.out.mono ?_
              rintro e w6 ⟨rfl, hu6⟩
              replace hX := hX.trans hu6 fun _ _ h => h
              clear hu6
              have hadd : s.length + 1 ≤ 9223372036854775807 := by omega
              have hmk := ByteArray.mk_append_mk s [255]
              have hb := hX.heap (heap_alloc2_new w _ _) fun h => h
              have hU := (hX.own2 (fun _ h => h.elim)).2.2.2.2.2.2
              clear hX
              try simp only []
              go_wp2_with ((with_reducible (show wpList _ _ _ (⟨_, Op.store _ _ _, _, _, _, _⟩ :: _) _ _)); refine storeB_list rfl 34 _ _ rfl (w.heap.size + 1) #[.string ⟨s.toArray⟩, .string ⟨(s ++ [255]).toArray⟩] _ _ rfl rfl hb rfl size_span.out (by simp [Value.oneCell']) ?_)
              intro w8 hb8 hu8
              obtain ⟨x0, x1⟩ := cell2 hb8
              have hU8 := hU.trans hu8 (fun k hk e => by omega)
              clear hb hb8 hu8 hU
              go_wp2_with fail
              refine bodyPost_ret (v := .tuple #[.agg #[.string ⟨s.toArray⟩, .string ⟨(s ++ [255]).toArray⟩], .int .i64 0]) (by simp [results, Tryd.results13, go_sem, x0, x1]; try rfl) rfl ⟨by rw [hsp.out]; rfl, hU8⟩
            | false =>
              unfold kyV txtV at *
              go_enter Tryd.func13, Tryd.ntmps13
              simp only at *
              go_wp2_with fail
              refine (hcK.out _).mono ?_
              rintro e w1 ⟨rfl, hX⟩
              have q := (hX.own2 (fun _ h => h.elim)).1
              have c0 := q 0
              have c1 := q 1
              have c2 := q 2
              have c3 := q 3
              clear q
              go_wp2_with fail
              refine (hcN.out _ (hX.own2 (fun _ h => h.elim)).2.2.2.2.2.2).mono ?_
              rintro e w2 ⟨rfl, hu2⟩
              replace hX := hX.trans hu2 fun _ _ h => h
              clear hu2 c0 c1 c2 c3
              have q := (hX.own2 (fun _ h => h.elim)).1
              have c0 := q 0
              have c1 := q 1
              have c2 := q 2
              have c3 := q 3
              clear q
              go_wp2_with fail
              refine (hcP.out _ (hX.own2 (fun _ h => h.elim)).2.2.2.2.2.2).mono ?_
              rintro e w5 ⟨v5, rfl, hP5, hu5⟩
              replace hX := hX.trans hu5 fun _ _ h => h
              clear c0 c1 c2 c3 hu5
              have hcE5 := Lib.hid (hcE.out w5 v5 hP5)
              obtain ⟨a5, d5, rfl⟩ : ∃ a c, v5 = .slice a _ c := by obtain ⟨_, a, c, e, _⟩ := hP5; exact ⟨a, c, e⟩
              clear hP5
              go_wp2_with fail
              refine hcE5.out.mono ?_
              rintro e w6 ⟨rfl, hu6⟩
              replace hX := hX.trans hu6 fun _ _ h => h
              clear hu6
              have hadd : s.length + 1 ≤ 9223372036854775807 := by omega
              have hmk := ByteArray.mk_append_mk s [255]
              have hb := hX.heap (heap_alloc2_new w _ _) fun h => h
              have hU := (hX.own2 (fun _ h => h.elim)).2.2.2.2.2.2
              clear hX
              try simp only []
              go_wp2_with ((with_reducible (show wpList _ _ _ (⟨_, Op.store _ _ _, _, _, _, _⟩ :: _) _ _)); refine storeB_list rfl 34 _ _ rfl (w.heap.size + 1) #[.string ⟨s.toArray⟩, .string ⟨(s ++ [255]).toArray⟩] _ _ rfl rfl hb rfl size_span.out (by simp [Value.oneCell']) ?_)
              intro w8 hb8 hu8
              obtain ⟨x0, x1⟩ := cell2 hb8
              have hU8 := hU.trans hu8 (fun k hk e => by omega)
              clear hb hb8 hu8 hU
              go_wp2_with fail
              refine bodyPost_ret (v := .tuple #[.agg #[.string ⟨s.toArray⟩, .string ⟨(s ++ [255]).toArray⟩], .int .i64 0]) (by simp [results, Tryd.results13, go_sem, x0, x1]; try rfl) rfl ⟨by rw [hsp.out]; rfl, hU8⟩
          | cons b0 br =>
            have hbn : (b0 :: br : Str) ≠ [] := by simp
            rcases bk_or (b0 :: br) with hb0 | hb0
            · have hsp := spanR_ok (x := ⟨k, b0 :: br, [], ns⟩) ⟨hnb, fun _ => rfl, fun _ => hz⟩ ⟨.inr hb0, .inl rfl⟩
              rw [hes] at hsp
              rw [hb0] at hcB
              clear hz hb0 hes
              replace hk6 := Lib.hid hk6
              replace hnb := Lib.hid hnb
              replace hsp := Lib.hid hsp
              cases kb with
              | true =>
                unfold kyV txtV at *
                go_enter Tryd.func13, Tryd.ntmps13
                simp only at *
                go_wp2_with fail
                refine (hcK.out _).mono ?_
                rintro e w1 ⟨rfl, hX⟩
                have q := (hX.own2 (fun _ h => h.elim)).1
                have c0 := q 0
                have c1 := q 1
                have c2 := q 2
                have c3 := q 3
                clear q
                go_wp2_with fail
                refine (hcN.out _ (hX.own2 (fun _ h => h.elim)).2.2.2.2.2.2).mono ?_
                rintro e w2 ⟨rfl, hu2⟩
                replace hX := hX.trans hu2 fun _ _ h => h
                clear hu2 c0 c1 c2 c3
                have q := (hX.own2 (fun _ h => h.elim)).1
                have c0 := q 0
                have c1 := q 1
                have c2 := q 2
                have c3 := q 3
                clear q
                go_wp2_with fail
                refine (hcB.out _).mono ?_
                rintro e w3 ⟨rfl, hu3⟩
                replace hX := hX.trans hu3 fun _ _ h => h
                clear hu3 c0 c1 c2 c3
                have q := (hX.own2 (fun _ h => h.elim)).1
                have c0 := q 0
                have c1 := q 1
                have c2 := q 2
                have c3 := q 3
                clear q
                go_wp2_with fail
                refine (hcP.out _ (hX.own2 (fun _ h => h.elim)).2.2.2.2.2.2).mono ?_
                rintro e w5 ⟨v5, rfl, hP5, hu5⟩
                replace hX := hX.trans hu5 fun _ _ h => h
                clear c0 c1 c2 c3 hu5
                have hcE5 := Lib.hid (hcE.out w5 v5 hP5)
                obtain ⟨a5, d5, rfl⟩ : ∃ a c, v5 = .slice a _ c := by obtain ⟨_, a, c, e, _⟩ := hP5; exact ⟨a, c, e⟩
                clear hP5
                go_wp2_with fail
                refine hcE5.out.mono ?_
                rintro e w6 ⟨rfl, hu6⟩
                replace hX := hX.trans hu6 fun _ _ h => h
                clear hu6
                have hadd : s.length + 1 ≤ 9223372036854775807 := by omega
                have hmk := ByteArray.mk_append_mk s [255]
                have hb := hX.heap (heap_alloc2_new w _ _) fun h => h
                have hU := (hX.own2 (fun _ h => h.elim)).2.2.2.2.2.2
                clear hX
                try simp only []
                go_wp2_with ((with_reducible (show wpList _ _ _ (⟨_, Op.store _ _ _, _, _, _, _⟩ :: _) _ _)); refine storeB_list rfl 34 _ _ rfl (w.heap.size + 1) #[.string ⟨s.toArray⟩, .string ⟨(s ++ [255]).toArray⟩] _ _ rfl rfl hb rfl size_span.out (by simp [Value.oneCell']) ?_)
                intro w8 hb8 hu8
                obtain ⟨x0, x1⟩ := cell2 hb8
                have hU8 := hU.trans hu8 (fun k hk e => by omega)
                clear hb hb8 hu8 hU
                go_wp2_with fail
                refine bodyPost_ret (v := .tuple #[.agg #[.string ⟨s.toArray⟩, .string ⟨(s ++ [255]).toArray⟩], .int .i64 0]) (by simp [results, Tryd.results13, go_sem, x0, x1]; try rfl) rfl ⟨by rw [hsp.out]; rfl, hU8⟩
              | false =>
                unfold kyV txtV at *
                go_enter Tryd.func13, Tryd.ntmps13
                simp only at *
                go_wp2_with fail
                refine (hcK.out _).mono ?_
                rintro e w1 ⟨rfl, hX⟩
                have q := (hX.own2 (fun _ h => h.elim)).1
                have c0 := q 0
                have c1 := q 1
                have c2 := q 2
                have c3 := q 3
                clear q
                go_wp2_with fail
                refine (hcN.out _ (hX.own2 (fun _ h => h.elim)).2.2.2.2.2.2).mono ?_
                rintro e w2 ⟨rfl, hu2⟩
                replace hX := hX.trans hu2 fun _ _ h => h
                clear hu2 c0 c1 c2 c3
                have q := (hX.own2 (fun _ h => h.elim)).1
                have c0 := q 0
                have c1 := q 1
                have c2 := q 2
                have c3 := q 3
                clear q
                go_wp2_with fail
                refine (hcB.out _).mono ?_
                rintro e w3 ⟨rfl, hu3⟩
                replace hX := hX.trans hu3 fun _ _ h => h
                clear hu3 c0 c1 c2 c3
                have q := (hX.own2 (fun _ h => h.elim)).1
                have c0 := q 0
                have c1 := q 1
                have c2 := q 2
                have c3 := q 3
                clear q
                go_wp2_with fail
                refine (hcP.out _ (hX.own2 (fun _ h => h.elim)).2.2.2.2.2.2).mono ?_
                rintro e w5 ⟨v5, rfl, hP5, hu5⟩
                replace hX := hX.trans hu5 fun _ _ h => h
                clear c0 c1 c2 c3 hu5
                have hcE5 := Lib.hid (hcE.out w5 v5 hP5)
                obtain ⟨a5, d5, rfl⟩ : ∃ a c, v5 = .slice a _ c := by obtain ⟨_, a, c, e, _⟩ := hP5; exact ⟨a, c, e⟩
                clear hP5
                go_wp2_with fail
                refine hcE5.out.mono ?_
                rintro e w6 ⟨rfl, hu6⟩
                replace hX := hX.trans hu6 fun _ _ h => h
                clear hu6
                have hadd : s.length + 1 ≤ 9223372036854775807 := by omega
                have hmk := ByteArray.mk_append_mk s [255]
                have hb := hX.heap (heap_alloc2_new w _ _) fun h => h
                have hU := (hX.own2 (fun _ h => h.elim)).2.2.2.2.2.2
                clear hX
                try simp only []
                go_wp2_with ((with_reducible (show wpList _ _ _ (⟨_, Op.store _ _ _, _, _, _, _⟩ :: _) _ _)); refine storeB_list rfl 34 _ _ rfl (w.heap.size + 1) #[.string ⟨s.toArray⟩, .string ⟨(s ++ [255]).toArray⟩] _ _ rfl rfl hb rfl size_span.out (by simp [Value.oneCell']) ?_)
                intro w8 hb8 hu8
                obtain ⟨x0, x1⟩ := cell2 hb8
                have hU8 := hU.trans hu8 (fun k hk e => by omega)
                clear hb hb8 hu8 hU
                go_wp2_with fail
                refine bodyPost_ret (v := .tuple #[.agg #[.string ⟨s.toArray⟩, .string ⟨(s ++ [255]).toArray⟩], .int .i64 0]) (by simp [results, Tryd.results13, go_sem, x0, x1]; try rfl) rfl ⟨by rw [hsp.out]; rfl, hU8⟩
            · have hsp := spanR_name (x := ⟨k, b0 :: br, [], ns⟩) ⟨hnb, fun _ => rfl, fun _ => hz⟩ (fun e => by rcases e.1 with h | h; exact hbn h; simp only at h; rw [hb0] at h; cases h)
              rw [hb0] at hcB
              clear hz hb0 hes
              replace hk6 := Lib.hid hk6
              replace hnb := Lib.hid hnb
              replace hsp := Lib.hid hsp
              cases kb with
              | true =>
                unfold kyV txtV at *
                go_enter Tryd.func13, Tryd.ntmps13
                simp only at *
                go_wp2_with fail
                refine (hcK.out _).mono ?_
                rintro e w1 ⟨rfl, hX⟩
                have q := (hX.own2 (fun _ h => h.elim)).1
                have c0 := q 0
                have c1 := q 1
                have c2 := q 2
                have c3 := q 3
                clear q
                go_wp2_with fail
                refine (hcN.out _ (hX.own2 (fun _ h => h.elim)).2.2.2.2.2.2).mono ?_
                rintro e w2 ⟨rfl, hu2⟩
                replace hX := hX.trans hu2 fun _ _ h => h
                clear hu2 c0 c1 c2 c3
                have q := (hX.own2 (fun _ h => h.elim)).1
                have c0 := q 0
                have c1 := q 1
                have c2 := q 2
                have c3 := q 3
                clear q
                go_wp2_with fail
                refine (hcB.out _).mono ?_
                rintro e w3 ⟨rfl, hu3⟩
                replace hX := hX.trans hu3 fun _ _ h => h
                clear hu3 c0 c1 c2 c3
                have q := (hX.own2 (fun _ h => h.elim)).1
                have c0 := q 0
                have c1 := q 1
                have c2 := q 2
                have c3 := q 3
                clear q
                have hb := hX.heap (heap_alloc2_new w _ _) fun h => h
                have hU := (hX.own2 (fun _ h => h.elim)).2.2.2.2.2.2
                clear hX
                try simp only []
                go_wp2_with ((with_reducible (show wpList _ _ _ (⟨_, Op.store _ _ _, _, _, _, _⟩ :: _) _ _)); refine storeB_list rfl 34 _ _ rfl (w.heap.size + 1) #[.string ⟨#[]⟩, .string ⟨#[]⟩] _ _ rfl rfl hb rfl size_span.out (by simp [Value.oneCell']) ?_)
                intro w8 hb8 hu8
                obtain ⟨x0, x1⟩ := cell2 hb8
                have hU8 := hU.trans hu8 (fun k hk e => by omega)
                clear hb hb8 hu8 hU
                go_wp2_with fail
                refine bodyPost_ret (v := .tuple #[.agg #[.string ⟨#[]⟩, .string ⟨#[]⟩], .int .i64 15]) (by simp [results, Tryd.results13, go_sem, x0, x1]; try rfl) rfl ⟨by rw [hsp.out]; rfl, hU8⟩
              | false =>
                unfold kyV txtV at *
                go_enter Tryd.func13, Tryd.ntmps13
                simp only at *
                go_wp2_with fail
                refine (hcK.out _).mono ?_
                rintro e w1 ⟨rfl, hX⟩
                have q := (hX.own2 (fun _ h => h.elim)).1
                have c0 := q 0
                have c1 := q 1
                have c2 := q 2
                have c3 := q 3
                clear q
                go_wp2_with fail
                refine (hcN.out _ (hX.own2 (fun _ h => h.elim)).2.2.2.2.2.2).mono ?_
                rintro e w2 ⟨rfl, hu2⟩
                replace hX := hX.trans hu2 fun _ _ h => h
                clear hu2 c0 c1 c2 c3
                have q := (hX.own2 (fun _ h => h.elim)).1
                have c0 := q 0
                have c1 := q 1
                have c2 := q 2
                have c3 := q 3
                clear q
                go_wp2_with fail
                refine (hcB.out _).mono ?_
                rintro e w3 ⟨rfl, hu3⟩
                replace hX := hX.trans hu3 fun _ _ h => h
                clear hu3 c0 c1 c2 c3
                have q := (hX.own2 (fun _ h => h.elim)).1
                have c0 := q 0
                have c1 := q 1
                have c2 := q 2
                have c3 := q 3
                clear q
                have hb := hX.heap (heap_alloc2_new w _ _) fun h => h
                have hU := (hX.own2 (fun _ h => h.elim)).2.2.2.2.2.2
                clear hX
                try simp only []
                go_wp2_with ((with_reducible (show wpList _ _ _ (⟨_, Op.store _ _ _, _, _, _, _⟩ :: _) _ _)); refine storeB_list rfl 34 _ _ rfl (w.heap.size + 1) #[.string ⟨#[]⟩, .string ⟨#[]⟩] _ _ rfl rfl hb rfl size_span.out (by simp [Value.oneCell']) ?_)
                intro w8 hb8 hu8
                obtain ⟨x0, x1⟩ := cell2 hb8
                have hU8 := hU.trans hu8 (fun k hk e => by omega)
                clear hb hb8 hu8 hU
                go_wp2_with fail
                refine bodyPost_ret (v := .tuple #[.agg #[.string ⟨#[]⟩, .string ⟨#[]⟩], .int .i64 15]) (by simp [results, Tryd.results13, go_sem, x0, x1]; try rfl) rfl ⟨by rw [hsp.out]; rfl, hU8⟩
        · have hsp := spanR_arg (x := ⟨k, b, [], ns⟩) (fun e => hz (e.2.2 rfl))
          have hz2 : 0 < ns.length := List.length_pos_iff.2 hz
          clear hz hes
          replace hk6 := Lib.hid hk6
          replace hnb := Lib.hid hnb
          replace hsp := Lib.hid hsp
          cases b with
          | nil =>
            cases kb with
            | true =>
              unfold kyV txtV at *
              go_enter Tryd.func13, Tryd.ntmps13
              simp only at *
              go_wp2_with fail
              refine (hcK.out _).mono ?_
              rintro e w1 ⟨rfl, hX⟩
              have q := (hX.own2 (fun _ h => h.elim)).1
              have c0 := q 0
              have c1 := q 1
              have c2 := q 2
              have c3 := q 3
              clear q
              go_wp2_with fail
              refine (hcN.out _ (hX.own2 (fun _ h => h.elim)).2.2.2.2.2.2).mono ?_
              rintro e w2 ⟨rfl, hu2⟩
              replace hX := hX.trans hu2 fun _ _ h => h
              clear hu2 c0 c1 c2 c3
              have q := (hX.own2 (fun _ h => h.elim)).1
              have c0 := q 0
              have c1 := q 1
              have c2 := q 2
              have c3 := q 3
              clear q
              have hb := hX.heap (heap_alloc2_new w _ _) fun h => h
              have hU := (hX.own2 (fun _ h => h.elim)).2.2.2.2.2.2
              clear hX
              try simp only []
              go_wp2_with ((with_reducible (show wpList _ _ _ (⟨_, Op.store _ _ _, _, _, _, _⟩ :: _) _ _)); refine storeB_list rfl 34 _ _ rfl (w.heap.size + 1) #[.string ⟨#[]⟩, .string ⟨#[]⟩] _ _ rfl rfl hb rfl size_span.out (by simp [Value.oneCell']) ?_)
              intro w8 hb8 hu8
              obtain ⟨x0, x1⟩ := cell2 hb8
              have hU8 := hU.trans hu8 (fun k hk e => by omega)
              clear hb hb8 hu8 hU
              go_wp2_with fail
              refine bodyPost_ret (v := .tuple #[.agg #[.string ⟨#[]⟩, .string ⟨#[]⟩], .int .i64 2]) (by simp [results, Tryd.results13, go_sem, x0, x1]; try rfl) rfl ⟨by rw [hsp.out]; rfl, hU8⟩
            | false =>
              unfold kyV txtV at *
              go_enter Tryd.func13, Tryd.ntmps13
              simp only at *
              go_wp2_with fail
              refine (hcK.out _).mono ?_
              rintro e w1 ⟨rfl, hX⟩
              have q := (hX.own2 (fun _ h => h.elim)).1
              have c0 := q 0
              have c1 := q 1
              have c2 := q 2
              have c3 := q 3
              clear q
              go_wp2_with fail
              refine (hcN.out _ (hX.own2 (fun _ h => h.elim)).2.2.2.2.2.2).mono ?_
              rintro e w2 ⟨rfl, hu2⟩
              replace hX := hX.trans hu2 fun _ _ h => h
              clear hu2 c0 c1 c2 c3
              have q := (hX.own2 (fun _ h => h.elim)).1
              have c0 := q 0
              have c1 := q 1
              have c2 := q 2
              have c3 := q 3
              clear q
              have hb := hX.heap (heap_alloc2_new w _ _) fun h => h
              have hU := (hX.own2 (fun _ h => h.elim)).2.2.2.2.2.2
              clear hX
              try simp only []
              go_wp2_with ((with_reducible (show wpList _ _ _ (⟨_, Op.store _ _ _, _, _, _, _⟩ :: _) _ _)); refine storeB_list rfl 34 _ _ rfl (w.heap.size + 1) #[.string ⟨#[]⟩, .string ⟨#[]⟩] _ _ rfl rfl hb rfl size_span.out (by simp [Value.oneCell']) ?_)
              intro w8 hb8 hu8
              obtain ⟨x0, x1⟩ := cell2 hb8
              have hU8 := hU.trans hu8 (fun k hk e => by omega)
              clear hb hb8 hu8 hU
              go_wp2_with fail
              refine bodyPost_ret (v := .tuple #[.agg #[.string ⟨#[]⟩, .string ⟨#[]⟩], .int .i64 2]) (by simp [results, Tryd.results13, go_sem, x0, x1]; try rfl) rfl ⟨by rw [hsp.out]; rfl, hU8⟩
          | cons b0 br =>
            cases kb with
            | true =>
              unfold kyV txtV at *
              go_enter Tryd.func13, Tryd.ntmps13
              simp only at *
              go_wp2_with fail
              refine (hcK.out _).mono ?_
              rintro e w1 ⟨rfl, hX⟩
              have q := (hX.own2 (fun _ h => h.elim)).1
              have c0 := q 0
              have c1 := q 1
              have c2 := q 2
              have c3 := q 3
              clear q
              go_wp2_with fail
              refine (hcN.out _ (hX.own2 (fun _ h => h.elim)).2.2.2.2.2.2).mono ?_
              rintro e w2 ⟨rfl, hu2⟩
              replace hX := hX.trans hu2 fun _ _ h => h
              clear hu2 c0 c1 c2 c3
              have q := (hX.own2 (fun _ h => h.elim)).1
              have c0 := q 0
              have c1 := q 1
              have c2 := q 2
              have c3 := q 3
              clear q
              have hb := hX.heap (heap_alloc2_new w _ _) fun h => h
              have hU := (hX.own2 (fun _ h => h.elim)).2.2.2.2.2.2
              clear hX
              try simp only []
              go_wp2_with ((with_reducible (show wpList _ _ _ (⟨_, Op.store _ _ _, _, _, _, _⟩ :: _) _ _)); refine storeB_list rfl 34 _ _ rfl (w.heap.size + 1) #[.string ⟨#[]⟩, .string ⟨#[]⟩] _ _ rfl rfl hb rfl size_span.out (by simp [Value.oneCell']) ?_)
              intro w8 hb8 hu8
              obtain ⟨x0, x1⟩ := cell2 hb8
              have hU8 := hU.trans hu8 (fun k hk e => by omega)
              clear hb hb8 hu8 hU
              go_wp2_with fail
              refine bodyPost_ret (v := .tuple #[.agg #[.string ⟨#[]⟩, .string ⟨#[]⟩], .int .i64 2]) (by simp [results, Tryd.results13, go_sem, x0, x1]; try rfl) rfl ⟨by rw [hsp.out]; rfl, hU8⟩
            | false =>
              unfold kyV txtV at *
              go_enter Tryd.func13, Tryd.ntmps13
              simp only at *
              go_wp2_with fail
              refine (hcK.out _).mono ?_
              rintro e w1 ⟨rfl, hX⟩
              have q := (hX.own2 (fun _ h => h.elim)).1
              have c0 := q 0
              have c1 := q 1
              have c2 := q 2
              have c3 := q 3
              clear q
              go_wp2_with fail
              refine (hcN.out _ (hX.own2 (fun _ h => h.elim)).2.2.2.2.2.2).mono ?_
              rintro e w2 ⟨rfl, hu2⟩
              replace hX := hX.trans hu2 fun _ _ h => h
              clear hu2 c0 c1 c2 c3
              have q := (hX.own2 (fun _ h => h.elim)).1
              have c0 := q 0
              have c1 := q 1
              have c2 := q 2
              have c3 := q 3
              clear q
              have hb := hX.heap (heap_alloc2_new w _ _) fun h => h
              have hU := (hX.own2 (fun _ h => h.elim)).2.2.2.2.2.2
              clear hX
              try simp only []
              go_wp2_with ((with_reducible (show wpList _ _ _ (⟨_, Op.store _ _ _, _, _, _, _⟩ :: _) _ _)); refine storeB_list rfl 34 _ _ rfl (w.heap.size + 1) #[.string ⟨#[]⟩, .string ⟨#[]⟩] _ _ rfl rfl hb rfl size_span.out (by simp [Value.oneCell']) ?_)
              intro w8 hb8 hu8
              obtain ⟨x0, x1⟩ := cell2 hb8
              have hU8 := hU.trans hu8 (fun k hk e => by omega)
              clear hb hb8 hu8 hU
              go_wp2_with fail
              refine bodyPost_ret (v := .tuple #[.agg #[.string ⟨#[]⟩, .string ⟨#[]⟩], .int .i64 2]) (by simp [results, Tryd.results13, go_sem, x0, x1]; try rfl) rfl ⟨by rw [hsp.out]; rfl, hU8⟩
      | cons o0 or =>
        have hon : (o0 :: or : Str) ≠ [] := by simp
        by_cases hk : k = 1
        · have hkb : (k == 1) = true := by simp [hk]
          have hnb := hpn hk hon
          have hsp := spanR_arg (x := ⟨k, b, o0 :: or, ns⟩) (fun e => hnb e.1)
          clear hpp hpn hes
          replace hk := Lib.hid hk
          replace hk6 := Lib.hid hk6
          replace hnb := Lib.hid hnb
          replace hsp := Lib.hid hsp
          unfold kyV txtV at *
          go_enter Tryd.func13, Tryd.ntmps13
          simp only at *
          go_wp2_with fail
          refine (hcK.out _).mono ?_
          rintro e w1 ⟨rfl, hX⟩
          have q := (hX.own2 (fun _ h => h.elim)).1
          have c0 := q 0
          have c1 := q 1
          have c2 := q 2
          have c3 := q 3
          clear q
          go_wp2_with fail
          refine (hcN.out _ (hX.own2 (fun _ h => h.elim)).2.2.2.2.2.2).mono ?_
          rintro e w2 ⟨rfl, hu2⟩
          replace hX := hX.trans hu2 fun _ _ h => h
          clear hu2 c0 c1 c2 c3
          have q := (hX.own2 (fun _ h => h.elim)).1
          have c0 := q 0
          have c1 := q 1
          have c2 := q 2
          have c3 := q 3
          clear q
          have hb := hX.heap (heap_alloc2_new w _ _) fun h => h
          have hU := (hX.own2 (fun _ h => h.elim)).2.2.2.2.2.2
          clear hX
          try simp only []
          go_wp2_with ((with_reducible (show wpList _ _ _ (⟨_, Op.store _ _ _, _, _, _, _⟩ :: _) _ _)); refine storeB_list rfl 34 _ _ rfl (w.heap.size + 1) #[.string ⟨#[]⟩, .string ⟨#[]⟩] _ _ rfl rfl hb rfl size_span.out (by simp [Value.oneCell']) ?_)
          intro w8 hb8 hu8
          obtain ⟨x0, x1⟩ := cell2 hb8
          have hU8 := hU.trans hu8 (fun k hk e => by omega)
          clear hb hb8 hu8 hU
          go_wp2_with fail
          refine bodyPost_ret (v := .tuple #[.agg #[.string ⟨#[]⟩, .string ⟨#[]⟩], .int .i64 2]) (by simp [results, Tryd.results13, go_sem, x0, x1]; try rfl) rfl ⟨by rw [hsp.out]; rfl, hU8⟩
        · have hkb : (k == 1) = false := by simp [hk]
          have hnb := hpp (.inl hk)
          clear hpp hpn
          cases b with
          | nil =>
            have hsp := spanR_arg (x := ⟨k, [], o0 :: or, ns⟩) (fun e => by simp at e)
            clear hes
            replace hk6 := Lib.hid hk6
            replace hnb := Lib.hid hnb
            replace hsp := Lib.hid hsp
            unfold kyV txtV at *
            go_enter Tryd.func13, Tryd.ntmps13
            simp only at *
            go_wp2_with fail
            refine (hcK.out _).mono ?_
            rintro e w1 ⟨rfl, hX⟩
            have q := (hX.own2 (fun _ h => h.elim)).1
            have c0 := q 0
            have c1 := q 1
            have c2 := q 2
            have c3 := q 3
            clear q
            go_wp2_with fail
            refine (hcN.out _ (hX.own2 (fun _ h => h.elim)).2.2.2.2.2.2).mono ?_
            rintro e w2 ⟨rfl, hu2⟩
            replace hX := hX.trans hu2 fun _ _ h => h
            clear hu2 c0 c1 c2 c3
            have q := (hX.own2 (fun _ h => h.elim)).1
            have c0 := q 0
            have c1 := q 1
            have c2 := q 2
            have c3 := q 3
            clear q
            have hb := hX.heap (heap_alloc2_new w _ _) fun h => h
            have hU := (hX.own2 (fun _ h => h.elim)).2.2.2.2.2.2
            clear hX
            try simp only []
            go_wp2_with ((with_reducible (show wpList _ _ _ (⟨_, Op.store _ _ _, _, _, _, _⟩ :: _) _ _)); refine storeB_list rfl 34 _ _ rfl (w.heap.size + 1) #[.string ⟨#[]⟩, .string ⟨#[]⟩] _ _ rfl rfl hb rfl size_span.out (by simp [Value.oneCell']) ?_)
            intro w8 hb8 hu8
            obtain ⟨x0, x1⟩ := cell2 hb8
            have hU8 := hU.trans hu8 (fun k hk e => by omega)
            clear hb hb8 hu8 hU
            go_wp2_with fail
            refine bodyPost_ret (v := .tuple #[.agg #[.string ⟨#[]⟩, .string ⟨#[]⟩], .int .i64 2]) (by simp [results, Tryd.results13, go_sem, x0, x1]; try rfl) rfl ⟨by rw [hsp.out]; rfl, hU8⟩
          | cons b0 br =>
            have hbn : (b0 :: br : Str) ≠ [] := by simp
            rcases bk_or (b0 :: br) with hb0 | hb0
            · rcases obj_or (o0 :: or) with ho0 | ho0
              · have hsp := spanR_ok (x := ⟨k, b0 :: br, o0 :: or, ns⟩) ⟨hnb, fun e => absurd e hbn, fun e => absurd e hon⟩ ⟨.inr hb0, .inr ho0⟩
                rw [hes] at hsp
                rw [hb0] at hcB
                rw [ho0] at hcO
                clear hb0 ho0 hes
                replace hk6 := Lib.hid hk6
                replace hnb := Lib.hid hnb
                replace hsp := Lib.hid hsp
                unfold kyV txtV at *
                go_enter Tryd.func13, Tryd.ntmps13
                simp only at *
                go_wp2_with fail
                refine (hcK.out _).mono ?_
                rintro e w1 ⟨rfl, hX⟩
                have q := (hX.own2 (fun _ h => h.elim)).1
                have c0 := q 0
                have c1 := q 1
                have c2 := q 2
                have c3 := q 3
                clear q
                go_wp2_with fail
                refine (hcN.out _ (hX.own2 (fun _ h => h.elim)).2.2.2.2.2.2).mono ?_
                rintro e w2 ⟨rfl, hu2⟩
                replace hX := hX.trans hu2 fun _ _ h => h
                clear hu2 c0 c1 c2 c3
                have q := (hX.own2 (fun _ h => h.elim)).1
                have c0 := q 0
                have c1 := q 1
                have c2 := q 2
                have c3 := q 3
                clear q
                go_wp2_with fail
                refine (hcB.out _).mono ?_
                rintro e w3 ⟨rfl, hu3⟩
                replace hX := hX.trans hu3 fun _ _ h => h
                clear hu3 c0 c1 c2 c3
                have q := (hX.own2 (fun _ h => h.elim)).1
                have c0 := q 0
                have c1 := q 1
                have c2 := q 2
                have c3 := q 3
                clear q
                go_wp2_with fail
                refine (hcO.out _).mono ?_
                rintro e w4 ⟨rfl, hu4⟩
                replace hX := hX.trans hu4 fun _ _ h => h
                clear hu4 c0 c1 c2 c3
                have q := (hX.own2 (fun _ h => h.elim)).1
                have c0 := q 0
                have c1 := q 1
                have c2 := q 2
                have c3 := q 3
                clear q
                go_wp2_with fail
                refine (hcP.out _ (hX.own2 (fun _ h => h.elim)).2.2.2.2.2.2).mono ?_
                rintro e w5 ⟨v5, rfl, hP5, hu5⟩
                replace hX := hX.trans hu5 fun _ _ h => h
                clear c0 c1 c2 c3 hu5
                have hcE5 := Lib.hid (hcE.out w5 v5 hP5)
                obtain ⟨a5, d5, rfl⟩ : ∃ a c, v5 = .slice a _ c := by obtain ⟨_, a, c, e, _⟩ := hP5; exact ⟨a, c, e⟩
                clear hP5
                go_wp2_with fail
                refine hcE5.out.mono ?_
                rintro e w6 ⟨rfl, hu6⟩
                replace hX := hX.trans hu6 fun _ _ h => h
                clear hu6
                have hadd : s.length + 1 ≤ 9223372036854775807 := by omega
                have hmk := ByteArray.mk_append_mk s [255]
                have hb := hX.heap (heap_alloc2_new w _ _) fun h => h
                have hU := (hX.own2 (fun _ h => h.elim)).2.2.2.2.2.2
                clear hX
                try simp only []
                go_wp2_with ((with_reducible (show wpList _ _ _ (⟨_, Op.store _ _ _, _, _, _, _⟩ :: _) _ _)); refine storeB_list rfl 34 _ _ rfl (w.heap.size + 1) #[.string ⟨s.toArray⟩, .string ⟨(s ++ [255]).toArray⟩] _ _ rfl rfl hb rfl size_span.out (by simp [Value.oneCell']) ?_)
                intro w8 hb8 hu8
                obtain ⟨x0, x1⟩ := cell2 hb8
                have hU8 := hU.trans hu8 (fun k hk e => by omega)
                clear hb hb8 hu8 hU
                go_wp2_with fail
                refine bodyPost_ret (v := .tuple #[.agg #[.string ⟨s.toArray⟩, .string ⟨(s ++ [255]).toArray⟩], .int .i64 0]) (by simp [results, Tryd.results13, go_sem, x0, x1]; try rfl) rfl ⟨by rw [hsp.out]; rfl, hU8⟩
              · have hsp := spanR_name (x := ⟨k, b0 :: br, o0 :: or, ns⟩) ⟨hnb, fun e => absurd e hbn, fun e => absurd e hon⟩ (fun e => by rcases e.2 with h | h; exact hon h; simp only at h; rw [ho0] at h; cases h)
                rw [hb0] at hcB
                rw [ho0] at hcO
                clear hb0 ho0 hes
                replace hk6 := Lib.hid hk6
                replace hnb := Lib.hid hnb
                replace hsp := Lib.hid hsp
                unfold kyV txtV at *
                go_enter Tryd.func13, Tryd.ntmps13
                simp only at *
                go_wp2_with fail
                refine (hcK.out _).mono ?_
                rintro e w1 ⟨rfl, hX⟩
                have q := (hX.own2 (fun _ h => h.elim)).1
                have c0 := q 0
                have c1 := q 1
                have c2 := q 2
                have c3 := q 3
                clear q
                go_wp2_with fail
                refine (hcN.out _ (hX.own2 (fun _ h => h.elim)).2.2.2.2.2.2).mono ?_
                rintro e w2 ⟨rfl, hu2⟩
                replace hX := hX.trans hu2 fun _ _ h => h
                clear hu2 c0 c1 c2 c3
                have q := (hX.own2 (fun _ h => h.elim)).1
                have c0 := q 0
                have c1 := q 1
                have c2 := q 2
                have c3 := q 3
                clear q
                go_wp2_with fail
                refine (hcB.out _).mono ?_
                rintro e w3 ⟨rfl, hu3⟩
                replace hX := hX.trans hu3 fun _ _ h => h
                clear hu3 c0 c1 c2 c3
                have q := (hX.own2 (fun _ h => h.elim)).1
                have c0 := q 0
                have c1 := q 1
                have c2 := q 2
                have c3 := q 3
                clear q
                go_wp2_with fail
                refine (hcO.out _).mono ?_
                rintro e w4 ⟨rfl, hu4⟩
                replace hX := hX.trans hu4 fun _ _ h => h
                clear hu4 c0 c1 c2 c3
                have q := (hX.own2 (fun _ h => h.elim)).1
                have c0 := q 0
                have c1 := q 1
                have c2 := q 2
                have c3 := q 3
                clear q
                have hb := hX.heap (heap_alloc2_new w _ _) fun h => h
                have hU := (hX.own2 (fun _ h => h.elim)).2.2.2.2.2.2
                clear hX
                try simp only []
                go_wp2_with ((with_reducible (show wpList _ _ _ (⟨_, Op.store _ _ _, _, _, _, _⟩ :: _) _ _)); refine storeB_list rfl 34 _ _ rfl (w.heap.size + 1) #[.string ⟨#[]⟩, .string ⟨#[]⟩] _ _ rfl rfl hb rfl size_span.out (by simp [Value.oneCell']) ?_)
                intro w8 hb8 hu8
                obtain ⟨x0, x1⟩ := cell2 hb8
                have hU8 := hU.trans hu8 (fun k hk e => by omega)
                clear hb hb8 hu8 hU
                go_wp2_with fail
                refine bodyPost_ret (v := .tuple #[.agg #[.string ⟨#[]⟩, .string ⟨#[]⟩], .int .i64 15]) (by simp [results, Tryd.results13, go_sem, x0, x1]; try rfl) rfl ⟨by rw [hsp.out]; rfl, hU8⟩
            · have hsp := spanR_name (x := ⟨k, b0 :: br, o0 :: or, ns⟩) ⟨hnb, fun e => absurd e hbn, fun e => absurd e hon⟩ (fun e => by rcases e.1 with h | h; exact hbn h; simp only at h; rw [hb0] at h; cases h)
              rw [hb0] at hcB
              clear hb0 hes
              replace hk6 := Lib.hid hk6
              replace hnb := Lib.hid hnb
              replace hsp := Lib.hid hsp
              unfold kyV txtV at *
              go_enter Tryd.func13, Tryd.ntmps13
              simp only at *
              go_wp2_with fail
              refine (hcK.out _).mono ?_
              rintro e w1 ⟨rfl, hX⟩
              have q := (hX.own2 (fun _ h => h.elim)).1
              have c0 := q 0
              have c1 := q 1
              have c2 := q 2
              have c3 := q 3
              clear q
              go_wp2_with fail
              refine (hcN.out _ (hX.own2 (fun _ h => h.elim)).2.2.2.2.2.2).mono ?_
              rintro e w2 ⟨rfl, hu2⟩
              replace hX := hX.trans hu2 fun _ _ h => h
              clear hu2 c0 c1 c2 c3
              have q := (hX.own2 (fun _ h => h.elim)).1
              have c0 := q 0
              have c1 := q 1
              have c2 := q 2
              have c3 := q 3
              clear q
              go_wp2_with fail
              refine (hcB.out _).mono ?_
              rintro e w3 ⟨rfl, hu3⟩
              replace hX := hX.trans hu3 fun _ _ h => h
              clear hu3 c0 c1 c2 c3
              have q := (hX.own2 (fun _ h => h.elim)).1
              have c0 := q 0
              have c1 := q 1
              have c2 := q 2
              have c3 := q 3
              clear q
              have hb := hX.heap (heap_alloc2_new w _ _) fun h => h
              have hU := (hX.own2 (fun _ h => h.elim)).2.2.2.2.2.2
              clear hX
              try simp only []
              go_wp2_with ((with_reducible (show wpList _ _ _ (⟨_, Op.store _ _ _, _, _, _, _⟩ :: _) _ _)); refine storeB_list rfl 34 _ _ rfl (w.heap.size + 1) #[.string ⟨#[]⟩, .string ⟨#[]⟩] _ _ rfl rfl hb rfl size_span.out (by simp [Value.oneCell']) ?_)
              intro w8 hb8 hu8
              obtain ⟨x0, x1⟩ := cell2 hb8
              have hU8 := hU.trans hu8 (fun k hk e => by omega)
              clear hb hb8 hu8 hU
              go_wp2_with fail
              refine bodyPost_ret (v := .tuple #[.agg #[.string ⟨#[]⟩, .string ⟨#[]⟩], .int .i64 15]) (by simp [results, Tryd.results13, go_sem, x0, x1]; try rfl) rfl ⟨by rw [hsp.out]; rfl, hU8⟩
    · have hsp := spanR_arg (x := x) (fun e => by rw [hq, Bool.and_eq_true] at e; exact hM e.1.1)
      have hM2 : numbersM x (numsK x.k) = false := by simpa using hM
      rw [hM2] at hcN
      generalize numsK x.k = m at *
      have hneg : ¬ m < 0 := by omega
      have hnb := trivial
      clear hq hes
      obtain ⟨k, b, o, ns⟩ := x
      replace hk6 := Lib.hid hk6
      replace hnb := Lib.hid hnb
      replace hsp := Lib.hid hsp
      unfold kyV txtV at *
      go_enter Tryd.func13, Tryd.ntmps13
      simp only at *
      go_wp2_with fail
      refine (hcK.out _).mono ?_
      rintro e w1 ⟨rfl, hX⟩
      have q := (hX.own2 (fun _ h => h.elim)).1
      have c0 := q 0
      have c1 := q 1
      have c2 := q 2
      have c3 := q 3
      clear q
      go_wp2_with fail
      refine (hcN.out _ (hX.own2 (fun _ h => h.elim)).2.2.2.2.2.2).mono ?_
      rintro e w2 ⟨rfl, hu2⟩
      replace hX := hX.trans hu2 fun _ _ h => h
      clear hu2 c0 c1 c2 c3
      have q := (hX.own2 (fun _ h => h.elim)).1
      have c0 := q 0
      have c1 := q 1
      have c2 := q 2
      have c3 := q 3
      clear q
      have hb := hX.heap (heap_alloc2_new w _ _) fun h => h
      have hU := (hX.own2 (fun _ h => h.elim)).2.2.2.2.2.2
      clear hX
      try simp only []
      go_wp2_with ((with_reducible (show wpList _ _ _ (⟨_, Op.store _ _ _, _, _, _, _⟩ :: _) _ _)); refine storeB_list rfl 34 _ _ rfl (w.heap.size + 1) #[.string ⟨#[]⟩, .string ⟨#[]⟩] _ _ rfl rfl hb rfl size_span.out (by simp [Value.oneCell']) ?_)
      intro w8 hb8 hu8
      obtain ⟨x0, x1⟩ := cell2 hb8
      have hU8 := hU.trans hu8 (fun k hk e => by omega)
      clear hb hb8 hu8 hU
      go_wp2_with fail
      refine bodyPost_ret (v := .tuple #[.agg #[.string ⟨#[]⟩, .string ⟨#[]⟩], .int .i64 2]) (by simp [results, Tryd.results13, go_sem, x0, x1]; try rfl) rfl ⟨by rw [hsp.out]; rfl, hU8⟩
  · have hm := numsK_no (k := x.k) (by omega)
    have hsp := spanR_arg (x := x) (fun e => hk6 ⟨(numbersB_kind e.1).1, (numbersB_kind e.1).2.1⟩)
    rw [hm] at hcK
    clear hcN hcP hes
    have hnb := trivial
    obtain ⟨k, b, o, ns⟩ := x
    replace hk6 := Lib.hid hk6
    replace hnb := Lib.hid hnb
    replace hsp := Lib.hid hsp
    unfold kyV txtV at *
    go_enter Tryd.func13, Tryd.ntmps13
    simp only at *
    go_wp2_with fail
    refine (hcK.out _).mono ?_
    rintro e w1 ⟨rfl, hX⟩
    have q := (hX.own2 (fun _ h => h.elim)).1
    have c0 := q 0
    have c1 := q 1
    have c2 := q 2
    have c3 := q 3
    clear q
    have hb := hX.heap (heap_alloc2_new w _ _) fun h => h
    have hU := (hX.own2 (fun _ h => h.elim)).2.2.2.2.2.2
    clear hX
    try simp only []
    go_wp2_with ((with_reducible (show wpList _ _ _ (⟨_, Op.store _ _ _, _, _, _, _⟩ :: _) _ _)); refine storeB_list rfl 34 _ _ rfl (w.heap.size + 1) #[.string ⟨#[]⟩, .string ⟨#[]⟩] _ _ rfl rfl hb rfl size_span.out (by simp [Value.oneCell']) ?_)
    intro w8 hb8 hu8
    obtain ⟨x0, x1⟩ := cell2 hb8
    have hU8 := hU.trans hu8 (fun k hk e => by omega)
    clear hb hb8 hu8 hU
    go_wp2_with fail
    refine bodyPost_ret (v := .tuple #[.agg #[.string ⟨#[]⟩, .string ⟨#[]⟩], .int .i64 2]) (by simp [results, Tryd.results13, go_sem, x0, x1]; try rfl) rfl ⟨by rw [hsp.out]; rfl, hU8⟩
end Go.Proofs.YtaflpabpkpfifaaDoor
