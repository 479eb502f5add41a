/- The walk over layout.Parse. -/
import Derived.Test.YtaflpabpkpfifaaDoorMLyIA
import Derived.Test.YtaflpabpkpfifaaDoorMLyIB
import Derived.Test.YtaflpabpkpfifaaDoorMLyIC
namespace Go.Proofs.YtaflpabpkpfifaaDoor
set_option maxRecDepth 100000
open Go.RowKit Go.Amb
set_option linter.unusedVariables false
attribute [local go_sem ↓] Go.wp_at_zero Go.wp_at_succ

set_option maxHeartbeats 4000000 in
theorem yParse (s : Str) (w : World) : Calls Tryd.prog 14 #[txtV s] w (KeyRet (parseR s).1 (parseR s).2 w) := by
  have hdec := tDecode s
  have hno := @parseR_no s
  rcases hd : decR s with ⟨l, e⟩
  rw [hd] at hdec hno
  simp only at hdec hno
  replace hdec := Lib.hid hdec
  by_cases he : e = 0
  · subst he
    rcases l with _ | ⟨p, _ | ⟨q, r⟩⟩
    · have hpr := hno (fun h => by simp at h)
      rw [hpr]
      clear hd hpr hno
      unfold txtV
      go_enter Tryd.func14, Tryd.ntmps14
      go_wp2_with fail
      refine (hdec.out _).mono ?_
      rintro e1 w1 ⟨v, rfl, hP, hX, hown⟩
      obtain ⟨a, cc, rfl, hlc, hcm, hcell⟩ := parts_at hP
      replace hcell := Lib.hid hcell
      unfold maxLen at hcm
      have hb := hX.heap (heap_alloc_new w _) fun h => h
      have hU := (hX.own1 (fun _ h => h.elim)).2.2.2
      clear hX
      try simp only []
      go_wp2_with ((with_reducible (show wpList _ _ _ (⟨_, Op.store _ _ _, _, _, _, _⟩ :: _) _ _)); refine storeB_list rfl 25 _ _ rfl w.heap.size #[.int .i64 0, .string ⟨#[]⟩, .string ⟨#[]⟩, .slice none 0 0] _ _ rfl rfl hb rfl size_key.out (by simp [Value.oneCell']) ?_)
      intro w8 hb8 hu8
      obtain ⟨x0, x1, x2, x3⟩ := cells4 hb8
      have hU8 := hU.trans hu8 (fun k hk e => by (have : k = w.heap.size := e); omega)
      clear hb hb8 hu8 hU
      go_wp2_with fail
      refine bodyPost_ret (v := .tuple #[.agg #[.int .i64 0, .string ⟨#[]⟩, .string ⟨#[]⟩, .slice none 0 0], .int .i64 4]) (by simp [results, Tryd.results14, go_sem, x0, x1, x2, x3]; try rfl) rfl ⟨_, rfl, Has.nil _ _, hU8⟩
    · have hpr := hno (fun h => by simp at h)
      rw [hpr]
      clear hd hpr hno
      unfold txtV
      go_enter Tryd.func14, Tryd.ntmps14
      go_wp2_with fail
      refine (hdec.out _).mono ?_
      rintro e1 w1 ⟨v, rfl, hP, hX, hown⟩
      obtain ⟨a, cc, rfl, hlc, hcm, hcell⟩ := parts_at hP
      replace hcell := Lib.hid hcell
      unfold maxLen at hcm
      have hb := hX.heap (heap_alloc_new w _) fun h => h
      have hU := (hX.own1 (fun _ h => h.elim)).2.2.2
      clear hX
      try simp only []
      go_wp2_with ((with_reducible (show wpList _ _ _ (⟨_, Op.store _ _ _, _, _, _, _⟩ :: _) _ _)); refine storeB_list rfl 25 _ _ rfl w.heap.size #[.int .i64 0, .string ⟨#[]⟩, .string ⟨#[]⟩, .slice none 0 0] _ _ rfl rfl hb rfl size_key.out (by simp [Value.oneCell']) ?_)
      intro w8 hb8 hu8
      obtain ⟨x0, x1, x2, x3⟩ := cells4 hb8
      have hU8 := hU.trans hu8 (fun k hk e => by (have : k = w.heap.size := e); omega)
      clear hb hb8 hu8 hU
      go_wp2_with fail
      refine bodyPost_ret (v := .tuple #[.agg #[.int .i64 0, .string ⟨#[]⟩, .string ⟨#[]⟩, .slice none 0 0], .int .i64 4]) (by simp [results, Tryd.results14, go_sem, x0, x1, x2, x3]; try rfl) rfl ⟨_, rfl, Has.nil _ _, hU8⟩
    · by_cases h1 : p.s.length = 1
      · obtain ⟨c, hpc⟩ : ∃ c, p.s = [c] := List.length_eq_one_iff.1 h1
        by_cases hk1 : kindOf [c] = 1
        · exact yParseA s w p q r c hd hpc hk1
        · rcases r with _ | ⟨u, r⟩
          · exact yParseB s w p q [] c rfl hd hpc hk1
          · exact yParseC s w p q r c u hd hpc hk1
      · have hpr := hno (fun h => by
          have := key_kind0 h.2.2
          rw [kyOf_k] at this
          obtain ⟨c, hc⟩ := kind_letter this
          rw [hc] at h1; exact h1 rfl)
        rw [hpr]
        clear hd hpr hno
        have h1b : ((p.s.length : Int) != 1) = true := by simp only [bne_iff_ne, ne_eq]; omega
        unfold txtV
        go_enter Tryd.func14, Tryd.ntmps14
        go_wp2_with fail
        refine (hdec.out _).mono ?_
        rintro e1 w1 ⟨v, rfl, hP, hX, hown⟩
        obtain ⟨a, cc, rfl, hlc, hcm, hcell⟩ := parts_at hP
        replace hcell := Lib.hid hcell
        unfold maxLen at hcm
        obtain ⟨g, off, ea, c0, c1, c2⟩ := hcell.out 0 (by simp)
        subst ea
        simp only [List.getElem_cons_zero] at c2
        clear hcell c0 c1 hP hown
        have hcl : ¬ ((p :: q :: r).length : Int) < 2 := by simp only [List.length_cons]; omega
        generalize (p :: q :: r).length = n at *
        have hb := hX.heap (heap_alloc_new w _) fun h => h
        have hU := (hX.own1 (fun _ h => h.elim)).2.2.2
        clear hX
        try simp only []
        go_wp2_with ((with_reducible (show wpList _ _ _ (⟨_, Op.store _ _ _, _, _, _, _⟩ :: _) _ _)); refine storeB_list rfl 25 _ _ rfl w.heap.size #[.int .i64 0, .string ⟨#[]⟩, .string ⟨#[]⟩, .slice none 0 0] _ _ rfl rfl hb rfl size_key.out (by simp [Value.oneCell']) ?_)
        intro w8 hb8 hu8
        obtain ⟨x0, x1, x2, x3⟩ := cells4 hb8
        have hU8 := hU.trans hu8 (fun k hk e => by (have : k = w.heap.size := e); omega)
        clear hb hb8 hu8 hU
        go_wp2_with fail
        refine bodyPost_ret (v := .tuple #[.agg #[.int .i64 0, .string ⟨#[]⟩, .string ⟨#[]⟩, .slice none 0 0], .int .i64 4]) (by simp [results, Tryd.results14, go_sem, x0, x1, x2, x3]; try rfl) rfl ⟨_, rfl, Has.nil _ _, hU8⟩
  · have hpr := hno (fun h => he h.1)
    rw [hpr]
    have he2 : (e != 0) = true := by simp [he]
    clear hd hpr hno
    unfold txtV
    go_enter Tryd.func14, Tryd.ntmps14
    go_wp2_with fail
    refine (hdec.out _).mono ?_
    rintro e1 w1 ⟨v, rfl, hP, hX, hown⟩
    obtain ⟨a, cc, rfl, hlc, hcm, hcell⟩ := parts_at hP
    replace hcell := Lib.hid hcell
    unfold maxLen at hcm
    have hb := hX.heap (heap_alloc_new w _) fun h => h
    have hU := (hX.own1 (fun _ h => h.elim)).2.2.2
    clear hX
    try simp only []
    go_wp2_with ((with_reducible (show wpList _ _ _ (⟨_, Op.store _ _ _, _, _, _, _⟩ :: _) _ _)); refine storeB_list rfl 25 _ _ rfl w.heap.size #[.int .i64 0, .string ⟨#[]⟩, .string ⟨#[]⟩, .slice none 0 0] _ _ rfl rfl hb rfl size_key.out (by simp [Value.oneCell']) ?_)
    intro w8 hb8 hu8
    obtain ⟨x0, x1, x2, x3⟩ := cells4 hb8
    have hU8 := hU.trans hu8 (fun k hk e => by (have : k = w.heap.size := e); omega)
    clear hb hb8 hu8 hU
    go_wp2_with fail
    refine bodyPost_ret (v := .tuple #[.agg #[.int .i64 0, .string ⟨#[]⟩, .string ⟨#[]⟩, .slice none 0 0], .int .i64 4]) (by simp [results, Tryd.results14, go_sem, x0, x1, x2, x3]; try rfl) rfl ⟨_, rfl, Has.nil _ _, hU8⟩
end Go.Proofs.YtaflpabpkpfifaaDoor
