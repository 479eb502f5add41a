/- The walk over layout.ReadHead. -/
import Derived.Test.YtaflpabpkpfifaaDoorMLyK
import Derived.Test.YtaflpabpkpfifaaDoorMLyFe
namespace Go.Proofs.YtaflpabpkpfifaaDoor
set_option maxRecDepth 100000
open Go.RowKit Go.Amb
set_option linter.unusedVariables false
attribute [local go_sem ↓] Go.wp_at_zero Go.wp_at_succ

/-- The head that eleven bytes may be. -/
def hdOf (s : Str) : Hd := ⟨numL ((s.drop 1).take 2), numL ((s.drop 3).take 4), numL ((s.drop 7).take 4), decide (numL (s.take 1) % 2 = 1), decide (numL (s.take 1) / 2 % 2 = 1)⟩
/-- Which head bytes are. -/
def rhR (s : Str) : Hd × Int := if s.length = 11 ∧ headR (hdOf s) = (s, 0) then (hdOf s, 0) else (Hd.none, 4)
theorem rhR_no {s : Str} (h : ¬ (s.length = 11 ∧ headR (hdOf s) = (s, 0))) : rhR s = (Hd.none, 4) := by unfold rhR; rw [if_neg h]
theorem rhR_yes {s : Str} (h : s.length = 11 ∧ headR (hdOf s) = (s, 0)) : rhR s = (hdOf s, 0) := by unfold rhR; rw [if_pos h]
theorem flag_fin : ∀ n : Fin 256, (bits .and .i64 (n.val : Int) 1 != 0) = decide ((n.val : Int) % 2 = 1) ∧ (bits .and .i64 (n.val : Int) 2 != 0) = decide ((n.val : Int) / 2 % 2 = 1) := by decide +kernel
theorem flags_are (n : Int) (h0 : 0 ≤ n) (h1 : n < 256) : (bits .and .i64 n 1 != 0) = decide (n % 2 = 1) ∧ (bits .and .i64 n 2 != 0) = decide (n / 2 % 2 = 1) := by
  have := flag_fin ⟨n.toNat, by omega⟩
  have e : ((n.toNat : Nat) : Int) = n := by omega
  simpa [e] using this
theorem size_head : Hid ((Tryd.prog.info? 48).map (·.size) = some 5) := Lib.hid (by kernel_rfl)
theorem cells5 {w : World} {b : Nat} {c0 c1 c2 c3 c4 : Value} {t : TypeId} (h : w.heap[b]? = some (.cells #[c0, c1, c2, c3, c4] t (0, 0))) : w.cell? ⟨b, 0, none⟩ = some c0 ∧ w.cell? ⟨b, 1, none⟩ = some c1 ∧ w.cell? ⟨b, 2, none⟩ = some c2 ∧ w.cell? ⟨b, 3, none⟩ = some c3 ∧ w.cell? ⟨b, 4, none⟩ = some c4 :=
  ⟨(cells_of h).1 0, (cells_of h).1 1, (cells_of h).1 2, (cells_of h).1 3, (cells_of h).1 4⟩
/-- What is read of them, one behind the other: where it stands, the error. -/
def seq4 (s : Str) : Nat × Int :=
  let x1 := rdNum s 0 0 1
  let x2 := rdNum s x1.1 x1.2.1 2
  let x3 := rdNum s x2.1 x2.2.1 4
  let x4 := rdNum s x3.1 x3.2.1 4
  (x4.1, x4.2.1)
theorem rd_next (s : Str) (a : Nat) (m : Nat) : (rdNum s a 0 m).2.1 = 0 ∧ (rdNum s a 0 m).1 = a + m ∧ a + m ≤ s.length ∨ (rdNum s a 0 m).2.1 = 3 ∧ ¬ a + m ≤ s.length := by
  by_cases h : a + m ≤ s.length
  · rw [rdNum_ok h]; exact .inl ⟨rfl, rfl, h⟩
  · rw [rdNum_short h]; exact .inr ⟨rfl, h⟩
theorem rd_err (s : Str) (a m : Nat) : (rdNum s a 3 m).2.1 = 3 := by rw [rdNum_err (by decide)]
theorem seq4_end (s : Str) (h : s.length ≠ 11) : rdEnd s (seq4 s).1 (seq4 s).2 ≠ 0 := by
  unfold seq4
  simp only
  generalize h1 : rdNum s 0 0 1 = x1
  generalize h2 : rdNum s x1.1 x1.2.1 2 = x2
  generalize h3 : rdNum s x2.1 x2.2.1 4 = x3
  generalize h4 : rdNum s x3.1 x3.2.1 4 = x4
  have bad : x4.2.1 = 3 → rdEnd s x4.1 x4.2.1 ≠ 0 := fun e => by rw [e]; unfold rdEnd; rw [if_neg (by decide)]; decide
  have g1 := rd_next s 0 1
  rw [h1] at g1
  rcases g1 with ⟨e1, p1, l1⟩ | ⟨e1, l1⟩
  · rw [e1] at h2
    have g2 := rd_next s x1.1 2
    rw [h2] at g2
    rcases g2 with ⟨e2, p2, l2⟩ | ⟨e2, l2⟩
    · rw [e2] at h3
      have g3 := rd_next s x2.1 4
      rw [h3] at g3
      rcases g3 with ⟨e3, p3, l3⟩ | ⟨e3, l3⟩
      · rw [e3] at h4
        have g4 := rd_next s x3.1 4
        rw [h4] at g4
        rcases g4 with ⟨e4, p4, l4⟩ | ⟨e4, l4⟩
        · rw [e4]
          unfold rdEnd
          rw [if_pos rfl, if_pos (by omega)]
          decide
        · exact bad e4
      · rw [e3] at h4
        exact bad (by rw [← h4]; exact rd_err _ _ _)
    · rw [e2] at h3
      have q3 : x3.2.1 = 3 := by rw [← h3]; exact rd_err _ _ _
      rw [q3] at h4
      exact bad (by rw [← h4]; exact rd_err _ _ _)
  · rw [e1] at h2
    have q2 : x2.2.1 = 3 := by rw [← h2]; exact rd_err _ _ _
    rw [q2] at h3
    have q3 : x3.2.1 = 3 := by rw [← h3]; exact rd_err _ _ _
    rw [q3] at h4
    exact bad (by rw [← h4]; exact rd_err _ _ _)
theorem wrap_small (n : Int) (h0 : 0 ≤ n) (h1 : n < 4294967296) : wrap64 n = n := by unfold wrap64; omega
set_option maxHeartbeats 4000000 in
theorem yReadHead (s : Str) (w : World) (hs : s.length ≤ 140737488355328) : Calls Tryd.prog 18 #[txtV s] w (Ret (.tuple #[hdV (rhR s).1, .int .i64 (rhR s).2]) w) := by
  unfold txtV
  by_cases hl : s.length = 11
  · have b1 := numL_lt_of (l := s.take 1) (m := 1) (by simp; omega)
    have b2 := numL_lt_of (l := (s.drop 1).take 2) (m := 2) (by simp; omega)
    have b3 := numL_lt_of (l := (s.drop 3).take 4) (m := 4) (by simp; omega)
    have b4 := numL_lt_of (l := (s.drop 7).take 4) (m := 4) (by simp; omega)
    have g1 := numL_nonneg (s.take 1)
    have g2 := numL_nonneg ((s.drop 1).take 2)
    have g3 := numL_nonneg ((s.drop 3).take 4)
    have g4 := numL_nonneg ((s.drop 7).take 4)
    have q1 : rdNum s 0 0 1 = (1, 0, numL (s.take 1)) := by rw [rdNum_ok (by omega), List.drop_zero, wrap_small _ g1 (by omega)]
    have q2 : rdNum s 1 0 2 = (3, 0, numL ((s.drop 1).take 2)) := by rw [rdNum_ok (by omega), wrap_small _ g2 (by omega)]
    have q3 : rdNum s 3 0 4 = (7, 0, numL ((s.drop 3).take 4)) := by rw [rdNum_ok (by omega), wrap_small _ g3 (by omega)]
    have q4 : rdNum s 7 0 4 = (11, 0, numL ((s.drop 7).take 4)) := by rw [rdNum_ok (by omega), wrap_small _ g4 (by omega)]
    obtain ⟨f1, f2⟩ := flags_are (numL (s.take 1)) g1 (by omega)
    have hH := yHead (hdOf s)
    have hno := fun h => @rhR_no s h
    have hyes := fun h => @rhR_yes s ⟨hl, h⟩
    obtain ⟨kr, hkr⟩ : ∃ kr, headR (hdOf s) = kr := ⟨_, rfl⟩
    rw [hkr] at hH hno hyes
    have hi : hdI64 (hdOf s) := ⟨⟨by show _ ≤ numL ((s.drop 1).take 2); omega, by show numL ((s.drop 1).take 2) ≤ _; omega⟩, ⟨by show _ ≤ numL ((s.drop 3).take 4); omega, by show numL ((s.drop 3).take 4) ≤ _; omega⟩, ⟨by show _ ≤ numL ((s.drop 7).take 4); omega, by show numL ((s.drop 7).take 4) ≤ _; omega⟩⟩
    replace hH := fun w => hH w hi
    have hv : hdV (hdOf s) = .agg #[.int .i64 (numL ((s.drop 1).take 2)), .int .i64 (numL ((s.drop 3).take 4)), .int .i64 (numL ((s.drop 7).take 4)), .bool (decide (numL (s.take 1) % 2 = 1)), .bool (decide (numL (s.take 1) / 2 % 2 = 1))] := rfl
    rw [← f1, ← f2] at hv
    rw [hv] at hH
    have hend : rdEnd s 11 0 = 0 := by unfold rdEnd; rw [if_pos rfl, if_neg (by omega)]
    have hva : ∀ x, rhR s = (hdOf s, x) → hdV (rhR s).1 = hdV (hdOf s) := fun x e => by rw [e]
    rw [hv] at hva
    clear hkr hi f1 f2 b1 b2 b3 b4 g1 g2 g3 g4
    generalize numL (s.take 1) = n1 at *
    generalize numL ((s.drop 1).take 2) = n2 at *
    generalize numL ((s.drop 3).take 4) = n3 at *
    generalize numL ((s.drop 7).take 4) = n4 at *
    obtain ⟨t, ke⟩ := kr
    unfold txtV at hH
    replace hH := Lib.hid hH
    replace hno := Lib.hid hno
    replace hyes := Lib.hid hyes
    replace hva := Lib.hid hva
    replace hv := Lib.hid hv
    replace hend := Lib.hid hend
    replace hl := Lib.hid hl
    go_enter Tryd.func18, Tryd.ntmps18
    go_wp2_with (refine wpList_tobytes rfl _ 9 86 5 rfl Tryd.underlying9 Tryd.underlying86 Tryd.underlying5 s rfl (by unfold maxLen; omega) ?_)
    intro c w1 hm
    have hX : Upd Non (w.alloc (.cells #[.int .i64 0, .int .i64 0, .int .i64 0, .bool false, .bool false] 48)) w1 := hm.upd
    have hB : Bytes w1 (.slice (some ⟨w.heap.size + 1, 0, none⟩) s.length c) s := by simpa using hm.bytes
    have hz1 : w.heap.size + 1 ≤ w1.heap.size := by have := hX.size; simpa using this
    clear hm
    go_wp2_with fail
    refine (fNewReader _ s w1 hB hs).mono ?_
    rintro e2 w2 ⟨r, rfl, hR, hu2, hr⟩
    replace hX := hX.trans hu2 fun _ _ h => h
    clear hu2 hB
    go_wp2_with fail
    refine (fU8 r s 0 0 _ hR).mono ?_
    rintro e3 w3 ⟨rfl, hS, hu⟩
    replace hX := hX.trans hu fun j hj e => by (have : j = r := e); (simp at hj); omega
    rw [q1] at hS ⊢
    simp only at hS ⊢
    clear hu hR
    have hR : RdAt w3 r w1.heap.size s 1 0 := hS
    clear hS
    go_wp2_with fail
    refine (fU16 r s 1 0 _ hR).mono ?_
    rintro e4 w4 ⟨rfl, hS, hu⟩
    replace hX := hX.trans hu fun j hj e => by (have : j = r := e); (simp at hj); omega
    rw [q2] at hS ⊢
    simp only at hS ⊢
    clear hu hR
    have hR : RdAt w4 r w1.heap.size s 3 0 := hS
    clear hS
    go_wp2_with fail
    refine (fU32 r s 3 0 _ hR).mono ?_
    rintro e5 w5 ⟨rfl, hS, hu⟩
    replace hX := hX.trans hu fun j hj e => by (have : j = r := e); (simp at hj); omega
    rw [q3] at hS ⊢
    simp only at hS ⊢
    clear hu hR
    have hR : RdAt w5 r w1.heap.size s 7 0 := hS
    clear hS
    go_wp2_with fail
    refine (fU32 r s 7 0 _ hR).mono ?_
    rintro e6 w6 ⟨rfl, hS, hu⟩
    replace hX := hX.trans hu fun j hj e => by (have : j = r := e); (simp at hj); omega
    rw [q4] at hS ⊢
    simp only at hS ⊢
    clear hu hR
    have hR : RdAt w6 r w1.heap.size s 11 0 := hS
    clear hS
    go_wp2_with fail
    refine (fEnd r s 11 0 _ (hR.non (Upd.alloc Non _ _))).mono ?_
    rintro e7 w7 ⟨rfl, nq, rfl⟩
    have hb7 : ((w6.alloc (.cells #[.int .i64 n2, .int .i64 n3, .int .i64 n4, .bool (bits .and .i64 n1 1 != 0), .bool (bits .and .i64 n1 2 != 0)] 48)).drewN nq).heap[w6.heap.size]? = some (.cells #[.int .i64 n2, .int .i64 n3, .int .i64 n4, .bool (bits .and .i64 n1 1 != 0), .bool (bits .and .i64 n1 2 != 0)] 48 (0, 0)) := heap_alloc_new w6 _
    replace hX := (hX.then_alloc (.cells #[.int .i64 n2, .int .i64 n3, .int .i64 n4, .bool (bits .and .i64 n1 1 != 0), .bool (bits .and .i64 n1 2 != 0)] 48)).trans (Upd.drewN Non _ nq) fun _ _ h => h
    generalize (w6.alloc (.cells #[.int .i64 n2, .int .i64 n3, .int .i64 n4, .bool (bits .and .i64 n1 1 != 0), .bool (bits .and .i64 n1 2 != 0)] 48)).drewN nq = w7 at *
    clear hR
    rw [hend.out]
    obtain ⟨z0, z1, z2, z3, z4⟩ := cells5 hb7
    go_wp2_with fail
    refine (hH.out _).mono ?_
    rintro e8 w9 ⟨rfl, hu9⟩
    replace hX := hX.trans hu9 fun _ _ h => h
    have hb9 := hu9.heap hb7 fun h => h
    clear z0 z1 z2 z3 z4 hb7 hu9
    by_cases hke : ke = 0
    · subst hke
      by_cases hts : t = s
      · subst hts
        have hgood := hyes.out rfl
        have hvv := hva.out 0 hgood
        obtain ⟨z0, z1, z2, z3, z4⟩ := cells5 hb9
        replace hgood := Lib.hid hgood
        replace hvv := Lib.hid hvv
        have hb := hX.heap (heap_alloc_new w _) fun h => h
        have hU := (hX.own1 (fun _ h => h.elim)).2.2.2
        clear hX
        try simp only []
        go_wp2_with ((with_reducible (show wpList _ _ _ (⟨_, Op.store _ _ _, _, _, _, _⟩ :: _) _ _)); refine storeB_list rfl 48 _ _ rfl w.heap.size #[.int .i64 n2, .int .i64 n3, .int .i64 n4, .bool (bits .and .i64 n1 1 != 0), .bool (bits .and .i64 n1 2 != 0)] _ _ rfl rfl hb rfl size_head.out (by simp [Value.oneCell']) ?_)
        intro w8 hb8 hu8
        obtain ⟨x0, x1, x2, x3, x4⟩ := cells5 hb8
        have hU8 := hU.trans hu8 (fun k hk e => by (have : k = w.heap.size := e); omega)
        clear hb hb8 hu8 hU
        go_wp2_with fail
        refine bodyPost_ret (v := .tuple #[.agg #[.int .i64 n2, .int .i64 n3, .int .i64 n4, .bool (bits .and .i64 n1 1 != 0), .bool (bits .and .i64 n1 2 != 0)], .int .i64 0]) (by simp [results, Tryd.results18, go_sem, x0, x1, x2, x3, x4]; try rfl) rfl ⟨by rw [hvv.out, hgood.out], hU8⟩
      · have hbad := hno.out (fun h => hts (by injection h.2))
        rw [hbad]
        have hts2 : (t == s) = false := by simpa using hts
        clear hb9
        replace hbad := hbad
        have hb := hX.heap (heap_alloc_new w _) fun h => h
        have hU := (hX.own1 (fun _ h => h.elim)).2.2.2
        clear hX
        try simp only []
        go_wp2_with ((with_reducible (show wpList _ _ _ (⟨_, Op.store _ _ _, _, _, _, _⟩ :: _) _ _)); refine storeB_list rfl 48 _ _ rfl w.heap.size #[.int .i64 0, .int .i64 0, .int .i64 0, .bool false, .bool false] _ _ rfl rfl hb rfl size_head.out (by simp [Value.oneCell']) ?_)
        intro w8 hb8 hu8
        obtain ⟨x0, x1, x2, x3, x4⟩ := cells5 hb8
        have hU8 := hU.trans hu8 (fun k hk e => by (have : k = w.heap.size := e); omega)
        clear hb hb8 hu8 hU
        go_wp2_with fail
        refine bodyPost_ret (v := .tuple #[.agg #[.int .i64 0, .int .i64 0, .int .i64 0, .bool false, .bool false], .int .i64 4]) (by simp [results, Tryd.results18, go_sem, x0, x1, x2, x3, x4]; try rfl) rfl ⟨by rw [hbad]; rfl, hU8⟩
    · have hbad := hno.out (fun h => hke (by injection h.2))
      have hke2 : (ke != 0) = true := by simp [hke]
      clear hb9
      have hb := hX.heap (heap_alloc_new w _) fun h => h
      have hU := (hX.own1 (fun _ h => h.elim)).2.2.2
      clear hX
      try simp only []
      go_wp2_with ((with_reducible (show wpList _ _ _ (⟨_, Op.store _ _ _, _, _, _, _⟩ :: _) _ _)); refine storeB_list rfl 48 _ _ rfl w.heap.size #[.int .i64 0, .int .i64 0, .int .i64 0, .bool false, .bool false] _ _ rfl rfl hb rfl size_head.out (by simp [Value.oneCell']) ?_)
      intro w8 hb8 hu8
      obtain ⟨x0, x1, x2, x3, x4⟩ := cells5 hb8
      have hU8 := hU.trans hu8 (fun k hk e => by (have : k = w.heap.size := e); omega)
      clear hb hb8 hu8 hU
      go_wp2_with fail
      refine bodyPost_ret (v := .tuple #[.agg #[.int .i64 0, .int .i64 0, .int .i64 0, .bool false, .bool false], .int .i64 4]) (by simp [results, Tryd.results18, go_sem, x0, x1, x2, x3, x4]; try rfl) rfl ⟨by rw [hbad]; rfl, hU8⟩
  · have hbad := rhR_no (s := s) (fun h => hl h.1)
    have hend := seq4_end s hl
    obtain ⟨⟨a1, e1, n1⟩, q1⟩ : ∃ z, rdNum s 0 0 1 = z := ⟨_, rfl⟩
    obtain ⟨⟨a2, e2, n2⟩, q2⟩ : ∃ z, rdNum s a1 e1 2 = z := ⟨_, rfl⟩
    obtain ⟨⟨a3, e3, n3⟩, q3⟩ : ∃ z, rdNum s a2 e2 4 = z := ⟨_, rfl⟩
    obtain ⟨⟨a4, e4, n4⟩, q4⟩ : ∃ z, rdNum s a3 e3 4 = z := ⟨_, rfl⟩
    have hsq : seq4 s = (a4, e4) := by
      unfold seq4
      simp only [q1, q2, q3, q4]
    rw [hsq] at hend
    simp only at hend
    replace hl := Lib.hid hl
    replace hbad := Lib.hid hbad
    replace hend := Lib.hid hend
    clear hsq
    go_enter Tryd.func18, Tryd.ntmps18
    go_wp2_with (refine wpList_tobytes rfl _ 9 86 5 rfl Tryd.underlying9 Tryd.underlying86 Tryd.underlying5 s rfl (by unfold maxLen; omega) ?_)
    intro c w1 hm
    have hX : Upd Non (w.alloc (.cells #[.int .i64 0, .int .i64 0, .int .i64 0, .bool false, .bool false] 48)) w1 := hm.upd
    have hB : Bytes w1 (.slice (some ⟨w.heap.size + 1, 0, none⟩) s.length c) s := by simpa using hm.bytes
    have hz1 : w.heap.size + 1 ≤ w1.heap.size := by have := hX.size; simpa using this
    clear hm
    go_wp2_with fail
    refine (fNewReader _ s w1 hB hs).mono ?_
    rintro e2 w2 ⟨r, rfl, hR, hu2, hr⟩
    replace hX := hX.trans hu2 fun _ _ h => h
    clear hu2 hB
    go_wp2_with fail
    refine (fU8 r s 0 0 _ hR).mono ?_
    rintro e3 w3 ⟨rfl, hS, hu⟩
    replace hX := hX.trans hu fun j hj e => by (have : j = r := e); (simp at hj); omega
    rw [q1] at hS ⊢
    simp only at hS ⊢
    clear hu hR
    have hR : RdAt w3 r w1.heap.size s a1 e1 := hS
    clear hS
    go_wp2_with fail
    refine (fU16 r s a1 e1 _ hR).mono ?_
    rintro e4 w4 ⟨rfl, hS, hu⟩
    replace hX := hX.trans hu fun j hj e => by (have : j = r := e); (simp at hj); omega
    rw [q2] at hS ⊢
    simp only at hS ⊢
    clear hu hR
    have hR : RdAt w4 r w1.heap.size s a2 e2 := hS
    clear hS
    go_wp2_with fail
    refine (fU32 r s a2 e2 _ hR).mono ?_
    rintro e5 w5 ⟨rfl, hS, hu⟩
    replace hX := hX.trans hu fun j hj e => by (have : j = r := e); (simp at hj); omega
    rw [q3] at hS ⊢
    simp only at hS ⊢
    clear hu hR
    have hR : RdAt w5 r w1.heap.size s a3 e3 := hS
    clear hS
    go_wp2_with fail
    refine (fU32 r s a3 e3 _ hR).mono ?_
    rintro e6 w6 ⟨rfl, hS, hu⟩
    replace hX := hX.trans hu fun j hj e => by (have : j = r := e); (simp at hj); omega
    rw [q4] at hS ⊢
    simp only at hS ⊢
    clear hu hR
    have hR : RdAt w6 r w1.heap.size s a4 e4 := hS
    clear hS
    go_wp2_with fail
    refine (fEnd r s a4 e4 _ (hR.non (Upd.alloc Non _ _))).mono ?_
    rintro e7 w7 ⟨rfl, nq, rfl⟩
    have hb7 : ((w6.alloc (.cells #[.int .i64 n2, .int .i64 n3, .int .i64 n4, .bool (bits .and .i64 n1 1 != 0), .bool (bits .and .i64 n1 2 != 0)] 48)).drewN nq).heap[w6.heap.size]? = some (.cells #[.int .i64 n2, .int .i64 n3, .int .i64 n4, .bool (bits .and .i64 n1 1 != 0), .bool (bits .and .i64 n1 2 != 0)] 48 (0, 0)) := heap_alloc_new w6 _
    replace hX := (hX.then_alloc (.cells #[.int .i64 n2, .int .i64 n3, .int .i64 n4, .bool (bits .and .i64 n1 1 != 0), .bool (bits .and .i64 n1 2 != 0)] 48)).trans (Upd.drewN Non _ nq) fun _ _ h => h
    generalize (w6.alloc (.cells #[.int .i64 n2, .int .i64 n3, .int .i64 n4, .bool (bits .and .i64 n1 1 != 0), .bool (bits .and .i64 n1 2 != 0)] 48)).drewN nq = w7 at *
    clear hR
    obtain ⟨k, hk⟩ : ∃ k, rdEnd s a4 e4 = k := ⟨_, rfl⟩
    have hk0 : (k != 0) = true := by
      have := hend.out
      rw [hk] at this
      simp [this]
    rw [hk]
    clear hb7
    replace hk := Lib.hid hk
    replace hbad := hbad.out
    have hb := hX.heap (heap_alloc_new w _) fun h => h
    have hU := (hX.own1 (fun _ h => h.elim)).2.2.2
    clear hX
    try simp only []
    go_wp2_with ((with_reducible (show wpList _ _ _ (⟨_, Op.store _ _ _, _, _, _, _⟩ :: _) _ _)); refine storeB_list rfl 48 _ _ rfl w.heap.size #[.int .i64 0, .int .i64 0, .int .i64 0, .bool false, .bool false] _ _ rfl rfl hb rfl size_head.out (by simp [Value.oneCell']) ?_)
    intro w8 hb8 hu8
    obtain ⟨x0, x1, x2, x3, x4⟩ := cells5 hb8
    have hU8 := hU.trans hu8 (fun k hk e => by (have : k = w.heap.size := e); omega)
    clear hb hb8 hu8 hU
    go_wp2_with fail
    refine bodyPost_ret (v := .tuple #[.agg #[.int .i64 0, .int .i64 0, .int .i64 0, .bool false, .bool false], .int .i64 4]) (by simp [results, Tryd.results18, go_sem, x0, x1, x2, x3, x4]; try rfl) rfl ⟨by rw [hbad]; rfl, hU8⟩
end Go.Proofs.YtaflpabpkpfifaaDoor
