/- The walk over SlotElder. -/
import Derived.Test.YtiadbijholnbjaaSlI
import Derived.Test.YtiadbijholnbjaaSlJ
namespace Go.Proofs.Ytiadbijholnbjaa
open Go.RowKit Go.Amb Go.Shelf
set_option linter.unusedVariables false
set_option linter.unusedSimpArgs false
theorem lCutAny (s : List UInt8) (e q : Int) (w : World) : Calls Try.prog 9 #[.string ⟨s.toArray⟩, .int .i64 e, .int .i64 q] w (fun en w' => ∃ v z, en = .returned (.tuple #[v, .int .i64 z]) ∧ Upd Non w w') :=
  (lCut s e q w).mono fun en w' h => by
    rcases h with ⟨_, v, rfl, _, hu⟩ | ⟨_, rfl, hu⟩
    · exact ⟨_, _, rfl, hu⟩
    · exact ⟨_, _, rfl, hu⟩
theorem lCutNo (s : List UInt8) (e q : Int) (hk : ¬ cutOk e q s) (w : World) : Calls Try.prog 9 #[.string ⟨s.toArray⟩, .int .i64 e, .int .i64 q] w (fun en w' => ∃ z, en = .returned (.tuple #[.slice none 0 0, .int .i64 z]) ∧ ¬ z = 0 ∧ Upd Non w w') :=
  (lCut s e q w).mono fun en w' h => by
    rcases h with ⟨hk', _⟩ | ⟨_, rfl, hu⟩
    · exact absurd hk' hk
    · exact ⟨_, rfl, by split <;> decide, hu⟩
theorem lCutYes (s : List UInt8) (e q : Int) (hk : cutOk e q s) (w : World) : Calls Try.prog 9 #[.string ⟨s.toArray⟩, .int .i64 e, .int .i64 q] w (fun en w' => ∃ g c, en = .returned (.tuple #[.slice (some ⟨g, 0, none⟩) (pieceN s) c, .int .i64 0]) ∧ SlotsAt w' (.slice (some ⟨g, 0, none⟩) (pieceN s) c) (cutS e q s) ∧ Upd Non w w') :=
  (lCut s e q w).mono fun en w' h => by
    rcases h with ⟨_, v, rfl, ho, hu⟩ | ⟨hk', _⟩
    · have hN := pieceN_pos s
      have hl := cutS_length e q s
      obtain ⟨g, c, rfl, _, _, _⟩ := own_rowform ho (by omega)
      have hs := has_of_owns ho
      rw [hl] at hs
      refine ⟨g, c, by rw [hl], ?_, hu⟩
      unfold SlotsAt; rw [hl]; exact hs
    · exact absurd hk hk'
set_option maxRecDepth 100000
set_option maxHeartbeats 1000000 in
theorem lSlotElder (a b : List UInt8) (ep sq gap : Int) (w : World) : Calls Try.prog 5 #[.string ⟨a.toArray⟩, .string ⟨b.toArray⟩, .int .i64 ep, .int .i64 sq, .int .i64 gap] w (Ret (.bool true) w) := by
  by_cases h1 : ep < 1
  · go_enter Try.func5, Try.ntmps5
    go_wp2_with fail
    refine (lives05 _).mono ?_
    rintro en w9 ⟨rfl, hu9⟩
    have hU9 := Upd.trans (Upd.refl Non w) hu9 fun _ _ h => h
    go_wp2_with fail
    go_ret
    exact ⟨rfl, hU9⟩
  by_cases h2 : sq < 0
  · go_enter Try.func5, Try.ntmps5
    go_wp2_with fail
    refine (lives05 _).mono ?_
    rintro en w9 ⟨rfl, hu9⟩
    have hU9 := Upd.trans (Upd.refl Non w) hu9 fun _ _ h => h
    go_wp2_with fail
    go_ret
    exact ⟨rfl, hU9⟩
  by_cases h3 : 1125899906842624 < sq
  · go_enter Try.func5, Try.ntmps5
    go_wp2_with fail
    refine (lives05 _).mono ?_
    rintro en w9 ⟨rfl, hu9⟩
    have hU9 := Upd.trans (Upd.refl Non w) hu9 fun _ _ h => h
    go_wp2_with fail
    go_ret
    exact ⟨rfl, hU9⟩
  by_cases h4 : gap < 1
  · go_enter Try.func5, Try.ntmps5
    go_wp2_with fail
    refine (lives05 _).mono ?_
    rintro en w9 ⟨rfl, hu9⟩
    have hU9 := Upd.trans (Upd.refl Non w) hu9 fun _ _ h => h
    go_wp2_with fail
    go_ret
    exact ⟨rfl, hU9⟩
  by_cases h5 : 1000 < gap
  · go_enter Try.func5, Try.ntmps5
    go_wp2_with fail
    refine (lives05 _).mono ?_
    rintro en w9 ⟨rfl, hu9⟩
    have hU9 := Upd.trans (Upd.refl Non w) hu9 fun _ _ h => h
    go_wp2_with fail
    go_ret
    exact ⟨rfl, hU9⟩
  by_cases ka : cutOk ep sq a
  · have hNa : (pieceN a : Int) ≤ 152 := by have := ka.1; unfold pieceN; omega
    have hNp := pieceN_pos a
    have hca := Lib.hid (lCutYes a ep sq ka)
    have hje := Lib.hid (fun q' => join_elder (t := b) ka q')
    have hjg := Lib.hid (fun q' => join_gap (t := b) ka q')
    have hlx := Lib.hid (cutS_length ep sq a)
    have hep : ep ≤ 2147483647 := ka.2.1.2
    have hw0 : IntKind.i64.wrap (ep - 1) = ep - 1 := IntWalk.i64_in _ ⟨by omega, by omega⟩
    replace ka := Lib.hid ka
    generalize hNN : pieceN a = N at *
    have hw1 : IntKind.i64.wrap (sq + (N : Int)) = sq + (N : Int) := IntWalk.i64_in _ ⟨by omega, by omega⟩
    have hw2 : IntKind.i64.wrap (sq + (N : Int) + gap) = sq + (N : Int) + gap := IntWalk.i64_in _ ⟨by omega, by omega⟩
    by_cases kb : cutOk (ep - 1) (sq + N) b
    · have hcb := Lib.hid (lCutYes b (ep - 1) (sq + N) kb)
      by_cases kc : cutOk ep (sq + N + gap) b
      · have hcc := Lib.hid (lCutYes b ep (sq + N + gap) kc)
        have hly1 := Lib.hid (cutS_length (ep - 1) (sq + N) b)
        have hly2 := Lib.hid (cutS_length ep (sq + N + gap) b)
        have hMb : (pieceN b : Int) ≤ 152 := by have := kb.1; unfold pieceN; omega
        have hinf := Lib.hid (@info_slot)
        generalize pieceN b = M at *
        have hg2 : sq + (N : Int) + gap ≠ sq + (N : Int) := by omega
        replace hjg := Lib.hid (hjg.out (sq + N + gap) hg2)
        replace hje := Lib.hid (hje.out (sq + N))
        clear kb kc
        go_enter Try.func5, Try.ntmps5
        go_wp2_with fail
        refine (hca.out _).mono ?_
        rintro en w1 ⟨gx, cx, rfl, hx, hu1⟩
        replace hx := Lib.hid hx
        go_wp2_with fail
        refine (hcb.out _).mono ?_
        rintro en w2 ⟨gy, cy, rfl, hy, hu2⟩
        replace hy := Lib.hid hy
        go_wp2_with fail
        refine (hcc.out _).mono ?_
        rintro en w3 ⟨gz, cz, rfl, hz, hu3⟩
        have hU3 := (hu1.trans hu2 fun _ _ h => h).trans hu3 fun _ _ h => h
        have hX := (hx.out.non hu2).non hu3
        have hY := hy.out.non hu3
        unfold SlotsAt at hX hY hz
        rw [hlx.out] at hX
        rw [hly1.out] at hY
        rw [hly2.out] at hz
        replace hX := Lib.hid hX
        replace hY := Lib.hid hY
        replace hz := Lib.hid hz
        clear hu1 hu2 hu3 hx hy
        have hlit4 := World.ownsRow_lit (e := 41) (size := 5) w3 #[] 0 (Nat.le_refl _) (Nat.zero_le _) rfl
        go_wp2_with (at_builtin; go_must (refine wpList_app rfl _ _ 22 22 rfl w3.heap.size 41 (.agg #[.int .i64 0, .int .i64 0, .bool false, .bool false, .string ⟨#[]⟩]) 5 40 Try.underlying22 hinf.out rfl _ 0 [] rfl hlit4 (.slice (some ⟨gx, 0, none⟩) N cx) N (sc (cutS ep sq a)) rfl (Src.ofHas Try.underlying22 (hX.out.upd (Upd.alloc Non w3 _) fun _ _ h => h) (sc_one _)) (by unfold maxLen; omega) (by omega) (by simp) ?_))
        intro v4 w4 ho4 hu4 hf4
        have hu4' : Upd Non w3 w4 := (Upd.alloc Non w3 (.cells #[] 41)).trans hu4 fun j hj h => by simp [At, Value.ownBlock] at h; omega
        have hY4 := hY.out.non hu4'
        have hz4 := hu4'.size
        go_wp2_with (at_builtin; go_must (refine wpList_app rfl _ _ 22 22 rfl w3.heap.size 41 (.agg #[.int .i64 0, .int .i64 0, .bool false, .bool false, .string ⟨#[]⟩]) 5 40 Try.underlying22 hinf.out rfl _ _ _ rfl ho4 (.slice (some ⟨gy, 0, none⟩) M cy) M (sc (cutS (ep - 1) (sq + N) b)) rfl (Src.ofHas Try.underlying22 hY4 (sc_one _)) (by unfold maxLen; omega) (by omega) hz4 ?_))
        intro v5 w5 ho5 hu5 hf5
        have hS4 : SlotsAt w5 v5 (cutS ep sq a ++ cutS (ep - 1) (sq + N) b) := by
          have := has_of_owns ho5
          rw [← sc_append] at this
          unfold SlotsAt
          rw [show (cutS ep sq a ++ cutS (ep - 1) (sq + N) b).length = N + M by rw [List.length_append, hlx.out, hly1.out]]
          exact this
        have hU5' : Upd Non w3 w5 := hu4'.trans hu5 fun j hj h => absurd (own_ge ho4 h) (by omega)
        have hJ4 := Lib.hid (lJoin v5 (cutS ep sq a ++ cutS (ep - 1) (sq + N) b) w5 hS4 (by rw [List.length_append, hlx.out, hly1.out]; omega))
        clear ho4 hu4 hf4 ho5 hu5 hf5 hS4 hY4 hlit4
        go_wp2_with fail
        refine hJ4.out.mono ?_
        rintro en w6 hjj
        unfold JoinTo at hjj
        rw [hje.out] at hjj
        obtain ⟨v6, rfl, ho6, hu6⟩ := hjj
        obtain ⟨g6, c6, rfl, -, -, -⟩ := own_rowform ho6 (by simp)
        have y6 := ho6.cells (g := g6) rfl 2 _ rfl
        rw [Addr.add_lit, Nat.zero_add] at y6
        have hU6' : Upd Non w3 w6 := hU5'.trans hu6 fun _ _ h => h
        clear ho6 hu6 hJ4 hU5' hu4' hz4
        replace hX := Lib.hid (hX.out.non hU6')
        replace hz := Lib.hid (hz.out.non hU6')
        have hU6 := hU3.trans hU6' fun _ _ h => h
        clear hU3 hU6' hY
        have hlit7 := World.ownsRow_lit (e := 41) (size := 5) w6 #[] 0 (Nat.le_refl _) (Nat.zero_le _) rfl
        go_wp2_with (at_builtin; go_must (refine wpList_app rfl _ _ 22 22 rfl w6.heap.size 41 (.agg #[.int .i64 0, .int .i64 0, .bool false, .bool false, .string ⟨#[]⟩]) 5 40 Try.underlying22 hinf.out rfl _ 0 [] rfl hlit7 (.slice (some ⟨gx, 0, none⟩) N cx) N (sc (cutS ep sq a)) rfl (Src.ofHas Try.underlying22 (hX.out.upd (Upd.alloc Non w6 _) fun _ _ h => h) (sc_one _)) (by unfold maxLen; omega) (by omega) (by simp) ?_))
        intro v7 w7 ho7 hu7 hf7
        have hu7' : Upd Non w6 w7 := (Upd.alloc Non w6 (.cells #[] 41)).trans hu7 fun j hj h => by simp [At, Value.ownBlock] at h; omega
        have hY7 := hz.out.non hu7'
        have hz7 := hu7'.size
        go_wp2_with (at_builtin; go_must (refine wpList_app rfl _ _ 22 22 rfl w6.heap.size 41 (.agg #[.int .i64 0, .int .i64 0, .bool false, .bool false, .string ⟨#[]⟩]) 5 40 Try.underlying22 hinf.out rfl _ _ _ rfl ho7 (.slice (some ⟨gz, 0, none⟩) M cz) M (sc (cutS ep (sq + N + gap) b)) rfl (Src.ofHas Try.underlying22 hY7 (sc_one _)) (by unfold maxLen; omega) (by omega) hz7 ?_))
        intro v8 w8 ho8 hu8 hf8
        have hS7 : SlotsAt w8 v8 (cutS ep sq a ++ cutS ep (sq + N + gap) b) := by
          have := has_of_owns ho8
          rw [← sc_append] at this
          unfold SlotsAt
          rw [show (cutS ep sq a ++ cutS ep (sq + N + gap) b).length = N + M by rw [List.length_append, hlx.out, hly2.out]]
          exact this
        have hU8' : Upd Non w6 w8 := hu7'.trans hu8 fun j hj h => absurd (own_ge ho7 h) (by omega)
        have hJ7 := Lib.hid (lJoin v8 (cutS ep sq a ++ cutS ep (sq + N + gap) b) w8 hS7 (by rw [List.length_append, hlx.out, hly2.out]; omega))
        clear ho7 hu7 hf7 ho8 hu8 hf8 hS7 hY7 hlit7
        go_wp2_with fail
        refine hJ7.out.mono ?_
        rintro en w9 hjj
        unfold JoinTo at hjj
        rw [hjg.out] at hjj
        obtain ⟨v9, rfl, ho9, hu9⟩ := hjj
        obtain ⟨g9, c9, rfl, -, -, -⟩ := own_rowform ho9 (by simp)
        have y9 := ho9.cells (g := g9) rfl 2 _ rfl
        rw [Addr.add_lit, Nat.zero_add] at y9
        have hU9' : Upd Non w6 w9 := hU8'.trans hu9 fun _ _ h => h
        clear ho9 hu9 hJ7 hU8' hu7' hz7
        have y6 := hU9'.cell y6 fun h => h
        have hU9 := hU6.trans hU9' fun _ _ h => h
        clear hU6 hU9' hX hz
        go_wp2_with fail
        refine (lives05 _).mono ?_
        rintro en w10 ⟨rfl, hu10⟩
        have hU10 := hU9.trans hu10 fun _ _ h => h
        go_wp2_with fail
        go_ret
        exact ⟨rfl, hU10⟩
      · have hcc := Lib.hid (lCutNo b ep (sq + N + gap) kc)
        clear kb
        go_enter Try.func5, Try.ntmps5
        go_wp2_with fail
        refine (hca.out _).mono ?_
        rintro en w1 ⟨gx, cx, rfl, hx, hu1⟩
        replace hx := Lib.hid hx
        go_wp2_with fail
        refine (hcb.out _).mono ?_
        rintro en w2 ⟨gy, cy, rfl, hy, hu2⟩
        replace hy := Lib.hid hy
        go_wp2_with fail
        refine (hcc.out _).mono ?_
        rintro en w3 ⟨z, rfl, hz, hu3⟩
        have hU3 := (hu1.trans hu2 fun _ _ h => h).trans hu3 fun _ _ h => h
        clear hu1 hu2 hu3
        go_wp2_with fail
        refine (lives05 _).mono ?_
        rintro en w9 ⟨rfl, hu9⟩
        have hU9 := Upd.trans (hU3) hu9 fun _ _ h => h
        go_wp2_with fail
        go_ret
        exact ⟨rfl, hU9⟩
    · have hcb := Lib.hid (lCutNo b (ep - 1) (sq + N) kb)
      have hcc := Lib.hid (lCutAny b)
      go_enter Try.func5, Try.ntmps5
      go_wp2_with fail
      refine (hca.out _).mono ?_
      rintro en w1 ⟨gx, cx, rfl, hx, hu1⟩
      replace hx := Lib.hid hx
      go_wp2_with fail
      refine (hcb.out _).mono ?_
      rintro en w2 ⟨z, rfl, hz, hu2⟩
      go_wp2_with fail
      refine (hcc.out _ _ _).mono ?_
      rintro en w3 ⟨v3, z3, rfl, hu3⟩
      have hU3 := (hu1.trans hu2 fun _ _ h => h).trans hu3 fun _ _ h => h
      clear hu1 hu2 hu3
      go_wp2_with fail
      refine (lives05 _).mono ?_
      rintro en w9 ⟨rfl, hu9⟩
      have hU9 := Upd.trans (hU3) hu9 fun _ _ h => h
      go_wp2_with fail
      go_ret
      exact ⟨rfl, hU9⟩
  · have hca := Lib.hid (lCutNo a ep sq ka)
    have hcb := Lib.hid (lCutAny b)
    have hcc := Lib.hid (lCutAny b)
    go_enter Try.func5, Try.ntmps5
    go_wp2_with fail
    refine (hca.out _).mono ?_
    rintro en w1 ⟨z, rfl, hz, hu1⟩
    go_wp2_with fail
    refine (hcb.out _ _ _).mono ?_
    rintro en w2 ⟨v2, z2, rfl, hu2⟩
    go_wp2_with fail
    refine (hcc.out _ _ _).mono ?_
    rintro en w3 ⟨v3, z3, rfl, hu3⟩
    have hU3 := (hu1.trans hu2 fun _ _ h => h).trans hu3 fun _ _ h => h
    clear hu1 hu2 hu3
    go_wp2_with fail
    refine (lives05 _).mono ?_
    rintro en w9 ⟨rfl, hu9⟩
    have hU9 := Upd.trans (hU3) hu9 fun _ _ h => h
    go_wp2_with fail
    go_ret
    exact ⟨rfl, hU9⟩
end Go.Proofs.Ytiadbijholnbjaa
