/- The walk over SlotBack. -/
import Derived.Test.YtiadbijholnbjaaSlotReadsW
import Derived.Test.YtiadbijholnbjaaSlV
namespace Go.Proofs.Ytiadbijholnbjaa
open Go.RowKit Go.Amb Go.Shelf
set_option linter.unusedVariables false
set_option linter.unusedSimpArgs false
theorem slot_neqs (p : S5) (w : World) : (binOp .neq 41 p.v p.v).run Try.prog w = .ok (.bool false) w := by
  rw [run_neq_struct, slot_equal]; simp [go_sem]
/-- slot.Bytes of what is right. -/
theorem lBytes_ok (x : S5) (w : World) (hR : rightS x = true) : Calls Try.prog 14 #[x.v] w (fun en w' => ∃ v, en = .returned (.tuple #[v, .int .i64 0]) ∧ Bytes w' v (slotB x) ∧ Upd Non w w') :=
  (lBytes x w).mono fun en w' h => by
    rcases h with ⟨_, v, rfl, ho, hu⟩ | ⟨hn, _⟩
    · exact ⟨v, rfl, ho.bytes, hu⟩
    · rw [hR] at hn; cases hn
theorem lBytes_no (x : S5) (w : World) (hR : rightS x = false) : Calls Try.prog 14 #[x.v] w (Ret (.tuple #[.slice none 0 0, .int .i64 2]) w) :=
  (lBytes x w).mono fun en w' h => by
    rcases h with ⟨hn, _⟩ | ⟨_, rfl, hu⟩
    · rw [hR] at hn; cases hn
    · exact ⟨rfl, hu⟩
set_option maxRecDepth 100000 in
set_option maxHeartbeats 2000000 in
theorem lSlotBack (x : S5) (l : List UInt8) (v : Value) (w : World) (hB : Bytes w v l) : Calls Try.prog 8 #[x.v, v] w (Ret (.bool true) w) := by
  have cL := Lib.hid (fun w h => lRead l v w h)
  cases hR : rightS x with
  | true =>
    have cX := Lib.hid (fun w => lBytes_ok x w hR)
    have hne := slot_neqs x
    obtain ⟨hr, h128⟩ := readS_slotB x hR
    have cY := Lib.hid (fun v w h => lRead (slotB x) v w h)
    rw [hr] at cY
    obtain ⟨B, hBB⟩ : ∃ B, slotB x = B := ⟨_, rfl⟩
    rw [hBB] at cX cY h128
    obtain ⟨e, q, f, d0, d⟩ := x
    clear hR hBB hr
    replace hB := Lib.hid hB
    go_enter Try.func8, Try.ntmps8
    go_wp2_with fail
    refine (cX.out _).mono ?_
    rintro en w1 ⟨v1, rfl, hB1, hu1⟩
    obtain ⟨y, -, hz1, hU1⟩ := hu1.own1 (fun _ h => h.elim)
    have y0 := y 0
    have y1 := y 1
    have y2 := y 2
    have y3 := y 3
    have y4 := y 4
    clear y hu1
    obtain ⟨a1, c1, rfl⟩ := bytes_form hB1
    rw [h128] at hB1 ⊢
    go_wp2_with fail
    refine (cY.out _ _ (show Bytes w1 (.slice a1 128 c1) B from hB1)).mono ?_
    rintro en w2 ⟨rfl, hu2⟩
    have hA := Upd.alloc Non w2 (.cells #[.int .i64 e, .int .i64 q, .bool f, .bool d0, .string ⟨d.toArray⟩] 41)
    have y0 := hA.cell (hu2.cell y0 fun h => h) fun h => h
    have y1 := hA.cell (hu2.cell y1 fun h => h) fun h => h
    have y2 := hA.cell (hu2.cell y2 fun h => h) fun h => h
    have y3 := hA.cell (hu2.cell y3 fun h => h) fun h => h
    have y4 := hA.cell (hu2.cell y4 fun h => h) fun h => h
    have hU2 := hU1.trans hu2 fun _ _ h => h
    have hU3 := hU2.then_alloc (.cells #[.int .i64 e, .int .i64 q, .bool f, .bool d0, .string ⟨d.toArray⟩] 41)
    clear hu2 cX cY hA
    rcases readS_cases l with ⟨t, hrs, htR, htB⟩ | hrs
    · rw [hrs] at cL
      have cB := Lib.hid (fun w => lBytes_ok t w htR)
      rw [htB] at cB
      obtain ⟨te, tq, tf, tl, td⟩ := t
      clear hrs htR htB
      go_wp2_with fail
      refine (cL.out _ (hB.out.non hU3)).mono ?_
      rintro en w5 ⟨rfl, hu5⟩
      have hU5 := hU3.trans hu5 fun _ _ h => h
      clear hu5
      go_wp2_with fail
      refine (cB.out _).mono ?_
      rintro en w6 ⟨v6, rfl, hB6, hu6⟩
      have hU6 := (hU5.then_alloc (.cells #[.int .i64 te, .int .i64 tq, .bool tf, .bool tl, .string ⟨td.toArray⟩] 41)).trans hu6 fun _ _ h => h
      have hst1 := run_str (P := Try.prog) _ 42 9 5 Try.underlying42 Try.underlying5 Try.underlying9 _ _ hB6
      have hst2 := run_str (P := Try.prog) _ 42 9 5 Try.underlying42 Try.underlying5 Try.underlying9 _ _ (hB.out.non hU6)
      clear hu6 hU5
      go_wp2_with fail
      refine (lives05 _).mono ?_
      rintro en w7 ⟨rfl, hu7⟩
      have hU7 := hU6.trans hu7 fun _ _ h => h
      go_wp2_with fail
      go_ret
      exact ⟨rfl, hU7⟩
    · rw [hrs] at cL
      have heq := slot_eqs slot0
      go_wp2_with fail
      refine (cL.out _ (hB.out.non hU3)).mono ?_
      rintro en w5 ⟨rfl, hu5⟩
      have hU5 := hU3.trans hu5 fun _ _ h => h
      clear hu5
      go_wp2_with fail
      refine (lives05 _).mono ?_
      rintro en w7 ⟨rfl, hu7⟩
      have hU7 := (hU5.then_alloc _).trans hu7 fun _ _ h => h
      go_wp2_with fail
      go_ret
      exact ⟨rfl, hU7⟩
  | false =>
    have cX := Lib.hid (fun w => lBytes_no x w hR)
    have cC := Lib.hid (fun w => lCheck x w)
    rw [hR] at cC
    obtain ⟨e, q, f, d0, d⟩ := x
    clear hR
    replace hB := Lib.hid hB
    go_enter Try.func8, Try.ntmps8
    go_wp2_with fail
    refine (cX.out _).mono ?_
    rintro en w1 ⟨rfl, hu1⟩
    obtain ⟨y, -, hz1, hU1⟩ := hu1.own1 (fun _ h => h.elim)
    have y0 := y 0
    have y1 := y 1
    have y2 := y 2
    have y3 := y 3
    have y4 := y 4
    clear y hu1 cX
    go_wp2_with fail
    refine (cC.out _).mono ?_
    rintro en w2 ⟨rfl, hu2⟩
    have hU2 := hU1.trans hu2 fun _ _ h => h
    clear hu2 cC
    rcases readS_cases l with ⟨t, hrs, htR, htB⟩ | hrs
    · rw [hrs] at cL
      have cB := Lib.hid (fun w => lBytes_ok t w htR)
      rw [htB] at cB
      obtain ⟨te, tq, tf, tl, td⟩ := t
      clear hrs htR htB
      go_wp2_with fail
      refine (cL.out _ (hB.out.non hU2)).mono ?_
      rintro en w5 ⟨rfl, hu5⟩
      have hU5 := hU2.trans hu5 fun _ _ h => h
      clear hu5
      go_wp2_with fail
      refine (cB.out _).mono ?_
      rintro en w6 ⟨v6, rfl, hB6, hu6⟩
      have hU6 := (hU5.then_alloc (.cells #[.int .i64 te, .int .i64 tq, .bool tf, .bool tl, .string ⟨td.toArray⟩] 41)).trans hu6 fun _ _ h => h
      have hst1 := run_str (P := Try.prog) _ 42 9 5 Try.underlying42 Try.underlying5 Try.underlying9 _ _ hB6
      have hst2 := run_str (P := Try.prog) _ 42 9 5 Try.underlying42 Try.underlying5 Try.underlying9 _ _ (hB.out.non hU6)
      clear hu6 hU5
      go_wp2_with fail
      refine (lives05 _).mono ?_
      rintro en w7 ⟨rfl, hu7⟩
      have hU7 := hU6.trans hu7 fun _ _ h => h
      go_wp2_with fail
      go_ret
      exact ⟨rfl, hU7⟩
    · rw [hrs] at cL
      have heq := slot_eqs slot0
      go_wp2_with fail
      refine (cL.out _ (hB.out.non hU2)).mono ?_
      rintro en w5 ⟨rfl, hu5⟩
      have hU5 := hU2.trans hu5 fun _ _ h => h
      clear hu5
      go_wp2_with fail
      refine (lives05 _).mono ?_
      rintro en w7 ⟨rfl, hu7⟩
      have hU7 := (hU5.then_alloc _).trans hu7 fun _ _ h => h
      go_wp2_with fail
      go_ret
      exact ⟨rfl, hU7⟩
end Go.Proofs.Ytiadbijholnbjaa
