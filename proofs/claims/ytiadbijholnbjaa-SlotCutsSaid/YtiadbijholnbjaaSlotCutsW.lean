/- The walk over SlotCuts. -/
import Derived.Test.YtiadbijholnbjaaSlI
namespace Go.Proofs.Ytiadbijholnbjaa
open Go.RowKit Go.Amb Go.Shelf
set_option linter.unusedVariables false
set_option maxRecDepth 100000
set_option maxHeartbeats 2000000 in
theorem lSlotCuts (s : List UInt8) (e q : Int) (w : World) : Calls Try.prog 3 #[.string ⟨s.toArray⟩, .int .i64 e, .int .i64 q] w (Ret (.bool true) w) := by
  have hc := Lib.hid (fun w => lCut s e q w)
  have hr := Lib.hid (fun w => refCut s e q w)
  have hlen := cutS_length e q s
  by_cases hk : cutOk e q s
  · have hN : pieceN s ≤ 152 := by have := hk.1; unfold pieceN; omega
    go_enter Try.func3, Try.ntmps3
    go_wp2_with fail
    refine (hc.out _).mono ?_
    rintro en w1 (⟨-, v1, rfl, ho1, hu1⟩ | ⟨hno, -⟩)
    · go_wp2_with fail
      refine (hr.out _).mono ?_
      rintro en w2 (⟨-, v2, rfl, ho2, hu2⟩ | ⟨hno, -⟩)
      · have h1 := (has_of_owns ho1).non hu2
        have h2 := has_of_owns ho2
        have hU2 := hu1.trans hu2 fun _ _ h => h
        have hsm := Lib.hid (refSameS v1 v2 (cutS e q s) (cutS e q s) w2 h1 h2 (by omega))
        rw [decide_eq_true rfl] at hsm
        clear ho1 ho2 h1 h2
        go_wp2_with fail
        refine hsm.out.mono ?_
        rintro en w3 ⟨rfl, hu3⟩
        have hU3 := hU2.trans hu3 fun _ _ h => h
        go_wp2_with fail
        refine (lives05 _).mono ?_
        rintro en w4 ⟨rfl, hu4⟩
        have hU4 := hU3.trans hu4 fun _ _ h => h
        go_wp2_with fail
        go_ret
        exact ⟨rfl, hU4⟩
      · exact absurd hk hno
    · exact absurd hk hno
  · have bad : ∀ (f : FuncId), (∀ w, Calls Try.prog f #[.string ⟨s.toArray⟩, .int .i64 e, .int .i64 q] w (CutTo s e q w)) → ∀ w, Calls Try.prog f #[.string ⟨s.toArray⟩, .int .i64 e, .int .i64 q] w (fun en w' => en = .returned (.tuple #[.slice none 0 0, .int .i64 (if 16384 < s.length then 5 else 2)]) ∧ Upd Non w w') := fun f h w =>
      (h w).mono fun en w' h => h.elim (fun h => absurd h.1 hk) fun h => h.2
    replace hc := Lib.hid (bad _ hc.out)
    replace hr := Lib.hid (bad _ hr.out)
    generalize (if 16384 < s.length then (5 : Int) else 2) = z at hc hr
    go_enter Try.func3, Try.ntmps3
    go_wp2_with fail
    refine (hc.out _).mono ?_
    rintro en w1 ⟨rfl, hu1⟩
    go_wp2_with fail
    refine (hr.out _).mono ?_
    rintro en w2 ⟨rfl, hu2⟩
    have hU2 := hu1.trans hu2 fun _ _ h => h
    have hsm := Lib.hid (refSameS (.slice none 0 0) (.slice none 0 0) [] [] w2 (Has.nil _ _) (Has.nil _ _) (by decide))
    rw [decide_eq_true rfl] at hsm
    go_wp2_with fail
    refine hsm.out.mono ?_
    rintro en w3 ⟨rfl, hu3⟩
    have hU3 := hU2.trans hu3 fun _ _ h => h
    go_wp2_with fail
    refine (lives05 _).mono ?_
    rintro en w4 ⟨rfl, hu4⟩
    have hU4 := hU3.trans hu4 fun _ _ h => h
    go_wp2_with fail
    go_ret
    exact ⟨rfl, hU4⟩
end Go.Proofs.Ytiadbijholnbjaa
