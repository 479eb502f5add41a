/- The reference's Right, Check; slot.flags. -/
import Derived.Test.YtiadbijholnbjaaSlG
namespace Go.Proofs.Ytiadbijholnbjaa
open Go.RowKit Go.Amb Go.Shelf
set_option linter.unusedVariables false
set_option linter.unusedSimpArgs false
theorem refRight (x : S5) (w : World) : Calls Try.prog 28 #[x.v] w (Ret (.bool (rightS x)) w) := by
  obtain ⟨e, q, f, l, d⟩ := x
  by_cases hR : rightS ⟨e, q, f, l, d⟩ = true
  · rw [hR]
    obtain ⟨⟨h1, h2⟩, ⟨h3, h4⟩, h5⟩ := of_decide_eq_true hR
    simp only at h1 h2 h3 h4 h5
    have g5 : (d.length : Int) ≤ 108 := by omega
    have hR' := h1
    clear hR h5
    go_enter Try.func28, Try.ntmps28
    go_wp2_with fail
    go_ret
    exact ⟨rfl, (Upd.refl _ _).then_alloc _⟩
  · rw [Bool.eq_false_iff.2 hR]
    have hR' : ¬ ((0 ≤ e ∧ e ≤ 2147483647) ∧ (0 ≤ q ∧ q ≤ 1152921504606846976) ∧ d.length ≤ 108) := fun h => hR (decide_eq_true h)
    clear hR
    by_cases g1 : 0 ≤ e
    · by_cases g2 : e ≤ 2147483647
      · by_cases g3 : 0 ≤ q
        · by_cases g4 : q ≤ 1152921504606846976
          · have g5 : ¬ (d.length : Int) ≤ 108 := by omega
            clear hR'
            go_enter Try.func28, Try.ntmps28
            go_wp2_with fail
            go_ret
            exact ⟨rfl, (Upd.refl _ _).then_alloc _⟩
          · clear hR'
            go_enter Try.func28, Try.ntmps28
            go_wp2_with fail
            go_ret
            exact ⟨rfl, (Upd.refl _ _).then_alloc _⟩
        · clear hR'
          go_enter Try.func28, Try.ntmps28
          go_wp2_with fail
          go_ret
          exact ⟨rfl, (Upd.refl _ _).then_alloc _⟩
      · clear hR'
        go_enter Try.func28, Try.ntmps28
        go_wp2_with fail
        go_ret
        exact ⟨rfl, (Upd.refl _ _).then_alloc _⟩
    · clear hR'
      go_enter Try.func28, Try.ntmps28
      go_wp2_with fail
      go_ret
      exact ⟨rfl, (Upd.refl _ _).then_alloc _⟩
theorem refCheck (x : S5) (w : World) : Calls Try.prog 17 #[x.v] w (Ret (.int .i64 (if rightS x then 0 else 2)) w) := by
  have hr := Lib.hid (fun w => refRight x w)
  obtain ⟨e, q, f, l, d⟩ := x
  cases hR : rightS ⟨e, q, f, l, d⟩
  all_goals
    rw [hR] at hr
    clear hR
    go_enter Try.func17, Try.ntmps17
    go_wp2_with fail
    refine (hr.out _).mono ?_
    rintro en w1 ⟨rfl, hu1⟩
    have hU := ((Upd.refl Non w).then_alloc (.cells #[.int .i64 e, .int .i64 q, .bool f, .bool l, .string ⟨d.toArray⟩] 41)).trans hu1 fun _ _ h => h
    go_wp2_with fail
    go_ret
    exact ⟨rfl, hU⟩
/-- A slot's flags. -/
def flagS (f l : Bool) : Nat := (if f then 1 else 0) + (if l then 2 else 0)
theorem lFlags (x : S5) (w : World) : Calls Try.prog 23 #[x.v] w (Ret (.int .i64 (flagS x.f x.l : Nat)) w) := by
  obtain ⟨e, q, f, l, d⟩ := x
  have k1 : bits .or .i64 0 1 = 1 := by decide
  have k2 : bits .or .i64 0 2 = 2 := by decide
  have k3 : bits .or .i64 1 2 = 3 := by decide
  cases f <;> cases l
  all_goals
    go_enter Try.func23, Try.ntmps23
    go_wp2_with fail
    go_ret
    exact ⟨rfl, (Upd.refl _ _).then_alloc _⟩
end Go.Proofs.Ytiadbijholnbjaa
