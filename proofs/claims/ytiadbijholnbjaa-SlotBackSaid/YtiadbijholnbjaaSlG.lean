/- slot.Check, slot.follows. -/
import Derived.Test.YtiadbijholnbjaaSlF
namespace Go.Amb
open Go.RowKit
/-- Is a slot right? -/
def rightS (s : S5) : Bool := decide ((0 ≤ s.e ∧ s.e ≤ 2147483647) ∧ (0 ≤ s.q ∧ s.q ≤ 1152921504606846976) ∧ s.d.length ≤ 108)
/-- Does b follow a? -/
def folS (a b : S5) : Bool := decide (b.q = a.q + 1 ∧ (b.e = a.e ∨ b.f = true ∧ a.e < b.e))
abbrev S5.v (x : S5) : Value := .agg #[.int .i64 x.e, .int .i64 x.q, .bool x.f, .bool x.l, .string ⟨x.d.toArray⟩]
end Go.Amb
namespace Go.Proofs.Ytiadbijholnbjaa
open Go.RowKit Go.Amb Go.Shelf
set_option linter.unusedVariables false
theorem lCheck (x : S5) (w : World) : Calls Try.prog 16 #[x.v] w (Ret (.int .i64 (if rightS x then 0 else 2)) w) := by
  obtain ⟨e, q, f, l, d⟩ := x
  by_cases hR : rightS ⟨e, q, f, l, d⟩ = true
  · rw [if_pos hR]
    obtain ⟨⟨h1, h2⟩, ⟨h3, h4⟩, h5⟩ := of_decide_eq_true hR
    simp only at h1 h2 h3 h4 h5
    have g1 : ¬ e < 0 := by omega
    have g2 : ¬ 2147483647 < e := by omega
    have g3 : ¬ q < 0 := by omega
    have g4 : ¬ 1152921504606846976 < q := by omega
    have g5 : ¬ (108 : Int) < (d.length : Int) := by omega
    clear hR h1 h2 h3 h4 h5
    go_enter Try.func16, Try.ntmps16
    go_wp2_with fail
    go_ret
    exact ⟨rfl, (Upd.refl _ _).then_alloc _⟩
  · rw [if_neg hR]
    have hR' : ¬ ((0 ≤ e ∧ e ≤ 2147483647) ∧ (0 ≤ q ∧ q ≤ 1152921504606846976) ∧ d.length ≤ 108) := fun h => hR (decide_eq_true h)
    clear hR
    by_cases g1 : e < 0
    · clear hR'
      go_enter Try.func16, Try.ntmps16
      go_wp2_with fail
      go_ret
      exact ⟨rfl, (Upd.refl _ _).then_alloc _⟩
    by_cases g2 : 2147483647 < e
    · clear hR'
      go_enter Try.func16, Try.ntmps16
      go_wp2_with fail
      go_ret
      exact ⟨rfl, (Upd.refl _ _).then_alloc _⟩
    by_cases g3 : q < 0
    · clear hR'
      go_enter Try.func16, Try.ntmps16
      go_wp2_with fail
      go_ret
      exact ⟨rfl, (Upd.refl _ _).then_alloc _⟩
    by_cases g4 : 1152921504606846976 < q
    · clear hR'
      go_enter Try.func16, Try.ntmps16
      go_wp2_with fail
      go_ret
      exact ⟨rfl, (Upd.refl _ _).then_alloc _⟩
    have g5 : (108 : Int) < (d.length : Int) := by omega
    clear hR'
    go_enter Try.func16, Try.ntmps16
    go_wp2_with fail
    go_ret
    exact ⟨rfl, (Upd.refl _ _).then_alloc _⟩
theorem lFollows (a b : S5) (w : World) (ha : rightS a = true) : Calls Try.prog 21 #[a.v, b.v] w (Ret (.bool (folS a b)) w) := by
  obtain ⟨e, q, f, l, d⟩ := a
  obtain ⟨⟨h1, h2⟩, ⟨h3, h4⟩, h5⟩ := of_decide_eq_true ha
  simp only at h1 h2 h3 h4 h5
  have hw : IntKind.i64.wrap (q + 1) = q + 1 := IntWalk.i64_in _ ⟨by omega, by omega⟩
  clear ha h1 h2 h5
  obtain ⟨e', q', f', l', d'⟩ := b
  by_cases g1 : q' = q + 1
  · by_cases g2 : e' = e
    · rw [show folS ⟨e, q, f, l, d⟩ ⟨e', q', f', l', d'⟩ = true by simp [folS, g1, g2]]
      subst g1 g2
      go_enter Try.func21, Try.ntmps21
      go_wp2_with fail
      go_ret
      exact ⟨rfl, ((Upd.refl _ _).then_alloc _).then_alloc _⟩
    · cases f' with
      | false =>
        rw [show folS ⟨e, q, f, l, d⟩ ⟨e', q', false, l', d'⟩ = false by simp [folS, g1, g2]]
        have g2' : (e' == e) = false := by simpa using g2
        clear g2
        subst g1
        go_enter Try.func21, Try.ntmps21
        go_wp2_with fail
        go_ret
        exact ⟨rfl, ((Upd.refl _ _).then_alloc _).then_alloc _⟩
      | true =>
        have g2' : (e' == e) = false := by simpa using g2
        by_cases g3 : e < e'
        · rw [show folS ⟨e, q, f, l, d⟩ ⟨e', q', true, l', d'⟩ = true by simp [folS, g1, g3]]
          clear g2
          subst g1
          go_enter Try.func21, Try.ntmps21
          go_wp2_with fail
          go_ret
          exact ⟨rfl, ((Upd.refl _ _).then_alloc _).then_alloc _⟩
        · rw [show folS ⟨e, q, f, l, d⟩ ⟨e', q', true, l', d'⟩ = false by simp [folS, g1, g2, g3]]
          clear g2
          subst g1
          go_enter Try.func21, Try.ntmps21
          go_wp2_with fail
          go_ret
          exact ⟨rfl, ((Upd.refl _ _).then_alloc _).then_alloc _⟩
  · rw [show folS ⟨e, q, f, l, d⟩ ⟨e', q', f', l', d'⟩ = false by simp [folS, g1]]
    have g1' : (q' == q + 1) = false := by simpa using g1
    clear g1
    go_enter Try.func21, Try.ntmps21
    go_wp2_with fail
    go_ret
    exact ⟨rfl, ((Upd.refl _ _).then_alloc _).then_alloc _⟩
end Go.Proofs.Ytiadbijholnbjaa
