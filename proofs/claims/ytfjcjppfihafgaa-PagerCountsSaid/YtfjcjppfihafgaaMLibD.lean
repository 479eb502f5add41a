/- More of the seat's own laws: a scope of several labels, to each of which the run may jump; rows of two element types lie apart. -/
import Derived.Test.YtfjcjppfihafgaaMLibB
import Derived.Test.YtfjcjppfihafgaaMLibC
import Derived.WalkMore
import Derived.Control
namespace Go
/-- As Q; by a goto: what J says of its label. -/
def Exit.jumps (J : Nat → Act → World → Prop) (Q : Exit → Act → World → Prop) : Exit → Act → World → Prop
  | .goto l, a, w => J l a w
  | e, a, w => Q e a w
section
variable {P : Program} {a : Act} {w : World} {Q : Exit → Act → World → Prop}
theorem Exit.jumps_ret (J : Nat → Act → World → Prop) : Exit.jumps J Q .ret a w = Q .ret a w := rfl
theorem Exit.jumps_goto (J : Nat → Act → World → Prop) (l : Nat) : Exit.jumps J Q (.goto l) a w = J l a w := rfl
theorem Exit.jumps_normal (J : Nat → Act → World → Prop) : Exit.jumps J Q .normal a w = Q .normal a w := rfl
theorem Exit.jumps_exit (J : Nat → Act → World → Prop) (i : Nat) : Exit.jumps J Q (.exit i) a w = Q (.exit i) a w := rfl

theorem wp_scopes {c : Code} (J : Nat → Act → World → Prop) (μ : Nat → Act → World → Nat) (first : c.wp P (Exit.jumps J Q) a w)
    (pass : ∀ l a w, J l a w → ∃ r, findLabel c l = some r ∧ r.wp P (Exit.jumps (fun l' a' w' => J l' a' w' ∧ μ l' a' w' < μ l a w) Q) a w) : (Code.scope c).wp P Q a w := by
  intro b k cs
  have back : ∀ n l a w r, μ l a w < n → J l a w → findLabel c l = some r → ∃ e a' w', Q e a' w' ∧ Arrives P (lone (b.at a (.code r :: .inScope c :: k)) cs w) b k cs e a' w' := by
    intro n
    induction n with
    | zero => intro l a w r h; omega
    | succ n ih =>
      intro l a w r hn hJ hr
      obtain ⟨r', hr', hw⟩ := pass l a w hJ
      obtain rfl : r' = r := Option.some.inj (hr'.symm.trans hr)
      obtain ⟨e, a₁, w₁, hq, harr⟩ := hw b (.inScope c :: k) cs
      cases e with
      | goto l' =>
        obtain ⟨hJ', hlt⟩ := hq
        obtain ⟨r2, hr2, _⟩ := pass l' a₁ w₁ hJ'
        obtain ⟨e₂, a₂, w₂, hq₂, harr₂⟩ := ih l' a₁ w₁ r2 (by omega) hJ' hr2
        exact ⟨e₂, a₂, w₂, hq₂, .of_steps (harr _ (by simp [gotoIn, hr2])) harr₂⟩
      | normal => exact ⟨.normal, a₁, w₁, hq, Steps.trans harr (.one step_inScope)⟩
      | exit id => exact ⟨.exit id, a₁, w₁, hq, fun k' hk => harr k' (by simp [exitTo, hk])⟩
      | ret => exact ⟨_, a₁, w₁, hq, harr⟩
      | panic ch => exact ⟨_, a₁, w₁, hq, harr⟩
      | outgrown => exact ⟨_, a₁, w₁, hq, harr⟩
  obtain ⟨e, a₁, w₁, hq, harr⟩ := first b (.inScope c :: k) cs
  cases e with
  | goto l' =>
    obtain ⟨r2, hr2, _⟩ := pass l' a₁ w₁ hq
    obtain ⟨e₂, a₂, w₂, hq₂, harr₂⟩ := back _ l' a₁ w₁ r2 (Nat.lt_succ_self _) hq hr2
    exact ⟨e₂, a₂, w₂, hq₂, .of_steps (.head step_scope (harr _ (by simp [gotoIn, hr2]))) harr₂⟩
  | normal => exact ⟨.normal, a₁, w₁, hq, .head step_scope (Steps.trans harr (.one step_inScope))⟩
  | exit id => exact ⟨.exit id, a₁, w₁, hq, fun k' hk => .head step_scope (harr k' (by simp [exitTo, hk]))⟩
  | ret => exact ⟨_, a₁, w₁, hq, .of_steps (.one step_scope) harr⟩
  | panic ch => exact ⟨_, a₁, w₁, hq, .of_steps (.one step_scope) harr⟩
  | outgrown => exact ⟨_, a₁, w₁, hq, .of_steps (.one step_scope) harr⟩
/-- As wp_scopes; the way from the scope's beginning may lean on the ways from the labels. -/
theorem wp_scopes' {c : Code} (J : Nat → Act → World → Prop) (μ : Nat → Act → World → Nat)
    (pass : ∀ l a w, J l a w → ∃ r, findLabel c l = some (Code.skip.seq r) ∧ r.wp P (Exit.jumps (fun l' a' w' => J l' a' w' ∧ μ l' a' w' < μ l a w) Q) a w)
    (first : (∀ l a w, J l a w → ∃ r, findLabel c l = some (Code.skip.seq r) ∧ r.wp P (Exit.jumps J Q) a w) → c.wp P (Exit.jumps J Q) a w) : (Code.scope c).wp P Q a w := by
  refine wp_scopes J μ (first fun l a w h => ?_) fun l a w h => ?_
  · obtain ⟨r, hr, hw⟩ := pass l a w h
    refine ⟨r, hr, Code.wp_mono (fun e a w h => ?_) hw⟩
    cases e with
    | goto l' => exact h.1
    | _ => exact h
  · obtain ⟨r, hr, hw⟩ := pass l a w h
    exact ⟨_, hr, wp_seq (wp_skip hw)⟩
end
end Go
namespace Go.Amb
open Go.RowKit
theorem own_apart {w : World} {b1 b2 : Nat} {e1 e2 : TypeId} {s1 s2 : Nat} {v1 v2 : Value} {n1 n2 : Nat} {x1 x2 : List Value} (h1 : w.ownsRow b1 e1 s1 v1 n1 x1) (h2 : w.ownsRow b2 e2 s2 v2 n2 x2) (he : e1 ≠ e2) : ∀ k, At v1 k → ¬ At v2 k := by
  intro k k1 k2
  rcases h1.2 with ⟨rfl, _⟩ | ⟨g, cap, cur, rfl, _, hg, _⟩
  · cases k1
  · rcases h2.2 with ⟨rfl, _⟩ | ⟨g', cap', cur', rfl, _, hg', _⟩
    · cases k2
    · simp only [At, Value.ownBlock, Option.some.injEq] at k1 k2
      subst k1
      subst k2
      rw [hg] at hg'
      injection hg' with hg'
      injection hg' with _ h
      exact he h
end Go.Amb
