/- A row of acts that came in. -/
import Derived.Test.YteeppclnmjlcbaaAY
import Derived.Test.YteeppclnmjlcbaaLawKitB
namespace Go.Proofs.Yteeppclnmjlcbaa
open Go.ChangeShapes Go.WideShapes Go.ChangeAt Go.RowKit Go.Amb
set_option linter.unusedVariables false
variable {H : Type} {enc : TypeId × Value → H}
theorem row_act {W : World} {m : Nat} {r : List Value} {x : DataW H × List MemPlace} (hr : r.length = 3) (hx : DataW.trod enc Try.prog W 0 (fun _ => true) true m 50 r = some x) : ∃ q : Act3, r = ac q ∧ okAct q := by
  obtain ⟨ys, n, hx1, hlen, hf⟩ := row_fields Try.underlying50 (by kernel_rfl) hr hx
  obtain ⟨c0, y0, r0, q0, g0⟩ := hf 0 _ rfl
  obtain ⟨c1, y1, r1, q1, g1⟩ := hf 1 _ rfl
  obtain ⟨c2, y2, r2, q2, g2⟩ := hf 2 _ rfl
  obtain ⟨n0, e0, _, w0⟩ := DataW.trod_int Try.underlying3 g0
  obtain ⟨n1, e1, _, w1⟩ := DataW.trod_int Try.underlying3 g1
  obtain ⟨n2, e2, _, w2⟩ := DataW.trod_int Try.underlying3 g2
  simp only [List.cons.injEq, and_true] at e0 e1 e2
  subst e0; subst e1; subst e2
  have hr3 : r = [.int .i64 n0, .int .i64 n1, .int .i64 n2] := by
    match r, hr with
    | [a, b, c], _ => simp at r0 r1 r2; rw [r0, r1, r2]
  exact ⟨(n0, n1, n2), hr3, wf_bounds w0, wf_bounds w1, wf_bounds w2⟩
theorem acts_len {w : World} {v : Value} {l : List Act3} (h : Acts w v l) : l.length < 9223372036854775808 := by
  obtain ⟨_, a, c, rfl, h1, h2, _⟩ := h
  unfold maxLen at h2
  omega
end Go.Proofs.Yteeppclnmjlcbaa
