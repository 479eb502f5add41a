/- A row of a slice of parts that came in. -/
import Derived.Test.YtnlmdagmhfcdeaaLawKitB
import Derived.Test.YtnlmdagmhfcdeaaTC
namespace Go.Proofs.Ytnlmdagmhfcdeaa
open Go.RowKit Go.Amb Go.ChangeShapes Go.WideShapes Go.ChangeAt
set_option linter.unusedVariables false
variable {H : Type} {enc : TypeId × Value → H}
def okP (p : Part) : Prop := numOk p ∧ p.s.length ≤ 140737488355328
theorem row_part {W : World} {m : Nat} {r : List Value} {x : DataW H × List MemPlace} (hr : r.length = 3) (hx : DataW.trod enc Try.prog W 0 (fun _ => true) true m 46 r = some x) (hw : ∀ n ∈ x.1.weights Try.prog 46, n ≤ 140737488351232) :
    ∃ q : Part, r = pc q ∧ okP q := by
  obtain ⟨ys, n, hx1, hlen, hf⟩ := row_fields Try.underlying46 (by kernel_rfl) hr hx
  obtain ⟨c0, y0, r0, q0, g0⟩ := hf 0 _ rfl
  obtain ⟨c1, y1, r1, q1, g1⟩ := hf 1 _ rfl
  obtain ⟨c2, y2, r2, q2, g2⟩ := hf 2 _ rfl
  obtain ⟨n0, e0, _, w0⟩ := DataW.trod_int Try.underlying44 g0
  obtain ⟨n1, e1, _, w1⟩ := DataW.trod_int Try.underlying3 g1
  obtain ⟨s, e2, x2, w2⟩ := DataW.trod_string Try.underlying9 g2
  simp only [List.cons.injEq, and_true] at e0 e1 e2
  subst e0; subst e1; subst e2; subst x2
  obtain ⟨l, hl, hl2, hl3⟩ := bytes_of s
  have hr3 : r = [.int .i64 n0, .int .i64 n1, .string s] := by
    match r, hr with
    | [a, b, c], _ => simp at r0 r1 r2; rw [r0, r1, r2]
  refine ⟨⟨n0, n1, l⟩, by rw [hr3, hl]; rfl, wf_bounds w1, ?_⟩
  have := hw s.data.toList.length (by
    rw [hx1]
    match ys, hlen with
    | [a, b, c], _ =>
      simp at q2
      subst q2
      simp [DataW.weights, Try.underlying46, DataW.weightsEach])
  rw [hl2] at this
  show l.length ≤ _
  omega
theorem okP_all {l : List Part} (h : ∀ p ∈ l, okP p) : ∀ p ∈ l, numOk p ∧ p.s.length ≤ 140737488355328 := h
end Go.Proofs.Ytnlmdagmhfcdeaa
