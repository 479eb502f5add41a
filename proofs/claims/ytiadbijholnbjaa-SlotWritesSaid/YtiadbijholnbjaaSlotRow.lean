/- A slot that came in. -/
import Derived.Test.YtiadbijholnbjaaLawKitB
import Derived.Test.YtiadbijholnbjaaSlG
namespace Go.Proofs.Ytiadbijholnbjaa
open Go.RowKit Go.Amb Go.ChangeShapes Go.WideShapes Go.ChangeAt
set_option linter.unusedVariables false
variable {H : Type} {enc : TypeId × Value → H}
theorem und_slot : Try.prog.underlying 41 = some (.struct #[⟨ "Epoch", 3, 0, false, "", "", 0⟩, ⟨ "Seq", 3, 1, false, "", "", 8⟩, ⟨ "First", 4, 2, false, "", "", 16⟩, ⟨ "Last", 4, 3, false, "", "", 17⟩, ⟨ "Data", 9, 4, false, "", "", 24⟩]) := by kernel_rfl
theorem open_slot {W : World} {b0 : Nat} {v : Value} {d : DataW H} {ps : List MemPlace} (hval : Value.okWide Try.prog W .any b0 41 v) (hd : DataW.Trod enc Try.prog W 0 (fun _ => true) true 41 v d ps) : ∃ x : S5, v = x.v := by
  obtain ⟨cs, rfl, hcs⟩ := okWide_struct und_slot hval
  obtain ⟨fuel, hf⟩ := hd
  have hlen : (Value.agg cs).cells.toList.length = 5 := by
    show cs.toList.length = 5
    rw [Array.length_toList, hcs]; rfl
  obtain ⟨ys, n, hx1, hl, hg⟩ := row_fields und_slot (by kernel_rfl) hlen hf
  obtain ⟨c0, y0, r0, q0, g0⟩ := hg 0 _ rfl
  obtain ⟨c1, y1, r1, q1, g1⟩ := hg 1 _ rfl
  obtain ⟨c2, y2, r2, q2, g2⟩ := hg 2 _ rfl
  obtain ⟨c3, y3, r3, q3, g3⟩ := hg 3 _ rfl
  obtain ⟨c4, y4, r4, q4, g4⟩ := hg 4 _ rfl
  obtain ⟨n0, e0, _, w0⟩ := DataW.trod_int Try.underlying3 g0
  obtain ⟨n1, e1, _, w1⟩ := DataW.trod_int Try.underlying3 g1
  obtain ⟨n2, e2, _⟩ := DataW.trod_bool Try.underlying4 g2
  obtain ⟨n3, e3, _⟩ := DataW.trod_bool Try.underlying4 g3
  obtain ⟨s, e4, _, _⟩ := DataW.trod_string Try.underlying9 g4
  simp only [List.cons.injEq, and_true] at e0 e1 e2 e3 e4
  subst e0 e1 e2 e3 e4
  obtain ⟨l, hl1, _, _⟩ := bytes_of s
  subst hl1
  have r0' : cs.toList[0]? = some (.int .i64 n0) := r0
  have r1' : cs.toList[1]? = some (.int .i64 n1) := r1
  have r2' : cs.toList[2]? = some (.bool n2) := r2
  have r3' : cs.toList[3]? = some (.bool n3) := r3
  have r4' : cs.toList[4]? = some (.string ⟨l.toArray⟩) := r4
  have hl5 : cs.toList.length = 5 := hlen
  refine ⟨⟨n0, n1, n2, n3, l⟩, ?_⟩
  show Value.agg cs = Value.agg _
  congr 1
  apply Array.ext'
  match h : cs.toList, hl5 with
  | [a, b, c, d, e], _ =>
    rw [h] at r0' r1' r2' r3' r4'
    simp at r0' r1' r2' r3' r4'
    rw [r0', r1', r2', r3', r4']
end Go.Proofs.Ytiadbijholnbjaa
