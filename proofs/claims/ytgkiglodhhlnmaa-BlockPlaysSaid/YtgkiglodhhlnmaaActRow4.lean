/- A row of acts that came in. -/
import Derived.Test.YtgkiglodhhlnmaaBlP
import Derived.Test.YtgkiglodhhlnmaaLawKitB
namespace Go.Proofs.Ytgkiglodhhlnmaa
open Go.ChangeShapes Go.WideShapes Go.ChangeAt Go.RowKit Go.Amb
set_option linter.unusedVariables false
variable {H : Type} {enc : TypeId × Value → H}
/-- A slice of numbers, one field of a struct. -/
theorem ints_trod {W : World} {m : Nat} {v : Value} {y : DataW H × List MemPlace} (h : DataW.trod enc Try.prog W 0 (fun _ => true) true m 23 [v] = some y) :
    ∃ zs : List Int, Ints W v zs ∧ (0 < zs.length → ∀ j, At v j → j < W.heap.size) := by
  rcases open_ints Try.underlying23 Try.underlying3 (by kernel_rfl) h with ⟨hcs, hx⟩ | ⟨a, len, cap, zs, hcs, _, hl, hm, hz, hx, hcell, hwz⟩
  · simp only [List.cons.injEq, and_true] at hcs
    subst hcs
    exact ⟨[], Has.nil W 1, fun h => by cases h⟩
  · simp only [List.cons.injEq, and_true] at hcs
    subst hcs
    simp only [if_true] at hz
    have hn : (zs.take len).length = len := by rw [List.length_take]; omega
    refine ⟨zs.take len, ⟨by simp, some a, cap, by rw [hn], by omega, hm, ?_⟩, fun h0 j hj => ?_⟩
    · by_cases h0 : len = 0
      · exact .inl (by omega)
      · obtain ⟨b, off, spot⟩ := a
        have hspot : spot = none := by simpa [Addr.add] using World.cell?_spot (hcell 0 (by omega))
        subst hspot
        refine .inr ⟨b, off, rfl, fun j u hu => ?_⟩
        rw [List.getElem?_map, Option.map_eq_some_iff] at hu
        obtain ⟨z, hz', rfl⟩ := hu
        obtain ⟨hj, rfl⟩ := List.getElem?_eq_some_iff.1 hz'
        have := hcell j (by omega)
        rw [Addr.add_lit] at this
        rw [this]
        simp [List.getD, show j < zs.length by omega]
    · have := World.block_lt_of_cell? W _ (hcell 0 (by omega))
      simp only [At, Value.ownBlock, Option.some.injEq] at hj
      subst hj
      simpa [Addr.add] using this
theorem row_act {W : World} {m : Nat} {r : List Value} {x : DataW H × List MemPlace} (hr : r.length = 4) (hx : DataW.trod enc Try.prog W 0 (fun _ => true) true m 34 r = some x) : ∃ q : Act4, r = ac q ∧ GoodAct W q := by
  obtain ⟨ys, n, hx1, hlen, hf⟩ := row_fields Try.underlying34 (by kernel_rfl) hr hx
  obtain ⟨c0, y0, r0, q0, g0⟩ := hf 0 _ rfl
  obtain ⟨c1, y1, r1, q1, g1⟩ := hf 1 _ rfl
  obtain ⟨c2, y2, r2, q2, g2⟩ := hf 2 _ rfl
  obtain ⟨c3, y3, r3, q3, g3⟩ := hf 3 _ rfl
  obtain ⟨n0, e0, _, w0⟩ := DataW.trod_int Try.underlying3 g0
  obtain ⟨n1, e1, _, w1⟩ := DataW.trod_int Try.underlying3 g1
  obtain ⟨s, e2, x2, w2⟩ := DataW.trod_string Try.underlying9 g2
  obtain ⟨zs, hI, hold⟩ := ints_trod g3
  simp only [List.cons.injEq, and_true] at e0 e1 e2
  subst e0; subst e1; subst e2
  obtain ⟨l, hl, hl2, hl3⟩ := bytes_of s
  have hr3 : r = [.int .i64 n0, .int .i64 n1, .string s, c3] := by
    match r, hr with
    | [a, b, c, d], _ => simp at r0 r1 r2 r3; rw [r0, r1, r2, r3]
  have b1 := wf_bounds w1
  exact ⟨⟨n0, n1, l, c3, zs⟩, by rw [hr3, hl]; rfl, ⟨by simp only; omega, by simp only; omega, hI, hold⟩⟩
end Go.Proofs.Ytgkiglodhhlnmaa
