/- A head that came in. -/
import Derived.Test.YtaflpabpkpfifaaDoorLawKitB
import Derived.Test.YtaflpabpkpfifaaDoorLyK
namespace Go.Proofs.YtaflpabpkpfifaaDoor
set_option maxRecDepth 100000
open Go.RowKit Go.Amb Go.ChangeShapes Go.WideShapes Go.ChangeAt
set_option linter.unusedVariables false
variable {H : Type} {enc : TypeId × Value → H}
theorem open_head {W : World} {b0 : Nat} {v : Value} {d : DataW H} {ps : List MemPlace} (hval : Value.okWide Tryd.prog W .any b0 48 v) (hd : DataW.Trod enc Tryd.prog W 0 (fun _ => true) true 48 v d ps) :
    ∃ x : Hd, v = hdV x ∧ hdI64 x := by
  obtain ⟨cs, rfl, hcs⟩ := okWide_struct Tryd.underlying48 hval
  obtain ⟨fuel, hf⟩ := hd
  have hlen : cs.toList.length = 5 := by
    rw [Array.length_toList, hcs]; rfl
  obtain ⟨c0, c1, c2, c3, c4, hm⟩ : ∃ a b c d e, cs.toList = [a, b, c, d, e] := by
    match h : cs.toList, hlen with
    | [a, b, c, d, e], _ => exact ⟨a, b, c, d, e, rfl⟩
  have hf : DataW.trod enc Tryd.prog W 0 (fun _ => true) true fuel 48 [c0, c1, c2, c3, c4] = some (d, ps) := by rw [← hm]; exact hf
  obtain ⟨xs, n, _, _, _, hl4, hg⟩ := DataW.trod_struct Tryd.underlying48 hf
  have k1 : Tryd.prog.cellsOf 3 = 1 := by kernel_rfl
  have k2 : Tryd.prog.cellsOf 46 = 2 := by kernel_rfl
  have k3 : Tryd.prog.cellsOf 4 = 1 := by kernel_rfl
  obtain ⟨y0, y1, y2, y3, rfl⟩ : ∃ a b c d, xs = [a, b, c, d] := by
    match xs, hl4 with
    | [a, b, c, d], _ => exact ⟨a, b, c, d, rfl⟩
  have g0 : DataW.trod enc Tryd.prog W 0 (fun _ => true) true n 3 (([c0, c1, c2, c3, c4].drop 0).take (Tryd.prog.cellsOf 3)) = some y0 := hg 0 _ rfl
  have g1 : DataW.trod enc Tryd.prog W 0 (fun _ => true) true n 46 (([c0, c1, c2, c3, c4].drop 1).take (Tryd.prog.cellsOf 46)) = some y1 := hg 1 _ rfl
  have g2 : DataW.trod enc Tryd.prog W 0 (fun _ => true) true n 4 (([c0, c1, c2, c3, c4].drop 3).take (Tryd.prog.cellsOf 4)) = some y2 := hg 2 _ rfl
  have g3 : DataW.trod enc Tryd.prog W 0 (fun _ => true) true n 4 (([c0, c1, c2, c3, c4].drop 4).take (Tryd.prog.cellsOf 4)) = some y3 := hg 3 _ rfl
  rw [k1] at g0
  rw [k2] at g1
  rw [k3] at g2 g3
  obtain ⟨n0, e0, _, w0⟩ := DataW.trod_int Tryd.underlying3 g0
  obtain ⟨q, e1, w1⟩ := row_int2 (t0 := 3) (t1 := 3) Tryd.underlying46 rfl (by kernel_rfl) (by kernel_rfl) g1
  obtain ⟨n2, e2, _⟩ := DataW.trod_bool Tryd.underlying4 g2
  obtain ⟨n3, e3, _⟩ := DataW.trod_bool Tryd.underlying4 g3
  simp at e0 e1 e2 e3
  obtain ⟨rfl, rfl⟩ := e1
  subst e0 e2 e3
  refine ⟨⟨n0, q.1, q.2, n2, n3⟩, ?_, wf_bounds w0, w1.1, w1.2⟩
  show Value.agg cs = Value.agg _
  congr 1
  apply Array.ext'
  exact hm
end Go.Proofs.YtaflpabpkpfifaaDoor
