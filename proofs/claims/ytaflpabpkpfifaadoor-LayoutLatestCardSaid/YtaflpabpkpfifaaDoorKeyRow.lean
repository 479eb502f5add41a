/- A key that came in. -/
import Derived.Test.YtaflpabpkpfifaaDoorLawKitB
import Derived.Test.YtaflpabpkpfifaaDoorLyA
import Derived.Test.YtaflpabpkpfifaaDoorLyOk
namespace Go.Proofs.YtaflpabpkpfifaaDoor
set_option maxRecDepth 100000
open Go.RowKit Go.Amb Go.ChangeShapes Go.WideShapes Go.ChangeAt
set_option linter.unusedVariables false
variable {H : Type} {enc : TypeId × Value → H}
theorem weights_le {ts : List TypeId} {ds : List (DataW H)} (hsz : (DataW.weightsEach Tryd.prog ts ds).all (· ≤ reachBytes) = true) {j : Nat} {t : TypeId} {d : DataW H} (ht : ts[j]? = some t) (hd : ds[j]? = some d) : ∀ n ∈ d.weights Tryd.prog t, n ≤ 140737488351232 := by
  intro n hn
  have h1 := List.all_eq_true.1 hsz n (DataW.weights_mem_each ht hd n hn)
  have e2 : reachBytes = 140737488351232 := by decide
  simpa [e2] using h1
theorem row_int {W : World} {m : Nat} {r : List Value} {x : DataW H × List MemPlace} (hx : DataW.trod enc Tryd.prog W 0 (fun _ => true) true m 3 r = some x) : ∃ n : Int, r = [.int .i64 n] ∧ i64Ok n := by
  obtain ⟨n, e, _, w⟩ := DataW.trod_int Tryd.underlying3 hx
  exact ⟨n, e, wf_bounds w⟩
theorem ics_flat (l : List Int) : (l.map fun n => [Value.int .i64 n]).flatten = ics l := by
  induction l with
  | nil => rfl
  | cons n l ih => rw [List.map_cons, List.flatten_cons, ih]; rfl
theorem open_key {W : World} {b0 : Nat} {v : Value} {d : DataW H} {ps : List MemPlace} (hval : Value.okWide Tryd.prog W .any b0 25 v) (hd : DataW.Trod enc Tryd.prog W 0 (fun _ => true) true 25 v d ps)
    (hw : ∀ n ∈ d.weights Tryd.prog 25, n ≤ 140737488351232) : ∃ (x : Ky) (nv : Value), v = kyV x nv ∧ Ints W nv x.ns ∧ KyOk x := by
  obtain ⟨cs, rfl, hcs⟩ := okWide_struct Tryd.underlying25 hval
  obtain ⟨fuel, hf⟩ := hd
  have hlen : (Value.agg cs).cells.toList.length = 4 := by
    show cs.toList.length = 4
    rw [Array.length_toList, hcs]; rfl
  obtain ⟨ys, n, hx1, hl, hg⟩ := row_fields Tryd.underlying25 (by kernel_rfl) hlen hf
  have hx1 : d = _ := hx1
  obtain ⟨c0, y0, r0, q0, g0⟩ := hg 0 _ rfl
  obtain ⟨c1, y1, r1, q1, g1⟩ := hg 1 _ rfl
  obtain ⟨c2, y2, r2, q2, g2⟩ := hg 2 _ rfl
  obtain ⟨c3, y3, r3, q3, g3⟩ := hg 3 _ rfl
  obtain ⟨n0, e0, _, w0⟩ := DataW.trod_int Tryd.underlying22 g0
  obtain ⟨s1, e1, x1, z1⟩ := DataW.trod_string Tryd.underlying9 g1
  obtain ⟨s2, e2, x2, z2⟩ := DataW.trod_string Tryd.underlying9 g2
  obtain ⟨rows, hB, _, _, hr⟩ := open_rows Tryd.underlying23 (by kernel_rfl) (by decide : 0 < 1) g3
  obtain ⟨ns, rfl, gns⟩ := rows_map rows fun r h => by obtain ⟨_, m, x, hx⟩ := hr r h; exact row_int hx
  rw [List.length_map, ics_flat] at hB
  simp only [List.cons.injEq, and_true] at e0 e1 e2
  subst e0 e1 e2
  obtain ⟨l1, hl1, hl1a, hl1b⟩ := bytes_of s1
  obtain ⟨l2, hl2, hl2a, hl2b⟩ := bytes_of s2
  have h4 : ys.length = 4 := hl
  have hb1 := hw s1.data.toList.length (by
    rw [hx1]
    match ys, h4 with
    | [a, b, c, d], _ =>
      simp at q1
      subst q1
      simp [DataW.weights, Tryd.underlying25, DataW.weightsEach, x1])
  have hb2 := hw s2.data.toList.length (by
    rw [hx1]
    match ys, h4 with
    | [a, b, c, d], _ =>
      simp at q2
      subst q2
      simp [DataW.weights, Tryd.underlying25, DataW.weightsEach, x2])
  subst hl1 hl2
  have r0' : cs.toList[0]? = some (.int .i64 n0) := r0
  have r1' : cs.toList[1]? = some (.string ⟨l1.toArray⟩) := r1
  have r2' : cs.toList[2]? = some (.string ⟨l2.toArray⟩) := r2
  have r3' : cs.toList[3]? = some c3 := r3
  have hl5 : cs.toList.length = 4 := hlen
  refine ⟨⟨n0, l1, l2, ns⟩, c3, ?_, hB, gns, by simpa using Nat.le_trans hb1 (by decide), by simpa using Nat.le_trans hb2 (by decide)⟩
  show Value.agg cs = Value.agg _
  congr 1
  apply Array.ext'
  match h : cs.toList, hl5 with
  | [a, b, c, d], _ =>
    rw [h] at r0' r1' r2' r3'
    simp at r0' r1' r2' r3'
    rw [r0', r1', r2', r3']
    rfl
end Go.Proofs.YtaflpabpkpfifaaDoor
