/- A request that came in (printed by gen/mkreqrow.py). -/
import Derived.Test.YtogekobpjjmnjaaMLawKit
import Derived.Test.YtogekobpjjmnjaaMWrA
import Derived.Test.YtogekobpjjmnjaaMWrZb
namespace Go.Proofs.Ytogekobpjjmnjaa
open Go.RowKit Go.Amb Go.ChangeShapes Go.WideShapes Go.ChangeAt
set_option linter.unusedVariables false
set_option maxRecDepth 100000
variable {H : Type} {enc : TypeId × Value → H}
theorem shape_lt {w : World} {b : Nat} {x : TypeId × Nat} (h : w.shape? b = some x) : b < w.heap.size := by
  unfold World.shape? at h
  cases hb : w.heap[b]? with
  | none => simp [hb] at h
  | some o => exact heap_lt hb
theorem slice_lt {W : World} {b0 : Nat} {t e : TypeId} {v : Value} (ht : Try.prog.underlying t = some (.slice e)) (h : Cell.okWide Try.prog W .any b0 t v) : ∀ k, At v k → k < W.heap.size := by
  intro k hk
  simp only [Cell.okWide, ht] at h
  cases v <;> try (simp [At, Value.ownBlock] at hk; done)
  rename_i a n c
  cases a with
  | none => simp [At, Value.ownBlock] at hk
  | some a =>
    simp only [Cell.ok, ht] at h
    obtain ⟨-, -, -, -, row, cells, hs, -⟩ := h
    have : a.block = k := by simpa [At, Value.ownBlock] using hk
    rw [← this]
    exact shape_lt hs
theorem flat_one {α : Type} (f : α → Value) (l : List α) : (l.map fun n => [f n]).flatten = l.map f := by
  induction l with
  | nil => rfl
  | cons n l ih => rw [List.map_cons, List.flatten_cons, ih]; rfl
end Go.Proofs.Ytogekobpjjmnjaa
