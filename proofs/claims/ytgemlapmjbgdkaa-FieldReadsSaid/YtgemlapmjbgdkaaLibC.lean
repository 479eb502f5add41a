/- More of the seat's own laws: a struct of three cells stored anew. -/
import Derived.Test.YtgemlapmjbgdkaaLib
namespace Go.Amb
open Go.RowKit

theorem set3 {w : World} {M : Nat} {c0 c1 c2 : Value} {t : TypeId} (h : w.heap[M]? = some (.cells #[c0, c1, c2] t (0, 0))) (a b c : Value) :
    (((w.setCell ⟨M, 0, none⟩ a).setCell ⟨M, 1, none⟩ b).setCell ⟨M, 2, none⟩ c).heap[M]? = some (.cells #[a, b, c] t (0, 0)) ∧
    Upd (fun k => k = M) w (((w.setCell ⟨M, 0, none⟩ a).setCell ⟨M, 1, none⟩ b).setCell ⟨M, 2, none⟩ c) := by
  refine ⟨?_, Upd.then_setCell (p := ⟨M, 2, none⟩) (Upd.then_setCell (p := ⟨M, 1, none⟩) (Upd.then_setCell (p := ⟨M, 0, none⟩) (Upd.refl (fun k => k = M) w) (fun _ => rfl) a) (fun _ => rfl) b) (fun _ => rfl) c⟩
  rw [heap_setCell_same _ M 2 _ _ _ (heap_setCell_same _ M 1 _ _ _ (heap_setCell_same _ M 0 _ _ _ h))]
  rfl
theorem set3u (w : World) (M : Nat) (a b c : Value) : Upd (fun k => k = M) w (((w.setCell ⟨M, 0, none⟩ a).setCell ⟨M, 1, none⟩ b).setCell ⟨M, 2, none⟩ c) :=
  Upd.then_setCell (p := ⟨M, 2, none⟩) (Upd.then_setCell (p := ⟨M, 1, none⟩) (Upd.then_setCell (p := ⟨M, 0, none⟩) (Upd.refl (fun k => k = M) w) (fun _ => rfl) a) (fun _ => rfl) b) (fun _ => rfl) c
theorem Upd.own1d {w w1 : World} {ca : Array Value} {ea : TypeId} (hu : Upd Non (w.alloc (.cells ca ea)).drew w1) :
    (∀ j, w1.cell? ⟨w.heap.size, j, none⟩ = ca[j]?) ∧ (∀ j, w1.frozen? ⟨w.heap.size, j, none⟩ = false) ∧ w.heap.size < w1.heap.size := by
  have h := (((Upd.drew Non (w.alloc (.cells ca ea))).trans hu fun _ _ h => h) : Upd Non (w.alloc (.cells ca ea)) w1).own1 (fun _ h => h.elim)
  exact ⟨h.1, h.2.1, h.2.2.1⟩
/-- A call behind the making of a block, in a region that draws its order: the block stands. -/
theorem ret_new {P : Program} {f : FuncId} {args : Array Value} {v : Value} (w : World) (h : ∀ w, Calls P f args w (Ret v w)) (ca : Array Value) (ea : TypeId) :
    Calls P f args (w.alloc (.cells ca ea)).drew fun e w' => e = .returned v ∧ Upd Non (w.alloc (.cells ca ea)).drew w' ∧ (∀ j, w'.cell? ⟨w.heap.size, j, none⟩ = ca[j]?) ∧ (∀ j, w'.frozen? ⟨w.heap.size, j, none⟩ = false) ∧ w.heap.size < w'.heap.size ∧ w'.heap[w.heap.size]? = some (.cells ca ea (0, 0)) :=
  (h _).mono fun _ _ ⟨he, hu⟩ => ⟨he, hu, hu.own1d.1, hu.own1d.2.1, hu.own1d.2.2, (((Upd.drew Non (w.alloc (.cells ca ea))).trans hu fun _ _ h => h) : Upd Non (w.alloc (.cells ca ea)) _).heap (heap_alloc_new w _) fun h => h⟩
theorem Upd.belowN {w w' : World} {B : Nat} (h : Upd Non w w') (hB : B ≤ w.heap.size) : Below B w w' := h.below hB fun _ _ h => h
theorem Upd.below1 {w w' : World} {B M : Nat} (h : Upd (fun k => k = M) w w') (hB : B ≤ w.heap.size) (hM : B ≤ M) : Below B w w' := h.below hB fun k hk e => by omega
theorem nonOf {w w' : World} (h : Below w.heap.size w w') : Upd Non w w' := Upd.of_fresh _ h
end Go.Amb
