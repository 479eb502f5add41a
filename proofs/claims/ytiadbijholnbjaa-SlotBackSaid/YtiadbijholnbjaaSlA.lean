/- A range over a function whose iterator writes into a box of its own: the law of the statement, for a body that is never left ahead of its end. No program stands here. -/
import Derived.Test.YtiadbijholnbjaaLib
import Derived.RangeFuncNested
import Derived.RangeFuncBound
import Derived.RangeFuncCalls
import Derived.RangeFuncLeaves
import Derived.Shelf.Abstract
import Derived.OwnWalkIn
namespace Go.Amb
open Go.RowKit Go.Shelf
set_option linter.unusedVariables false

/-- The iterator gives enc 0 .. enc (N - 1), whatever stands in its box, so each round keeps the box. -/
def Iter (P : Program) (gf : Nat) (lb : Array Value) (b : Nat) (enc : Nat → Array Value) (N : Nat) (o : Obj) : Prop :=
  ∀ (l : Nat) (J : Nat → World → Prop) (W : World), W.heap[b]? = some o → (∀ i W1 v, J i W1 → J i (W1.setCell ⟨b, 0, none⟩ v)) →
    (∀ i W1, i < N → J i W1 → YieldAt Fence.wide 3 P l (enc i) W1 fun e W' => e = .returned (.bool true) ∧ J (i + 1) W' ∧ W'.heap[b]? = W1.heap[b]?) →
    J 0 W → CallsIn Fence.wide 4 P gf (#[.func (.yield l) #[] #[]] ++ lb) W fun e W' => (∃ v, e = .returned v) ∧ J N W'
/-- How a round may end. -/
def roundEnd (I : Nat → World → Prop) (b i : Nat) (W : World) : Exit → Act → World → Prop
  | .normal, _, W' => KeepsOthers W W' ∧ W'.heap[b]? = W.heap[b]? ∧ I (i + 1) W'
  | _, _, _ => False
theorem wp_rangeBox {P : Program} {g : Operand} {ps : Array Tmp} {assign body : Code} {Q : Exit → Act → World → Prop} {a : Act} {w : World} {gf : Nat} {lb : Array Value} {b : Nat} {enc : Nat → Array Value} {N : Nat} {o : Obj}
    (hg : a.eval g = .func (.func gf) #[] lb) (eg : ∀ args w, (callFunc gf args).run P w = .ok (.enter gf args) w) (hit : Iter P gf lb b enc N o) (hb : w.heap[b]? = some o) (hps : ∀ i, (enc i).size = ps.size)
    (I : Nat → World → Prop) (hIb : ∀ i W v, I i W → I i (W.setCell ⟨b, 0, none⟩ v)) (hIa : ∀ i W o, I i W → I i (W.alloc o))
    (hIp : ∀ i W l o o', w.heap.size ≤ l → W.heap[l]? = some o → o.isCells = false → I i W → I i (W.putObj l o')) (h0 : I 0 w) (a₁ : Nat → Act)
    (hassign : ∀ (l i : Nat) (W : World) (K : Act → World → Prop), K (a₁ i) W →
      assign.wpIn (Fence.wide.inRound l) 3 P (Exit.then K (fun _ _ _ => False)) { tmps := (ps.zip (enc i)).foldl (fun t (p, v) => t.setIfInBounds p v) a.tmps, defers := [] } W)
    (hbody : ∀ (l i : Nat) (W : World), i < N → I i W → body.wpIn (Fence.wide.inRound l) 3 P (roundEnd I b i W) (a₁ i) W)
    (hdone : ∀ (D : Nat) (W : World), w.heap.size ≤ D → I N W → W.heap[D]? = some (.deferred (some [])) → Q .normal { a with defers := { target := .collected D, args := #[] } :: a.defers } W) :
    (Code.rangeFunc g ps assign body).wp P Q a w := by
  refine (wpIn_wide (n := 5)).1 (wpIn_rangeFunc fun fn hfn => ?_)
  have hbl : b < w.heap.size := (Array.getElem?_eq_some_iff.1 hb).1
  obtain ⟨rc, hrc⟩ : ∃ rc : LoopState → Option Code → Loop, rc = fun st pe => { state := st, pending := pe, fn, tmps := a.tmps, params := ps, assign, body, defers := w.heap.size } := ⟨_, rfl⟩
  obtain ⟨L, hL⟩ : ∃ L, w.heap.size + 1 = L := ⟨_, rfl⟩
  obtain ⟨W1, hW1⟩ : ∃ W1, (w.alloc (.deferred (some []))).alloc (.loop (rc .ready none)) = W1 := ⟨_, rfl⟩
  have hK1 : W1.heap[w.heap.size]? = some (.deferred (some [])) := by
    subst hW1; exact (Below.heap_alloc _ _ _ (by simp)).trans (World.alloc_heap_new w _)
  have hL1 : W1.heap[L]? = some (.loop (rc .ready none)) := by
    subst hW1 hL; simpa using World.alloc_heap_new (w.alloc (.deferred (some []))) (.loop (rc .ready none))
  have hb1 : W1.heap[b]? = some o := by
    subst hW1; exact (Below.heap_alloc _ _ _ (by simp; omega)).trans ((Below.heap_alloc _ _ _ hbl).trans hb)
  have hI1 : I 0 W1 := by subst hW1; exact hIa _ _ _ (hIa _ _ _ h0)
  have turned : ∀ (W : World) (x : Obj) (k : Nat) (y : Obj), k ≠ L → W.heap[k]? = some y → (W.putObj L x).heap[k]? = some y := fun W x k y hk h => (World.putObj_heap_other hk).trans h
  refine ⟨L, [{ target := .collected w.heap.size, args := #[] }], W1, { target := .fn (.func gf) lb, args := #[.func (.yield L) #[] #[]] }, W1, gf, #[.func (.yield L) #[] #[]] ++ lb, W1, ?_, ?_, fun _ _ => trivial, ?_, fun _ => by decide, ?_⟩
  · subst hW1 hL hrc; exact run_enterLoop_outer _ _ _ _ _
  · simp only [resolve, hg]
    simp [go_sem]
  · simp [invoke, go_sem, eg]
  · refine (hit L (fun i W => I i W ∧ W.heap[L]? = some (.loop (rc .ready none)) ∧ W.heap[w.heap.size]? = some (.deferred (some []))) W1 hb1 ?_ ?_ ⟨hI1, hL1, hK1⟩).mono ?_
    · rintro i W v ⟨hi, hl, hk⟩
      exact ⟨hIb _ _ _ hi, (Below.heap_setCell _ _ _ _ (by show L ≠ b; omega)).trans hl, (Below.heap_setCell _ _ _ _ (by show w.heap.size ≠ b; omega)).trans hk⟩
    · rintro i W hiN ⟨hi, hl, hk⟩
      have hlt : L < W.heap.size := (Array.getElem?_eq_some_iff.1 hl).1
      have hbeg := run_beginRound (P := P) hl (by subst hrc; rfl)
      have hy := run_yield (P := P) (args := enc i) hl (by subst hrc; exact hps i)
      refine ⟨fn, _, assign, body, by rw [hy, hrc], ?_⟩
      obtain ⟨W2, hW2⟩ : ∃ W2, W.putObj L (.loop { rc .ready none with state := .busy }) = W2 := ⟨_, rfl⟩
      rw [hW2] at hbeg
      have hi2 : I i W2 := by subst hW2; exact hIp _ _ _ _ _ (by omega) hl rfl hi
      have hl2 : W2.heap[L]? = some (.loop { rc .ready none with state := .busy }) := by subst hW2; exact World.putObj_heap_same hlt
      have hk2 : W2.heap[w.heap.size]? = some (.deferred (some [])) := by subst hW2; exact turned _ _ _ _ (by omega) hk
      have hbk : W2.heap[b]? = W.heap[b]? := by subst hW2; exact World.putObj_heap_other (by omega)
      refine roundIn_of_wpIn hfn (hassign L i W _ ⟨W2, hbeg, wpIn_mono (hbody L i W2 hiN hi2) ?_⟩)
      rintro e a3 W3 hp
      cases e with
      | normal =>
        obtain ⟨hk3, hb3, hi3⟩ := hp
        have hl3 := hk3.same _ _ hl2 rfl
        refine ⟨_, _, run_endRound (P := P) none hl3, rfl, ⟨hIp _ _ _ _ _ (by omega) hl3 rfl hi3, ?_, turned _ _ _ _ (by omega) (hk3.same _ _ hk2 rfl)⟩, (World.putObj_heap_other (by omega)).trans (hb3.trans hbk)⟩
        rw [World.putObj_heap_same (Array.getElem?_eq_some_iff.1 hl3).1]
        subst hrc; rfl
      | _ => exact hp.elim
    · rintro e W2 ⟨⟨v, rfl⟩, hi, hl, hk⟩
      refine ⟨_, _, run_endLoop (P := P) hl (by subst hrc; simp), ?_⟩
      rw [show (rc .ready none).pending = none by subst hrc; rfl]
      exact hdone _ _ (Nat.le_refl _) (hIp _ _ _ _ _ (by omega) hl rfl hi) (turned _ _ _ _ (by omega) hk)
end Go.Amb
