/- A range over a function whose iterator keeps its state in a block of its own making; the body may be left early. The law of the statement. No program stands here. -/
import Derived.Test.YtmnoldikimcafaaMLib
import Derived.RangeFuncNested
import Derived.RangeFuncBound
import Derived.RangeFuncCalls
import Derived.RangeFuncLeaves
import Derived.Shelf.Abstract
import Derived.OwnWalkIn
namespace Go.Amb
open Go.RowKit Go.Shelf
set_option linter.unusedVariables false

theorem owns_heap {w w' : World} {base : Nat} {e : TypeId} {m : Nat} {v : Value} {n : Nat} {xs : List Value} (h : w.ownsRow base e m v n xs) (hs : ∀ k, At v k → w'.heap[k]? = w.heap[k]?) : w'.ownsRow base e m v n xs := by
  refine ⟨h.1, ?_⟩
  rcases h.2 with hv | ⟨g, cap, cur, rfl, hb, hgg, rest⟩
  · exact .inl hv
  · exact .inr ⟨g, cap, cur, rfl, hb, (hs g rfl).trans hgg, rest⟩
theorem Upd.put {S : Nat → Prop} {w w' : World} (h : Upd S w w') {l : Nat} (hl : w.heap.size ≤ l) (o : Obj) : Upd S w (w'.putObj l o) :=
  ⟨h.os, h.tape, h.output, by simpa using h.size, fun k hk hn => (World.putObj_heap_other (by omega)).trans (h.block k hk hn)⟩
/-- What stands of the blocks K between two worlds. -/
def Stay (K : Nat → Prop) (w w' : World) : Prop := ∀ k, K k → w'.heap[k]? = w.heap[k]?
theorem Stay.refl (K : Nat → Prop) (w : World) : Stay K w w := fun _ _ => rfl
theorem Stay.trans {K : Nat → Prop} {a b c : World} (h : Stay K a b) (h' : Stay K b c) : Stay K a c := fun k hk => (h' k hk).trans (h k hk)
theorem Stay.put {K : Nat → Prop} (w : World) (l : Nat) (o : Obj) (h : ¬ K l) : Stay K w (w.putObj l o) := fun k hk => World.putObj_heap_other (fun e => h (e ▸ hk))

/-- The iterator gives enc of each of xs, in order, until a round says 'no more'. It makes one block for itself, the first that it makes; each round keeps that block and the blocks K. -/
def IterN (P : Program) (gf : Nat) (lb : Array Value) {α : Type} (enc : α → Array Value) (xs : List α) (K : Nat → Prop) (w0 : World) : Prop :=
  ∀ (l : Nat) (J Jx : Nat → World → Prop) (W : World), Stay K w0 W → w0.heap.size ≤ W.heap.size → (∀ i W1 W2, J i W1 → Upd (fun k => k = W.heap.size) W1 W2 → J i W2) →
    (∀ i (h : i < xs.length) W1, J i W1 → W.heap.size < W1.heap.size → YieldAt Fence.wide 3 P l (enc xs[i]) W1 fun e W' =>
      (e = .returned (.bool true) ∧ J (i + 1) W' ∧ Stay K W1 W' ∧ W'.heap[W.heap.size]? = W1.heap[W.heap.size]? ∧ W1.heap.size ≤ W'.heap.size) ∨ (e = .returned (.bool false) ∧ Jx i W')) →
    J 0 W → CallsIn Fence.wide 4 P gf (#[.func (.yield l) #[] #[]] ++ lb) W fun e W' => (∃ v, e = .returned v) ∧ (J xs.length W' ∨ ∃ i, i < xs.length ∧ Jx i W')
/-- How a round may end. -/
def roundN (I : Nat → World → Prop) (Ix : Code → Nat → World → Prop) (K : Nat → Prop) (b i : Nat) (W : World) : Exit → Act → World → Prop
  | .normal, _, W' => KeepsOthers W W' ∧ Stay K W W' ∧ W'.heap[b]? = W.heap[b]? ∧ I (i + 1) W'
  | .exit id, _, W' => KeepsOthers W W' ∧ Ix (.exit id) i W'
  | .ret, _, W' => KeepsOthers W W' ∧ Ix .ret i W'
  | _, _, _ => False
theorem wp_rangeN {P : Program} {g : Operand} {ps : Array Tmp} {assign body : Code} {Q : Exit → Act → World → Prop} {a : Act} {w : World} {gf : Nat} {lb : Array Value} {α : Type} {enc : α → Array Value} {xs : List α} {K : Nat → Prop}
    (hg : a.eval g = .func (.func gf) #[] lb) (eg : ∀ args w, (callFunc gf args).run P w = .ok (.enter gf args) w) (hit : IterN P gf lb enc xs K w) (hK : ∀ k, K k → k < w.heap.size) (hps : ∀ x, (enc x).size = ps.size)
    (I : Nat → World → Prop) (Ix : Code → Nat → World → Prop) (hIu : ∀ i W W', I i W → Upd (fun k => k = w.heap.size + 2) W W' → I i W')
    (hIp : ∀ i W l o, w.heap.size ≤ l → l < w.heap.size + 2 → I i W → I i (W.putObj l o)) (hXp : ∀ c i W l o, w.heap.size ≤ l → l < w.heap.size + 2 → Ix c i W → Ix c i (W.putObj l o)) (h0 : I 0 w)
    (Ax : Act → Nat → Act → World → Prop) (hAp : ∀ i a' W l o, w.heap.size ≤ l → l < w.heap.size + 2 → Ax a i a' W → Ax a i a' (W.putObj l o))
    (hassign : ∀ (l i : Nat) (h : i < xs.length) (W : World) (Q' : Act → World → Prop), w.heap.size + 2 < W.heap.size → I i W → (∀ a' W', Below W.heap.size W W' → I i W' → Ax a i a' W' → Q' a' W') →
      assign.wpIn (Fence.wide.inRound l) 3 P (Exit.then Q' (fun _ _ _ => False)) { tmps := (ps.zip (enc xs[i])).foldl (fun t (p, v) => t.setIfInBounds p v) a.tmps, defers := [] } W)
    (hbody : ∀ (l i : Nat) (h : i < xs.length) (a' : Act) (W : World), w.heap.size + 2 < W.heap.size → I i W → Ax a i a' W → body.wpIn (Fence.wide.inRound l) 3 P (roundN I Ix K (w.heap.size + 2) i W) a' W)
    (hdone : ∀ (D : Nat) (W : World), w.heap.size ≤ D → I xs.length W → W.heap[D]? = some (.deferred (some [])) → Q .normal { a with defers := { target := .collected D, args := #[] } :: a.defers } W)
    (hstop : ∀ (D : Nat) (c : Code) (i : Nat) (W : World), i < xs.length → w.heap.size ≤ D → Ix c i W → W.heap[D]? = some (.deferred (some [])) → c.wpIn Fence.wide 5 P Q { a with defers := { target := .collected D, args := #[] } :: a.defers } W) :
    (Code.rangeFunc g ps assign body).wp P Q a w := by
  refine (wpIn_wide (n := 5)).1 (wpIn_rangeFunc fun fn hfn => ?_)
  obtain ⟨rc, hrc⟩ : ∃ rc : LoopState → Option Code → Loop, rc = fun st pe => { state := st, pending := pe, fn, tmps := a.tmps, params := ps, assign, body, defers := w.heap.size } := ⟨_, rfl⟩
  obtain ⟨L, hL⟩ : ∃ L, w.heap.size + 1 = L := ⟨_, rfl⟩
  obtain ⟨W1, hW1⟩ : ∃ W1, (w.alloc (.deferred (some []))).alloc (.loop (rc .ready none)) = W1 := ⟨_, rfl⟩
  have hz1 : W1.heap.size = w.heap.size + 2 := by subst hW1; simp
  have hK1 : W1.heap[w.heap.size]? = some (.deferred (some [])) := by
    subst hW1; exact (Below.heap_alloc _ _ _ (by simp)).trans (World.alloc_heap_new w _)
  have hL1 : W1.heap[L]? = some (.loop (rc .ready none)) := by
    subst hW1 hL; simpa using World.alloc_heap_new (w.alloc (.deferred (some []))) (.loop (rc .ready none))
  have hS1 : Stay K w W1 := fun k hk => by
    have := hK k hk
    subst hW1; exact (Below.heap_alloc _ _ _ (by simp; omega)).trans (Below.heap_alloc _ _ _ this)
  have hI1 : I 0 W1 := by subst hW1; exact hIu _ _ _ h0 (((Upd.refl _ w).then_alloc _).then_alloc _)
  have hKL : ¬ K L := fun h => by have := hK _ h; omega
  have turned : ∀ (W : World) (x : Obj) (k : Nat) (y : Obj), k ≠ L → W.heap[k]? = some y → (W.putObj L x).heap[k]? = some y := fun W x k y hk h => (World.putObj_heap_other hk).trans h
  refine ⟨L, [{ target := .collected w.heap.size, args := #[] }], W1, { target := .fn (.func gf) lb, args := #[.func (.yield L) #[] #[]] }, W1, gf, #[.func (.yield L) #[] #[]] ++ lb, W1, ?_, ?_, fun _ _ => trivial, ?_, fun _ => by decide, ?_⟩
  · subst hW1 hL hrc; exact run_enterLoop_outer _ _ _ _ _
  · simp only [resolve, hg]
    simp [go_sem]
  · simp [invoke, go_sem, eg]
  · refine (hit L (fun i W => I i W ∧ W.heap[L]? = some (.loop (rc .ready none)) ∧ W.heap[w.heap.size]? = some (.deferred (some [])))
      (fun i W => ∃ c, Ix c i W ∧ W.heap[L]? = some (.loop (rc .done (some c))) ∧ W.heap[w.heap.size]? = some (.deferred (some []))) W1 hS1 (by omega) ?_ ?_ ⟨hI1, hL1, hK1⟩).mono ?_
    · rintro i W W' ⟨hi, hl, hk⟩ hu
      rw [hz1] at hu
      exact ⟨hIu _ _ _ hi hu, hu.heap hl (by omega), hu.heap hk (by omega)⟩
    · rintro i hiN W ⟨hi, hl, hk⟩ hbW
      rw [hz1] at hbW ⊢
      have hy := run_yield (P := P) (args := enc xs[i]) hl (by subst hrc; exact hps _)
      refine ⟨fn, _, assign, body, by rw [hy, hrc], ?_⟩
      refine roundIn_of_wpIn hfn (hassign L i hiN W _ hbW hi fun a' Wa hab hia hax => ?_)
      have hla := (hab.block L (Array.getElem?_eq_some_iff.1 hl).1).trans hl
      have hka := (hab.block w.heap.size (Array.getElem?_eq_some_iff.1 hk).1).trans hk
      have hlt : L < Wa.heap.size := (Array.getElem?_eq_some_iff.1 hla).1
      have hbeg := run_beginRound (P := P) hla (by subst hrc; rfl)
      obtain ⟨W2, hW2⟩ : ∃ W2, Wa.putObj L (.loop { rc .ready none with state := .busy }) = W2 := ⟨_, rfl⟩
      rw [hW2] at hbeg
      have hz2 : W2.heap.size = Wa.heap.size := by subst hW2; simp
      have hsa := hab.size
      have hi2 : I i W2 := by subst hW2; exact hIp _ _ _ _ (by omega) (by omega) hia
      have hx2 : Ax a i a' W2 := by subst hW2; exact hAp _ _ _ _ _ (by omega) (by omega) hax
      have hl2 : W2.heap[L]? = some (.loop { rc .ready none with state := .busy }) := by subst hW2; exact World.putObj_heap_same hlt
      have hk2 : W2.heap[w.heap.size]? = some (.deferred (some [])) := by subst hW2; exact turned _ _ _ _ (by omega) hka
      have hst2 : Stay K W W2 := fun k hk => by
        have := hK k hk
        subst hW2; exact (World.putObj_heap_other (by omega)).trans (hab.block k (by omega))
      have hb2 : W2.heap[w.heap.size + 2]? = W.heap[w.heap.size + 2]? := by subst hW2; exact (World.putObj_heap_other (by omega)).trans (hab.block _ hbW)
      refine ⟨W2, hbeg, wpIn_mono (hbody L i hiN a' W2 (by omega) hi2 hx2) ?_⟩
      have fin : ∀ (jump : Option Code) (W3 : World), KeepsOthers W2 W3 →
          (Instr.endRound L jump).run P W3 = .ok (.bool jump.isNone) (W3.putObj L (.loop (rc (if jump.isNone then .ready else .done) jump))) ∧
          (W3.putObj L (.loop (rc (if jump.isNone then .ready else .done) jump))).heap[L]? = some (.loop (rc (if jump.isNone then .ready else .done) jump)) ∧
          (W3.putObj L (.loop (rc (if jump.isNone then .ready else .done) jump))).heap[w.heap.size]? = some (.deferred (some [])) := fun jump W3 hk3 => by
        have hl3 := hk3.same _ _ hl2 rfl
        have := run_endRound (P := P) jump hl3
        refine ⟨by rw [this]; subst hrc; rfl, World.putObj_heap_same (Array.getElem?_eq_some_iff.1 hl3).1, turned _ _ _ _ (by omega) (hk3.same _ _ hk2 rfl)⟩
      rintro e a3 W3 hp
      cases e with
      | normal =>
        obtain ⟨hk3, hs3, hb3, hi3⟩ := hp
        obtain ⟨hr, hl4, hk4⟩ := fin none W3 hk3
        have hz3 := hk3.size
        refine ⟨_, _, hr, .inl ⟨rfl, ⟨hIp _ _ _ _ (by omega) (by omega) hi3, hl4, hk4⟩, (hst2.trans hs3).trans (Stay.put _ _ _ hKL), (World.putObj_heap_other (by omega)).trans (hb3.trans hb2), by simp; omega⟩⟩
      | ret =>
        obtain ⟨hk3, hi3⟩ := hp
        obtain ⟨hr, hl4, hk4⟩ := fin (some .ret) W3 hk3
        exact ⟨_, _, hr, .inr ⟨rfl, .ret, hXp _ _ _ _ _ (by omega) (by omega) hi3, hl4, hk4⟩⟩
      | exit id =>
        obtain ⟨hk3, hi3⟩ := hp
        obtain ⟨hr, hl4, hk4⟩ := fin (some (.exit id)) W3 hk3
        exact ⟨_, _, hr, .inr ⟨rfl, .exit id, hXp _ _ _ _ _ (by omega) (by omega) hi3, hl4, hk4⟩⟩
      | _ => exact hp.elim
    · rintro e W2 ⟨⟨v, rfl⟩, ⟨hi, hl, hk⟩ | ⟨i, hiN, c, hi, hl, hk⟩⟩
      · refine ⟨_, _, run_endLoop (P := P) hl (by subst hrc; simp), ?_⟩
        rw [show (rc .ready none).pending = none by subst hrc; rfl]
        exact hdone _ _ (Nat.le_refl _) (hIp _ _ _ _ (by omega) (by omega) hi) (turned _ _ _ _ (by omega) hk)
      · refine ⟨_, _, run_endLoop (P := P) hl (by subst hrc; simp), ?_⟩
        rw [show (rc .done (some c)).pending = some c by subst hrc; rfl]
        exact hstop _ c i _ hiN (Nat.le_refl _) (hXp _ _ _ _ _ (by omega) (by omega) hi) (turned _ _ _ _ (by omega) hk)
end Go.Amb

namespace Go.Amb
open Go.RowKit Go.Shelf
set_option linter.unusedVariables false

/-- The iterator gives enc of each of xs, in order; it may write into block b alone; each round keeps b and the blocks K. -/
def IterB (P : Program) (gf : Nat) (lb : Array Value) {α : Type} (enc : α → Array Value) (xs : List α) (K : Nat → Prop) (b : Nat) (w0 : World) : Prop :=
  ∀ (l : Nat) (J : Nat → World → Prop) (W : World), Stay K w0 W → W.heap[b]? = w0.heap[b]? → w0.heap.size ≤ W.heap.size → (∀ i W1 W2, J i W1 → Upd (fun k => k = b) W1 W2 → J i W2) →
    (∀ i (h : i < xs.length) W1, J i W1 → YieldAt Fence.wide 3 P l (enc xs[i]) W1 fun e W' =>
      e = .returned (.bool true) ∧ J (i + 1) W' ∧ Stay K W1 W' ∧ W'.heap[b]? = W1.heap[b]? ∧ W1.heap.size ≤ W'.heap.size) →
    J 0 W → CallsIn Fence.wide 4 P gf (#[.func (.yield l) #[] #[]] ++ lb) W fun e W' => (∃ v, e = .returned v) ∧ J xs.length W'
/-- How a round may end. -/
def roundB (I : Nat → World → Prop) (K : Nat → Prop) (b i : Nat) (W : World) : Exit → Act → World → Prop
  | .normal, _, W' => KeepsOthers W W' ∧ Stay K W W' ∧ W'.heap[b]? = W.heap[b]? ∧ I (i + 1) W'
  | _, _, _ => False
theorem wp_rangeB {P : Program} {g : Operand} {ps : Array Tmp} {assign body : Code} {Q : Exit → Act → World → Prop} {a : Act} {w : World} {gf : Nat} {lb : Array Value} {α : Type} {enc : α → Array Value} {xs : List α} {K : Nat → Prop} {b : Nat}
    (hg : a.eval g = .func (.func gf) #[] lb) (eg : ∀ args w, (callFunc gf args).run P w = .ok (.enter gf args) w) (hit : IterB P gf lb enc xs K b w) (hK : ∀ k, K k → k < w.heap.size) (hbw : b < w.heap.size) (hps : ∀ x, (enc x).size = ps.size)
    (I : Nat → World → Prop) (hIu : ∀ i W W', I i W → Upd (fun k => k = b) W W' → I i W')
    (hIp : ∀ i W l o, w.heap.size ≤ l → l < w.heap.size + 2 → I i W → I i (W.putObj l o)) (h0 : I 0 w)
    (Ax : Act → Nat → Act → World → Prop) (hAp : ∀ i a' W l o, w.heap.size ≤ l → l < w.heap.size + 2 → Ax a i a' W → Ax a i a' (W.putObj l o))
    (hassign : ∀ (l i : Nat) (h : i < xs.length) (W : World) (Q' : Act → World → Prop), w.heap.size + 2 ≤ W.heap.size → I i W → (∀ a' W', Below W.heap.size W W' → I i W' → Ax a i a' W' → Q' a' W') →
      assign.wpIn (Fence.wide.inRound l) 3 P (Exit.then Q' (fun _ _ _ => False)) { tmps := (ps.zip (enc xs[i])).foldl (fun t (p, v) => t.setIfInBounds p v) a.tmps, defers := [] } W)
    (hbody : ∀ (l i : Nat) (h : i < xs.length) (a' : Act) (W : World), w.heap.size + 2 ≤ W.heap.size → I i W → Ax a i a' W → body.wpIn (Fence.wide.inRound l) 3 P (roundB I K b i W) a' W)
    (hdone : ∀ (D : Nat) (W : World), w.heap.size ≤ D → I xs.length W → W.heap[D]? = some (.deferred (some [])) → Q .normal { a with defers := { target := .collected D, args := #[] } :: a.defers } W) :
    (Code.rangeFunc g ps assign body).wp P Q a w := by
  refine (wpIn_wide (n := 5)).1 (wpIn_rangeFunc fun fn hfn => ?_)
  obtain ⟨rc, hrc⟩ : ∃ rc : LoopState → Option Code → Loop, rc = fun st pe => { state := st, pending := pe, fn, tmps := a.tmps, params := ps, assign, body, defers := w.heap.size } := ⟨_, rfl⟩
  obtain ⟨L, hL⟩ : ∃ L, w.heap.size + 1 = L := ⟨_, rfl⟩
  obtain ⟨W1, hW1⟩ : ∃ W1, (w.alloc (.deferred (some []))).alloc (.loop (rc .ready none)) = W1 := ⟨_, rfl⟩
  have hz1 : W1.heap.size = w.heap.size + 2 := by subst hW1; simp
  have hK1 : W1.heap[w.heap.size]? = some (.deferred (some [])) := by
    subst hW1; exact (Below.heap_alloc _ _ _ (by simp)).trans (World.alloc_heap_new w _)
  have hL1 : W1.heap[L]? = some (.loop (rc .ready none)) := by
    subst hW1 hL; simpa using World.alloc_heap_new (w.alloc (.deferred (some []))) (.loop (rc .ready none))
  have hS1 : Stay K w W1 := fun k hk => by
    have := hK k hk
    subst hW1; exact (Below.heap_alloc _ _ _ (by simp; omega)).trans (Below.heap_alloc _ _ _ this)
  have hb1 : W1.heap[b]? = w.heap[b]? := by
    subst hW1; exact (Below.heap_alloc _ _ _ (by simp; omega)).trans (Below.heap_alloc _ _ _ hbw)
  have hI1 : I 0 W1 := by subst hW1; exact hIu _ _ _ h0 (((Upd.refl _ w).then_alloc _).then_alloc _)
  have hKL : ¬ K L := fun h => by have := hK _ h; omega
  have turned : ∀ (W : World) (x : Obj) (k : Nat) (y : Obj), k ≠ L → W.heap[k]? = some y → (W.putObj L x).heap[k]? = some y := fun W x k y hk h => (World.putObj_heap_other hk).trans h
  refine ⟨L, [{ target := .collected w.heap.size, args := #[] }], W1, { target := .fn (.func gf) lb, args := #[.func (.yield L) #[] #[]] }, W1, gf, #[.func (.yield L) #[] #[]] ++ lb, W1, ?_, ?_, fun _ _ => trivial, ?_, fun _ => by decide, ?_⟩
  · subst hW1 hL hrc; exact run_enterLoop_outer _ _ _ _ _
  · simp only [resolve, hg]
    simp [go_sem]
  · simp [invoke, go_sem, eg]
  · refine (hit L (fun i W => I i W ∧ W.heap[L]? = some (.loop (rc .ready none)) ∧ W.heap[w.heap.size]? = some (.deferred (some [])) ∧ w.heap.size + 2 ≤ W.heap.size) W1 hS1 hb1 (by omega) ?_ ?_ ⟨hI1, hL1, hK1, by omega⟩).mono ?_
    · rintro i W W' ⟨hi, hl, hk, hz⟩ hu
      have := hu.size
      exact ⟨hIu _ _ _ hi hu, hu.heap hl (by omega), hu.heap hk (by omega), by omega⟩
    · rintro i hiN W ⟨hi, hl, hk, hbW⟩
      have hy := run_yield (P := P) (args := enc xs[i]) hl (by subst hrc; exact hps _)
      refine ⟨fn, _, assign, body, by rw [hy, hrc], ?_⟩
      refine roundIn_of_wpIn hfn (hassign L i hiN W _ hbW hi fun a' Wa hab hia hax => ?_)
      have hla := (hab.block L (Array.getElem?_eq_some_iff.1 hl).1).trans hl
      have hka := (hab.block w.heap.size (Array.getElem?_eq_some_iff.1 hk).1).trans hk
      have hlt : L < Wa.heap.size := (Array.getElem?_eq_some_iff.1 hla).1
      have hbeg := run_beginRound (P := P) hla (by subst hrc; rfl)
      obtain ⟨W2, hW2⟩ : ∃ W2, Wa.putObj L (.loop { rc .ready none with state := .busy }) = W2 := ⟨_, rfl⟩
      rw [hW2] at hbeg
      have hz2 : W2.heap.size = Wa.heap.size := by subst hW2; simp
      have hsa := hab.size
      have hi2 : I i W2 := by subst hW2; exact hIp _ _ _ _ (by omega) (by omega) hia
      have hx2 : Ax a i a' W2 := by subst hW2; exact hAp _ _ _ _ _ (by omega) (by omega) hax
      have hl2 : W2.heap[L]? = some (.loop { rc .ready none with state := .busy }) := by subst hW2; exact World.putObj_heap_same hlt
      have hk2 : W2.heap[w.heap.size]? = some (.deferred (some [])) := by subst hW2; exact turned _ _ _ _ (by omega) hka
      have hst2 : Stay K W W2 := fun k hk => by
        have := hK k hk
        subst hW2; exact (World.putObj_heap_other (by omega)).trans (hab.block k (by omega))
      have hb2 : W2.heap[b]? = W.heap[b]? := by subst hW2; exact (World.putObj_heap_other (by omega)).trans (hab.block _ (by omega))
      refine ⟨W2, hbeg, wpIn_mono (hbody L i hiN a' W2 (by omega) hi2 hx2) ?_⟩
      rintro e a3 W3 hp
      cases e with
      | normal =>
        obtain ⟨hk3, hs3, hb3, hi3⟩ := hp
        have hl3 := hk3.same _ _ hl2 rfl
        have hz3 := hk3.size
        refine ⟨_, _, run_endRound (P := P) none hl3, rfl, ⟨hIp _ _ _ _ (by omega) (by omega) hi3, ?_, turned _ _ _ _ (by omega) (hk3.same _ _ hk2 rfl), by simp; omega⟩, (hst2.trans hs3).trans (Stay.put _ _ _ hKL), (World.putObj_heap_other (by omega)).trans (hb3.trans hb2), by simp; omega⟩
        rw [World.putObj_heap_same (Array.getElem?_eq_some_iff.1 hl3).1]
        subst hrc; rfl
      | _ => exact hp.elim
    · rintro e W2 ⟨⟨v, rfl⟩, hi, hl, hk, -⟩
      refine ⟨_, _, run_endLoop (P := P) hl (by subst hrc; simp), ?_⟩
      rw [show (rc .ready none).pending = none by subst hrc; rfl]
      exact hdone _ _ (Nat.le_refl _) (hIp _ _ _ _ (by omega) (by omega) hi) (turned _ _ _ _ (by omega) hk)
end Go.Amb
