/- A range over a function whose iterator writes into a box of its own: the law of the statement, for a body that is never left ahead of its end. No program stands here. -/
import Derived.Test.YtmnoldikimcafaaMLib
import Derived.RangeFuncNested
import Derived.RangeFuncBound
import Derived.RangeFuncCalls
import Derived.RangeFuncLeaves
import Derived.Shelf.Abstract
import Derived.OwnWalkIn
import Derived.WalkSmall
import Derived.LoopNIn
import Derived.LoopIn
import Derived.TacticsInMore
import Derived.Test.YtmnoldikimcafaaRows
namespace Go.Amb
open Go.RowKit Go.Shelf
set_option linter.unusedVariables false

/-- The iterator gives enc 0 .. enc (N - 1), whatever stands in its box, so each round keeps the box. -/
def Iter (P : Program) (gf : Nat) (lb : Array Value) (b : Nat) (enc : Nat → Array Value) (N : Nat) (o : Obj) : Prop :=
  ∀ (l : Nat) (J : Nat → World → Prop) (W : World), W.heap[b]? = some o → (∀ i W1 v, J i W1 → J i (W1.setCell ⟨b, 0, none⟩ v)) →
    (∀ i W1, i < N → J i W1 → YieldAt Fence.wide 3 P l (enc i) W1 fun e W' => e = .returned (.bool true) ∧ J (i + 1) W' ∧ W'.heap[b]? = W1.heap[b]?) →
    J 0 W → CallsIn Fence.wide 4 P gf (#[.func (.yield l) #[] #[]] ++ lb) W fun e W' => (∃ v, e = .returned v) ∧ J N W'
/-- How a round may end. -/
def roundEnd (I : Nat → World → Prop) (b i : Nat) (W : World) : Exit → Act → World → Prop
  | .normal, _, W' => KeepsOthers W W' ∧ W'.heap[b]? = W.heap[b]? ∧ I (i + 1) W'
  | _, _, _ => False
theorem wp_rangeBox {P : Program} {g : Operand} {ps : Array Tmp} {assign body : Code} {Q : Exit → Act → World → Prop} {a : Act} {w : World} {gf : Nat} {lb : Array Value} {b : Nat} {enc : Nat → Array Value} {N : Nat} {o : Obj}
    (hg : a.eval g = .func (.func gf) #[] lb) (eg : ∀ args w, (callFunc gf args).run P w = .ok (.enter gf args) w) (hit : Iter P gf lb b enc N o) (hb : w.heap[b]? = some o) (hps : ∀ i, (enc i).size = ps.size)
    (I : Nat → World → Prop) (hIb : ∀ i W v, I i W → I i (W.setCell ⟨b, 0, none⟩ v)) (hIa : ∀ i W o, I i W → I i (W.alloc o))
    (hIp : ∀ i W l o o', w.heap.size ≤ l → W.heap[l]? = some o → o.isCells = false → I i W → I i (W.putObj l o')) (h0 : I 0 w) (a₁ : Nat → Act)
    (hassign : ∀ (l i : Nat) (W : World) (K : Act → World → Prop), K (a₁ i) W →
      assign.wpIn (Fence.wide.inRound l) 3 P (Exit.then K (fun _ _ _ => False)) { tmps := (ps.zip (enc i)).foldl (fun t (p, v) => t.setIfInBounds p v) a.tmps, defers := [] } W)
    (hbody : ∀ (l i : Nat) (W : World), i < N → I i W → body.wpIn (Fence.wide.inRound l) 3 P (roundEnd I b i W) (a₁ i) W)
    (hdone : ∀ (D : Nat) (W : World), w.heap.size ≤ D → I N W → W.heap[D]? = some (.deferred (some [])) → Q .normal { a with defers := { target := .collected D, args := #[] } :: a.defers } W) :
    (Code.rangeFunc g ps assign body).wp P Q a w := by
  refine (wpIn_wide (n := 5)).1 (wpIn_rangeFunc fun fn hfn => ?_)
  have hbl : b < w.heap.size := (Array.getElem?_eq_some_iff.1 hb).1
  obtain ⟨rc, hrc⟩ : ∃ rc : LoopState → Option Code → Loop, rc = fun st pe => { state := st, pending := pe, fn, tmps := a.tmps, params := ps, assign, body, defers := w.heap.size } := ⟨_, rfl⟩
  obtain ⟨L, hL⟩ : ∃ L, w.heap.size + 1 = L := ⟨_, rfl⟩
  obtain ⟨W1, hW1⟩ : ∃ W1, (w.alloc (.deferred (some []))).alloc (.loop (rc .ready none)) = W1 := ⟨_, rfl⟩
  have hK1 : W1.heap[w.heap.size]? = some (.deferred (some [])) := by
    subst hW1; exact (Below.heap_alloc _ _ _ (by simp)).trans (World.alloc_heap_new w _)
  have hL1 : W1.heap[L]? = some (.loop (rc .ready none)) := by
    subst hW1 hL; simpa using World.alloc_heap_new (w.alloc (.deferred (some []))) (.loop (rc .ready none))
  have hb1 : W1.heap[b]? = some o := by
    subst hW1; exact (Below.heap_alloc _ _ _ (by simp; omega)).trans ((Below.heap_alloc _ _ _ hbl).trans hb)
  have hI1 : I 0 W1 := by subst hW1; exact hIa _ _ _ (hIa _ _ _ h0)
  have turned : ∀ (W : World) (x : Obj) (k : Nat) (y : Obj), k ≠ L → W.heap[k]? = some y → (W.putObj L x).heap[k]? = some y := fun W x k y hk h => (World.putObj_heap_other hk).trans h
  refine ⟨L, [{ target := .collected w.heap.size, args := #[] }], W1, { target := .fn (.func gf) lb, args := #[.func (.yield L) #[] #[]] }, W1, gf, #[.func (.yield L) #[] #[]] ++ lb, W1, ?_, ?_, fun _ _ => trivial, ?_, fun _ => by decide, ?_⟩
  · subst hW1 hL hrc; exact run_enterLoop_outer _ _ _ _ _
  · simp only [resolve, hg]
    simp [go_sem]
  · simp [invoke, go_sem, eg]
  · refine (hit L (fun i W => I i W ∧ W.heap[L]? = some (.loop (rc .ready none)) ∧ W.heap[w.heap.size]? = some (.deferred (some []))) W1 hb1 ?_ ?_ ⟨hI1, hL1, hK1⟩).mono ?_
    · rintro i W v ⟨hi, hl, hk⟩
      exact ⟨hIb _ _ _ hi, (Below.heap_setCell _ _ _ _ (by show L ≠ b; omega)).trans hl, (Below.heap_setCell _ _ _ _ (by show w.heap.size ≠ b; omega)).trans hk⟩
    · rintro i W hiN ⟨hi, hl, hk⟩
      have hlt : L < W.heap.size := (Array.getElem?_eq_some_iff.1 hl).1
      have hbeg := run_beginRound (P := P) hl (by subst hrc; rfl)
      have hy := run_yield (P := P) (args := enc i) hl (by subst hrc; exact hps i)
      refine ⟨fn, _, assign, body, by rw [hy, hrc], ?_⟩
      obtain ⟨W2, hW2⟩ : ∃ W2, W.putObj L (.loop { rc .ready none with state := .busy }) = W2 := ⟨_, rfl⟩
      rw [hW2] at hbeg
      have hi2 : I i W2 := by subst hW2; exact hIp _ _ _ _ _ (by omega) hl rfl hi
      have hl2 : W2.heap[L]? = some (.loop { rc .ready none with state := .busy }) := by subst hW2; exact World.putObj_heap_same hlt
      have hk2 : W2.heap[w.heap.size]? = some (.deferred (some [])) := by subst hW2; exact turned _ _ _ _ (by omega) hk
      have hbk : W2.heap[b]? = W.heap[b]? := by subst hW2; exact World.putObj_heap_other (by omega)
      refine roundIn_of_wpIn hfn (hassign L i W _ ⟨W2, hbeg, wpIn_mono (hbody L i W2 hiN hi2) ?_⟩)
      rintro e a3 W3 hp
      cases e with
      | normal =>
        obtain ⟨hk3, hb3, hi3⟩ := hp
        have hl3 := hk3.same _ _ hl2 rfl
        refine ⟨_, _, run_endRound (P := P) none hl3, rfl, ⟨hIp _ _ _ _ _ (by omega) hl3 rfl hi3, ?_, turned _ _ _ _ (by omega) (hk3.same _ _ hk2 rfl)⟩, (World.putObj_heap_other (by omega)).trans (hb3.trans hbk)⟩
        rw [World.putObj_heap_same (Array.getElem?_eq_some_iff.1 hl3).1]
        subst hrc; rfl
      | _ => exact hp.elim
    · rintro e W2 ⟨⟨v, rfl⟩, hi, hl, hk⟩
      refine ⟨_, _, run_endLoop (P := P) hl (by subst hrc; simp), ?_⟩
      rw [show (rc .ready none).pending = none by subst hrc; rfl]
      exact hdone _ _ (Nat.le_refl _) (hIp _ _ _ _ _ (by omega) hl rfl hi) (turned _ _ _ _ (by omega) hk)
end Go.Amb

namespace Go.Amb
open Go.RowKit
theorem run_subTo {P : Program} (t : TypeId) (hu : P.underlying t = some .string) (s : List UInt8) (hi : Int) (h : Nat) (hh : hi = h) (h2 : h ≤ s.length) (w : World) :
    (Instr.slice t (.string ⟨s.toArray⟩) none (some (.int .i64 hi)) none).run P w = .ok (.string ⟨(s.take h).toArray⟩) w := by
  subst hh
  have := run_slice_string_h (P := P) w t ⟨s.toArray⟩ hu .i64 (h : Int) (by omega) (by simp [ByteArray.size]; omega)
  rw [this, Int.toNat_natCast, ByteArray.extract_mk]
  simp
theorem run_subFrom {P : Program} (t : TypeId) (hu : P.underlying t = some .string) (s : List UInt8) (lo : Int) (l : Nat) (hl : lo = l) (h2 : l ≤ s.length) (w : World) :
    (Instr.slice t (.string ⟨s.toArray⟩) (some (.int .i64 lo)) none none).run P w = .ok (.string ⟨(s.drop l).toArray⟩) w := by
  subst hl
  have := run_slice_string_l (P := P) w t ⟨s.toArray⟩ hu .i64 (l : Int) (by omega) (by simp [ByteArray.size]; omega)
  rw [this, Int.toNat_natCast, ByteArray.extract_mk]
  simp [ByteArray.size]
  exact List.take_of_length_le (by simp)
/-- A record's piece i, and how many there are. -/
def pieceB (s : List UInt8) (i : Nat) : List UInt8 := (s.drop (108 * i)).take 108
def pieceN (s : List UInt8) : Nat := max 1 ((s.length + 107) / 108)
def pieceE (s : List UInt8) (i : Nat) : Array Value := #[.int .i64 (i : Int), .string ⟨(pieceB s i).toArray⟩]
end Go.Amb
namespace Go.Proofs.Ytmnoldikimcafaa
open Go.RowKit Go.Amb Go.Shelf
set_option linter.unusedVariables false
set_option maxRecDepth 100000
attribute [local go_sem] Oper.semAt_some
set_option maxHeartbeats 1000000 in
theorem iter_pieces (s : List UInt8) (hs : s.length ≤ 16384) (b : Nat) : Iter Try.prog 58 #[.pointer (some ⟨b, 0, none⟩)] b (pieceE s) (pieceN s) (.cells #[.string ⟨s.toArray⟩] 9 (0, 0)) := by
  intro l J W hW hJb hY h0
  refine callsIn_of_wp Try.func58 rfl trivial ?_ rfl
  simp only [Try.ntmps58, List.size_toArray, List.length_cons, List.length_nil, Nat.reduceAdd, Nat.reduceSub, Array.replicate_succ, Array.replicate_zero, List.push_toArray, List.append_toArray, List.nil_append, List.cons_append]
  gi_wp2
  gi_loopw [3] (fun iv wr => ∃ i : Nat, iv = .int .i64 (i : Int) ∧ i < pieceN s ∧ (i = 0 ∨ 108 * i < s.length) ∧ wr.heap[b]? = some (.cells #[.string ⟨(s.drop (108 * i)).toArray⟩] 9 (0, 0)) ∧ J i wr) (fun iv _ => pieceN s - (intOf iv).toNat)
  case atStart => exact ⟨0, rfl, by unfold pieceN; omega, .inl rfl, by simpa using hW, h0⟩
  case round =>
    obtain ⟨i, rfl, hi, hpos, hbx, hJ⟩ := hrel
    have hc := (cells_of hbx).1 0
    have hf := (cells_of hbx).2 0
    have hy0 := hY i wr hi hJ
    unfold pieceE pieceB at hy0
    have hlen : (s.drop (108 * i)).length = s.length - 108 * i := by simp
    have hnext : s.drop (108 * (i + 1)) = (s.drop (108 * i)).drop 108 := by rw [List.drop_drop]; congr 1
    generalize s.drop (108 * i) = t at *
    have hi63 : i < 9223372036854775807 := by unfold pieceN at hi; omega
    by_cases hl : t.length ≤ 108
    · have hN : pieceN s = i + 1 := by unfold pieceN at *; omega
      have hl' : (t.length : Int) ≤ 108 := by omega
      rw [List.take_of_length_le hl] at hy0
      obtain ⟨fn, tmps, assign, body, hy, hR⟩ := hy0
      clear hY
      gi_wp2
      refine hR.mono ?_
      rintro e W3 ⟨rfl, hJ3, hk3⟩
      gi_wp2
      refine bodyPost_ret (results_none rfl _ _ _) rfl ?_
      exact ⟨⟨_, rfl⟩, by rw [hN]; exact hJ3⟩
    · have hl' : ¬ (t.length : Int) ≤ 108 := by omega
      have h1 := fun w => run_subTo (P := Try.prog) 9 Try.underlying9 t 108 108 rfl (by omega) w
      have h2 := fun w => run_subFrom (P := Try.prog) 9 Try.underlying9 t 108 108 rfl (by omega) w
      obtain ⟨fn, tmps, assign, body, hy, hR⟩ := hy0
      clear hY
      gi_wp2
      refine hR.mono ?_
      rintro e W3 ⟨rfl, hJ3, hk3⟩
      have hb3 := hk3.trans hbx
      have hc3 := (cells_of hb3).1 0
      have hf3 := (cells_of hb3).2 0
      gi_wp2
      go_roundw
      case rel => exact ⟨i + 1, by go_num, by unfold pieceN at *; omega, by omega, by rw [hnext]; exact heap_setCell_same _ b 0 _ _ _ hb3, hJb _ _ _ hJ3⟩
      case measure => simp [intOf]; omega
end Go.Proofs.Ytmnoldikimcafaa
