/- The reference's Read: the walk. -/
import Derived.Test.YtogekobpjjmnjaaGreatMWrAa
namespace Go.Proofs.YtogekobpjjmnjaaGreat
open Go.RowKit Go.Amb
set_option linter.unusedVariables false
set_option linter.unusedSimpArgs false
set_option maxRecDepth 100000
attribute [local go_sem ↓] Go.wp_at_zero Go.wp_at_succ
/-- Between two letters: the reader in block T, the request in block b, the result's block Z. -/
def RdI (w : World) (Z T b : Nat) (s : List UInt8) (x : Rq × Nat × Int) (pv : Value) (wr : World) : Prop :=
  TkAt wr T s x.2.1 x.2.2 ∧ wr.heap[b]? = some (.cells (rqC x.1 pv) 86 (0, 0)) ∧ wr.ownsRow (b + 1) 3 1 pv x.1.parts.length (x.1.parts.map (.int .i64)) ∧ wr.heap[Z]? = some (.cells (rqC zeroQ (.slice none 0 0)) 86 (0, 0)) ∧ Upd Non w wr
theorem RdI.step {w wr w2 : World} {Z T b : Nat} {s : List UInt8} {x y : Rq × Nat × Int} {pv : Value} (h : RdI w Z T b s x pv wr) (h1 : w.heap.size ≤ Z) (h2 : Z < T) (h3 : T < b) (hT : TkAt w2 T s y.2.1 y.2.2) (hb : w2.heap[b]? = some (.cells (rqC y.1 pv) 86 (0, 0))) (hp : y.1.parts = x.1.parts) (hu : Upd (fun k => k = T ∨ k = b) wr w2) : RdI w Z T b s y pv w2 := by
  obtain ⟨a1, a2, a3, a4, a5⟩ := h
  refine ⟨hT, hb, ?_, hu.heap a4 (by omega), a5.trans hu fun j hj h => by omega⟩
  rw [hp]
  exact hu.owns a3 fun k hk h => by have := own_ge a3 hk; omega
def ReadR (s : List UInt8) (w : World) : Ending → World → Prop := fun en w' =>
  ∃ pv, en = .returned (.tuple #[rqV ((readR s).getD zeroQ) pv, .int .i64 (codeQ (readR s))]) ∧ Ints w' pv ((readR s).getD zeroQ).parts ∧ (∀ k, At pv k → w.heap.size ≤ k ∧ k < w'.heap.size) ∧ Upd Non w w'
theorem str_beq (a b : List UInt8) : ((⟨a.toArray⟩ : ByteArray) == ⟨b.toArray⟩) = decide (a = b) := by
  show (a.toArray == b.toArray) = _
  rw [List.beq_toArray]
  by_cases h : a = b
  · subst h; simp
  · simp [h]
theorem str_bne {a b : List UInt8} (h : ¬ a = b) : ((⟨a.toArray⟩ : ByteArray) != ⟨b.toArray⟩) = true := by
  unfold bne
  rw [str_beq, decide_eq_false h]; rfl
end Go.Proofs.YtogekobpjjmnjaaGreat
