/- A row of texts that came in. -/
import Derived.Test.YtphdclafeijpnaaLawKitB
import Derived.Test.YtphdclafeijpnaaLsI
namespace Go.Proofs.Ytphdclafeijpnaa
open Go.RowKit Go.Amb Go.ChangeShapes Go.WideShapes Go.ChangeAt
set_option linter.unusedVariables false
variable {H : Type} {enc : TypeId × Value → H}
def tx1 (q : Str) : List Value := [txtV q]
theorem row_str {W : World} {m : Nat} {r : List Value} {x : DataW H × List MemPlace} (hr : r.length = 1) (hx : DataW.trod enc Try.prog W 0 (fun _ => true) true m 9 r = some x) (hw : ∀ n ∈ x.1.weights Try.prog 9, n ≤ 140737488351232) :
    ∃ q : Str, r = tx1 q ∧ q.length ≤ 140737488355328 := by
  obtain ⟨s, e2, x2, w2⟩ := DataW.trod_string Try.underlying9 hx
  obtain ⟨l, hl, hl2, hl3⟩ := bytes_of s
  refine ⟨l, by rw [e2, hl]; rfl, ?_⟩
  subst x2
  have := hw s.data.toList.length (by simp [DataW.weights])
  rw [hl2] at this
  omega
theorem flat_tx (l : List Str) : (l.map tx1).flatten = l.map txtV := by
  induction l with
  | nil => rfl
  | cons x l ih => simp only [List.map_cons, List.flatten_cons, ih]; rfl
theorem txts_in {w : World} {v : Value} {l : List Str} (h : Has w 1 v l.length (l.map tx1).flatten) : Txts w v l := by rw [flat_tx] at h; exact h
end Go.Proofs.Ytphdclafeijpnaa
