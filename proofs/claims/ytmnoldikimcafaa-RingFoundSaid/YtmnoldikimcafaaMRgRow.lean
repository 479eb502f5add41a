/- A slice of texts that came in. -/
import Derived.Test.YtmnoldikimcafaaMLawKitB
import Derived.Test.YtmnoldikimcafaaMRgT
namespace Go.Proofs.Ytmnoldikimcafaa
set_option maxRecDepth 100000
open Go.RowKit Go.Amb Go.ChangeShapes Go.WideShapes Go.ChangeAt
set_option linter.unusedVariables false
variable {H : Type} {enc : TypeId × Value → H}
def tc1 (q : List UInt8) : List Value := [.string ⟨q.toArray⟩]
theorem row_txt {W : World} {m : Nat} {r : List Value} {x : DataW H × List MemPlace} (hr : r.length = 1) (hx : DataW.trod enc Try.prog W 0 (fun _ => true) true m 9 r = some x) : ∃ q : List UInt8, r = tc1 q ∧ True := by
  obtain ⟨s, e2, x2, w2⟩ := DataW.trod_string Try.underlying9 hx
  obtain ⟨l, hl, hl2, hl3⟩ := bytes_of s
  exact ⟨l, by rw [e2, hl]; rfl, trivial⟩
theorem flat_txt (l : List (List UInt8)) : (l.map tc1).flatten = tc l := by
  induction l with
  | nil => rfl
  | cons x l ih => simp only [List.map_cons, List.flatten_cons, ih]; rfl
theorem txts_of {w : World} {v : Value} {l : List (List UInt8)} (h : Has w 1 v l.length (l.map tc1).flatten) : TxtsAt w v l := by rw [flat_txt] at h; exact h
theorem txts_len {w : World} {v : Value} {l : List (List UInt8)} (h : Has w 1 v l.length (l.map tc1).flatten) : l.length < 9223372036854775808 := by
  obtain ⟨_, a, c, rfl, h1, h2, _⟩ := h
  unfold maxLen at h2
  omega
end Go.Proofs.Ytmnoldikimcafaa
