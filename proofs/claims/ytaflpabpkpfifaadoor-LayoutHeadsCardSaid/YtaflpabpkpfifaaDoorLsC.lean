/- The walks over the reference's entry and Below. -/
import Derived.Test.YtaflpabpkpfifaaDoorLsB
import Derived.Deep.QuietTactic
import Derived.Handy
namespace Go.Proofs.YtaflpabpkpfifaaDoor
set_option maxRecDepth 100000
open Go.RowKit Go.Amb
set_option linter.unusedVariables false
set_option linter.unusedSimpArgs false
theorem entOf_some {s p : Str} {c : UInt8} {j : Nat} (hj : p.length + j < s.length) (h : s[p.length + j] = c) (hn : ∀ k, k < j → ∀ (h : p.length + k < s.length), s[p.length + k] ≠ c) : entOf s p [c] = (s.take (p.length + j + 1), true) := by
  have hf : (s.drop p.length).findIdx? (· == c) = some j := by
    rw [List.findIdx?_eq_some_iff_getElem]
    refine ⟨by rw [List.length_drop]; omega, by simpa using h, fun k hk => ?_⟩
    simpa using hn k hk (by omega)
  unfold entOf
  simp only [hf]
theorem entOf_none {s p : Str} {c : UInt8} (hn : ∀ k, ∀ (h : p.length + k < s.length), s[p.length + k] ≠ c) : entOf s p [c] = (s, false) := by
  have hf : (s.drop p.length).findIdx? (· == c) = none := by
    rw [List.findIdx?_eq_none_iff]
    intro x hx
    obtain ⟨k, hk, rfl⟩ := List.mem_iff_getElem.1 hx
    rw [List.length_drop] at hk
    simpa using hn k (by omega)
  unfold entOf
  simp only [hf]
theorem bl_nil' (l : List UInt8) : Op.bytesLess l [] = false := by cases l <;> rfl
theorem bl_nil_cons' (b : UInt8) (l : List UInt8) : Op.bytesLess [] (b :: l) = true := rfl
end Go.Proofs.YtaflpabpkpfifaaDoor
