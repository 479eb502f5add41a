/- What the bound on bulk gives. -/
import Derived.Test.YtgemlapmjbgdkaaRows
import Derived.Test.YtgemlapmjbgdkaaLawKit
namespace Go.Proofs.Ytgemlapmjbgdkaa
open Go.ChangeShapes Go.WideShapes Go.ChangeAt Go.RowKit Go.Amb
set_option linter.unusedVariables false

theorem bulk_lits {H : Type} (k : IntKind) (zs : List Int) : Rows.uptoBulkAll (H := H) (lits k zs) = zs.length := by
  induction zs with
  | nil => simp [lits, Rows.uptoBulkAll]
  | cons z zs ih =>
    have e : lits (H := H) k (z :: zs) = .lit (.int k z) :: lits k zs := rfl
    rw [e]
    simp only [Rows.uptoBulkAll, Rows.uptoBulk, ih, List.length_cons]
    omega
theorem bulk_slice {H : Type} {d : DataW H} {k : IntKind} {zs sp : List Int} (h : (d = .nil ∧ zs = []) ∨ d = .slice (lits k zs) (lits k sp)) : zs.length ≤ Rows.uptoBulk d := by
  rcases h with ⟨rfl, rfl⟩ | rfl
  · simp
  · simp only [Rows.uptoBulk, bulk_lits]; omega
theorem bulk_bytes {H : Type} {d : DataW H} {l : List UInt8} (h : ∃ zs sp : List Int, zs.length = l.length ∧ ((d = .nil ∧ zs = []) ∨ d = .slice (lits .u8 zs) (lits .u8 sp))) : l.length ≤ Rows.uptoBulk d := by
  obtain ⟨zs, sp, e, h⟩ := h
  rw [← e]
  exact bulk_slice h
end Go.Proofs.Ytgemlapmjbgdkaa
