/- The reference reader's texts. -/
import Derived.Test.YtaflpabpkpfifaaDoorRd
namespace Go.Proofs.YtaflpabpkpfifaaDoor
set_option maxRecDepth 100000
open Go.RowKit Go.Amb
attribute [local go_sem ↓] Go.wp_at_zero Go.wp_at_succ

theorem max0_pos {most : Int} (h : 0 < most) : max 0 most = most := by omega
theorem max0_neg {most : Int} (h : ¬ 0 < most) : max 0 most = 0 := by omega
/-- The number of the four bytes ahead: what the walk wants to know of it. -/
theorem num4 (s : List UInt8) (a : Nat) (h : a + 4 ≤ s.length) : ∃ z : Nat, numL ((s.drop a).take 4) = z ∧ z < 4294967296 ∧ rdNum s a 0 4 = (a + 4, 0, (z : Int)) := by
  have hq0 := numL_nonneg ((s.drop a).take 4)
  have hq1 := numL_lt_of (l := (s.drop a).take 4) (m := 4) (by simp; omega)
  simp only [Int.reducePow] at hq1
  obtain ⟨z, hz⟩ := Int.eq_ofNat_of_zero_le hq0
  refine ⟨z, hz, by omega, ?_⟩
  rw [rdNum_ok h, hz, IntWalk.wrap64_in _ ⟨by omega, by omega⟩]

end Go.Proofs.YtaflpabpkpfifaaDoor
