/- Disk.Copy. -/
import Derived.Test.YtgdkgnolkepgdaaMBlM
import Derived.Test.YtgdkgnolkepgdaaMLibB
import Derived.Lib.SliceRun
namespace Go.Proofs.Ytgdkgnolkepgdaa
open Go.RowKit Go.Amb Go.Shelf
set_option linter.unusedVariables false
set_option linter.unusedSimpArgs false
set_option maxRecDepth 100000
theorem info_sector3 : (Try.prog.info? 99).map (fun i => (i.zero, i.size, i.bytes)) = some (some (.agg (Array.replicate 128 (.int .u8 0))), 128, 128) := info_sector
theorem rows_one {K : List (List UInt8)} : ∀ u ∈ (K.map bc).flatten, u.oneCell' = true := by
  intro u hu
  obtain ⟨r, hr, hu⟩ := List.mem_flatten.1 hu
  obtain ⟨s, hs, rfl⟩ := List.mem_map.1 hr
  exact bc_one s u hu
theorem writes_one {P : List (List UInt8 × Nat)} : ∀ u ∈ (P.map pc).flatten, u.oneCell' = true := by
  intro u hu
  obtain ⟨r, hr, hu⟩ := List.mem_flatten.1 hu
  obtain ⟨s, hs, rfl⟩ := List.mem_map.1 hr
  exact pc_one s u hu
end Go.Proofs.Ytgdkgnolkepgdaa
