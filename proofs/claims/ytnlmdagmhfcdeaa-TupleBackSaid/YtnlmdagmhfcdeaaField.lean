/- The walks over package field. -/
import Derived.Test.YtnlmdagmhfcdeaaRows
import Derived.Test.YtnlmdagmhfcdeaaLib
import Derived.Deep.DeepMust
import Derived.Handy
namespace Go.Proofs.Ytnlmdagmhfcdeaa
open Go.RowKit Go.Amb
set_option linter.unusedVariables false

theorem info_u8 : (Try.prog.info? 5).map (fun i => (i.zero, i.size, i.bytes)) = some (some (.int .u8 0), 1, 1) := by kernel_rfl










end Go.Proofs.Ytnlmdagmhfcdeaa
