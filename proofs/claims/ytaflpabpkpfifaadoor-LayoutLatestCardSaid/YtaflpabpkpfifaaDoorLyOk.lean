/- A key whose numbers and names a machine can hold. -/
import Derived.Test.YtaflpabpkpfifaaDoorLyP
namespace Go.Proofs.YtaflpabpkpfifaaDoor
set_option maxRecDepth 100000
def KyOk (x : Ky) : Prop := (∀ n ∈ x.ns, i64Ok n) ∧ x.b.length ≤ 140737488355328 ∧ x.o.length ≤ 140737488355328
end Go.Proofs.YtaflpabpkpfifaaDoor
