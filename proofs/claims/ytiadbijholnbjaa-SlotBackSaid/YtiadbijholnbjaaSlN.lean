/- The reference's put, of every right slot. -/
import Derived.Test.YtiadbijholnbjaaSlN0
import Derived.Test.YtiadbijholnbjaaSlN1
import Derived.Test.YtiadbijholnbjaaSlN2
import Derived.Test.YtiadbijholnbjaaSlN3
namespace Go.Proofs.Ytiadbijholnbjaa
open Go.RowKit Go.Amb Go.Shelf
theorem refPut (x : S5) (w : World) (hR : rightS x = true) : Calls Try.prog 29 #[x.v] w (Ret (.string ⟨(slotB x).toArray⟩) w) := by
  obtain ⟨e, q, f, l, d⟩ := x
  cases f <;> cases l
  · exact refPut0 e q d w hR
  · exact refPut2 e q d w hR
  · exact refPut1 e q d w hR
  · exact refPut3 e q d w hR
end Go.Proofs.Ytiadbijholnbjaa
