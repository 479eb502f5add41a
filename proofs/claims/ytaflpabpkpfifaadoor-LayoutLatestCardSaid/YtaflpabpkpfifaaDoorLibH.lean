/- A region's world under a name of its own. No program stands here. -/
import Derived.Test.YtaflpabpkpfifaaDoorLibF
import Derived.Deep.RegionHeld3
namespace Go.Amb
open Go.RowKit
/-- The world as it stands is forgotten but for what is said of it. -/
theorem anyH_opaque {P : Program} {md : Region.Mode} {ops : Array Oper} {Q : Exit → Act → World → Prop} {S : World → Prop} {fuel : Nat} {listed : Array Bool} {a : Act} {w : World} (G : World → Prop) (hf : G w)
    (h : ∀ w', G w' → wpAnyH P md ops Q S fuel listed a w') : wpAnyH P md ops Q S fuel listed a w := h w hf
end Go.Amb
