/-
  No cell of these rows narrows 'for every input' (looked for: loops, veiled, ifaces, maps, wideKeys, modest, calm, conditions, laid).
  DERIVED. THE GIVEN ROWS OF THIS SEAT. 3 by the template 'for every input the law returns true; each argument reads behind the call as it read before'; 0 by the template 'total and deterministic' (their statements: YtfjcjppfihafgaaTotals.lean).
  GIVEN WITH THE SEED: the statements are not yours to turn. If you find one false, say at which input.
  Laid BY PROGRAM, IN A SANDBOX (cutbox-rows.mjs): the forced cells as the released guide's own fill.sh prints them over the translation c43dd67dfc191892… (all of the seat's roots in one cut). By AI agents, Wed Nov 11 2026. No macro, syntax, notation, axiom, sorry.
-/
import Derived.Test.YtfjcjppfihafgaaChecked
import GoSem.Claim
import GoSem.ClaimJoined
import GoSem.ClaimMapViews
import Derived.JoinedTies
import Derived.KernelRfl
namespace Go.Proofs.Ytfjcjppfihafgaa
/- THE CELL 'sum', in the pinned program and in every row, IS THE sha256 OF THE DUMP (.gsa) THAT YtfjcjppfihafgaaProg.lean LOADS. Nothing in Lean hashes anything: it is a label: what it is worth is what the hold of that sum in a sandbox is worth. -/
noncomputable def Try.pinned : Pinned := { name := "ytfjcjppfihafgaa", sum := "c43dd67dfc191892b0fe8756a34a7c48bf57ef31ef6e3808908762f9383d5b60", checked := Try.checked }
namespace Rows
def none {H : Type} : Left H := { results := [], args := [] }

/-- 'ambrylaw09.PagerNil': WHATEVER THE INPUT: true; the input reads as it did. -/
def pagerNilSpec : ChangeSpec := { name := "pagerNil", fn := fun _ => fun
  | [d1, d2, d3, d4] => { results := [.lit (.bool true)], args := [d1, d2, d3, d4] }
  | _ => none }
def pagerNilRow : OpenClaim := { program := "ytfjcjppfihafgaa", sum := "c43dd67dfc191892b0fe8756a34a7c48bf57ef31ef6e3808908762f9383d5b60", func := "ambry/ambrylaw09.PagerNil", spec := "pagerNil", unfollowed := true, recurses := true, apart := false }
def PagerNilSaid : Prop := pagerNilRow.holds Try.pinned (OpenSpec.ofChange pagerNilSpec)

/-- ITS FALSE NEIGHBOUR: 'it returns false'. Refute it at one input. -/
def pagerNilWrong : ChangeSpec := { name := "pagerNil", fn := fun _ => fun
  | [d1, d2, d3, d4] => { results := [.lit (.bool false)], args := [d1, d2, d3, d4] }
  | _ => none }
def PagerNilWrongFalsely : Prop := pagerNilRow.holds Try.pinned (OpenSpec.ofChange pagerNilWrong)

/-- 'ambrylaw09.PagerUndone': WHATEVER THE INPUT: true; the input reads as it did. -/
def pagerUndoneSpec : ChangeSpec := { name := "pagerUndone", fn := fun _ => fun
  | [d1, d2] => { results := [.lit (.bool true)], args := [d1, d2] }
  | _ => none }
def pagerUndoneRow : OpenClaim := { program := "ytfjcjppfihafgaa", sum := "c43dd67dfc191892b0fe8756a34a7c48bf57ef31ef6e3808908762f9383d5b60", func := "ambry/ambrylaw09.PagerUndone", spec := "pagerUndone", unfollowed := true, recurses := true, apart := false }
def PagerUndoneSaid : Prop := pagerUndoneRow.holds Try.pinned (OpenSpec.ofChange pagerUndoneSpec)

/-- ITS FALSE NEIGHBOUR: 'it returns false'. Refute it at one input. -/
def pagerUndoneWrong : ChangeSpec := { name := "pagerUndone", fn := fun _ => fun
  | [d1, d2] => { results := [.lit (.bool false)], args := [d1, d2] }
  | _ => none }
def PagerUndoneWrongFalsely : Prop := pagerUndoneRow.holds Try.pinned (OpenSpec.ofChange pagerUndoneWrong)

/-- 'ambrylaw09.PagerCounts': WHATEVER THE INPUT: true; the input reads as it did. -/
def pagerCountsSpec : ChangeSpec := { name := "pagerCounts", fn := fun _ => fun
  | [d1, d2] => { results := [.lit (.bool true)], args := [d1, d2] }
  | _ => none }
def pagerCountsRow : OpenClaim := { program := "ytfjcjppfihafgaa", sum := "c43dd67dfc191892b0fe8756a34a7c48bf57ef31ef6e3808908762f9383d5b60", func := "ambry/ambrylaw09.PagerCounts", spec := "pagerCounts", unfollowed := true, recurses := true, apart := false }
def PagerCountsSaid : Prop := pagerCountsRow.holds Try.pinned (OpenSpec.ofChange pagerCountsSpec)

/-- ITS FALSE NEIGHBOUR: 'it returns false'. Refute it at one input. -/
def pagerCountsWrong : ChangeSpec := { name := "pagerCounts", fn := fun _ => fun
  | [d1, d2] => { results := [.lit (.bool false)], args := [d1, d2] }
  | _ => none }
def PagerCountsWrongFalsely : Prop := pagerCountsRow.holds Try.pinned (OpenSpec.ofChange pagerCountsWrong)

/- THE SECOND FORM. 'bulk': how many values and letters a reading holds, each counted each time it is reached (what is shared counts as often as it is met; a slice's spare places count too). A statement '..UptoSaid' is the law's where the arguments, and the package variables that the reading takes, are together of bulk at most 1048576: NARROWER than '..Said'. Prove '..Said' where nothing that the law and all that it calls make is longer than what came in: it says more and counts as full. Else prove '..UptoSaid'. A law counts once. -/
mutual
def uptoBulk {H : Type} : DataW H → Nat
  | .lit (.string bytes) => bytes.length + 1
  | .lit _ => 1
  | .nil => 1
  | .ptr d => uptoBulk d + 1
  | .slice elems spare => uptoBulkAll elems + uptoBulkAll spare + 1
  | .agg parts => uptoBulkAll parts + 1
  | .iface _ d => uptoBulk d + 1
  | .map entries => uptoBulkEntries entries + 1
  | .held _ => 1
def uptoBulkAll {H : Type} : List (DataW H) → Nat
  | [] => 0
  | d :: r => uptoBulk d + uptoBulkAll r
def uptoBulkEntries {H : Type} : List (Lit × DataW H) → Nat
  | [] => 0
  | x :: r => uptoBulkEntry x + uptoBulkEntries r
def uptoBulkEntry {H : Type} : Lit × DataW H → Nat
  | (.string bytes, d) => bytes.length + uptoBulk d + 1
  | (_, d) => uptoBulk d + 1
 end
def uptoSmall : (H : Type) → List (DataW H) → Bool := fun _ ds => decide (uptoBulkAll ds ≤ 1048576)
def OpenSpec.upto (s : _root_.Go.ChangeSpec) : _root_.Go.OpenSpec := { _root_.Go.OpenSpec.ofChange s with cond := some uptoSmall }

/-- 'ambrylaw09.PagerNil', WHERE WHAT IT READS IS OF BULK AT MOST 1048576: true; the input reads as it did. -/
def pagerNilUptoRow : OpenClaim := { program := "ytfjcjppfihafgaa", sum := "c43dd67dfc191892b0fe8756a34a7c48bf57ef31ef6e3808908762f9383d5b60", func := "ambry/ambrylaw09.PagerNil", spec := "pagerNil", unfollowed := true, recurses := true, apart := false, narrowed := true }
def PagerNilUptoSaid : Prop := pagerNilUptoRow.holds Try.pinned (OpenSpec.upto pagerNilSpec)

/-- 'ambrylaw09.PagerUndone', WHERE WHAT IT READS IS OF BULK AT MOST 1048576: true; the input reads as it did. -/
def pagerUndoneUptoRow : OpenClaim := { program := "ytfjcjppfihafgaa", sum := "c43dd67dfc191892b0fe8756a34a7c48bf57ef31ef6e3808908762f9383d5b60", func := "ambry/ambrylaw09.PagerUndone", spec := "pagerUndone", unfollowed := true, recurses := true, apart := false, narrowed := true }
def PagerUndoneUptoSaid : Prop := pagerUndoneUptoRow.holds Try.pinned (OpenSpec.upto pagerUndoneSpec)

/-- 'ambrylaw09.PagerCounts', WHERE WHAT IT READS IS OF BULK AT MOST 1048576: true; the input reads as it did. -/
def pagerCountsUptoRow : OpenClaim := { program := "ytfjcjppfihafgaa", sum := "c43dd67dfc191892b0fe8756a34a7c48bf57ef31ef6e3808908762f9383d5b60", func := "ambry/ambrylaw09.PagerCounts", spec := "pagerCounts", unfollowed := true, recurses := true, apart := false, narrowed := true }
def PagerCountsUptoSaid : Prop := pagerCountsUptoRow.holds Try.pinned (OpenSpec.upto pagerCountsSpec)

end Rows
end Go.Proofs.Ytfjcjppfihafgaa
