/-
  No cell of these rows narrows 'for every input' (looked for: loops, veiled, ifaces, maps, wideKeys, modest, calm, conditions, laid).
  DERIVED. THE GIVEN ROWS OF THIS SEAT. 7 by the template 'for every input the law returns true; each argument reads behind the call as it read before'; 0 by the template 'total and deterministic' (their statements: YtnlmdagmhfcdeaaTotals.lean).
  GIVEN WITH THE SEED: the statements are not yours to turn. If you find one false, say at which input.
  Laid BY PROGRAM, IN A SANDBOX (cutbox-rows.mjs): the forced cells as the released guide's own fill.sh prints them over the translation 3b8c394eddded3cf… (all of the seat's roots in one cut). By AI agents, Wed Nov 11 2026. No macro, syntax, notation, axiom, sorry.
-/
import Derived.Test.YtnlmdagmhfcdeaaChecked
import GoSem.Claim
import GoSem.ClaimJoined
import GoSem.ClaimMapViews
import Derived.JoinedTies
import Derived.KernelRfl
namespace Go.Proofs.Ytnlmdagmhfcdeaa
/- THE CELL 'sum', in the pinned program and in every row, IS THE sha256 OF THE DUMP (.gsa) THAT YtnlmdagmhfcdeaaProg.lean LOADS. Nothing in Lean hashes anything: it is a label: what it is worth is what the hold of that sum in a sandbox is worth. -/
noncomputable def Try.pinned : Pinned := { name := "ytnlmdagmhfcdeaa", sum := "3b8c394eddded3cffbda2399d39d5a6608fb5aac1e460c4dff4de328e551e83a", checked := Try.checked }
namespace Rows
def none {H : Type} : Left H := { results := [], args := [] }

/-- 'ambrylaw02.TupleCompares': WHATEVER THE INPUT: true; the input reads as it did. -/
def tupleComparesSpec : ChangeSpec := { name := "tupleCompares", fn := fun _ => fun
  | [d1, d2] => { results := [.lit (.bool true)], args := [d1, d2] }
  | _ => none }
def tupleComparesRow : OpenClaim := { program := "ytnlmdagmhfcdeaa", sum := "3b8c394eddded3cffbda2399d39d5a6608fb5aac1e460c4dff4de328e551e83a", func := "ambry/ambrylaw02.TupleCompares", spec := "tupleCompares", unfollowed := true, recurses := true, apart := false }
def TupleComparesSaid : Prop := tupleComparesRow.holds Try.pinned (OpenSpec.ofChange tupleComparesSpec)

/-- ITS FALSE NEIGHBOUR: 'it returns false'. Refute it at one input. -/
def tupleComparesWrong : ChangeSpec := { name := "tupleCompares", fn := fun _ => fun
  | [d1, d2] => { results := [.lit (.bool false)], args := [d1, d2] }
  | _ => none }
def TupleComparesWrongFalsely : Prop := tupleComparesRow.holds Try.pinned (OpenSpec.ofChange tupleComparesWrong)

/-- 'ambrylaw02.TupleOrder': WHATEVER THE INPUT: true; the input reads as it did. -/
def tupleOrderSpec : ChangeSpec := { name := "tupleOrder", fn := fun _ => fun
  | [d1, d2] => { results := [.lit (.bool true)], args := [d1, d2] }
  | _ => none }
def tupleOrderRow : OpenClaim := { program := "ytnlmdagmhfcdeaa", sum := "3b8c394eddded3cffbda2399d39d5a6608fb5aac1e460c4dff4de328e551e83a", func := "ambry/ambrylaw02.TupleOrder", spec := "tupleOrder", unfollowed := true, recurses := true, apart := false }
def TupleOrderSaid : Prop := tupleOrderRow.holds Try.pinned (OpenSpec.ofChange tupleOrderSpec)

/-- ITS FALSE NEIGHBOUR: 'it returns false'. Refute it at one input. -/
def tupleOrderWrong : ChangeSpec := { name := "tupleOrder", fn := fun _ => fun
  | [d1, d2] => { results := [.lit (.bool false)], args := [d1, d2] }
  | _ => none }
def TupleOrderWrongFalsely : Prop := tupleOrderRow.holds Try.pinned (OpenSpec.ofChange tupleOrderWrong)

/-- 'ambrylaw02.TupleJoins': WHATEVER THE INPUT: true; the input reads as it did. -/
def tupleJoinsSpec : ChangeSpec := { name := "tupleJoins", fn := fun _ => fun
  | [d1, d2] => { results := [.lit (.bool true)], args := [d1, d2] }
  | _ => none }
def tupleJoinsRow : OpenClaim := { program := "ytnlmdagmhfcdeaa", sum := "3b8c394eddded3cffbda2399d39d5a6608fb5aac1e460c4dff4de328e551e83a", func := "ambry/ambrylaw02.TupleJoins", spec := "tupleJoins", unfollowed := true, recurses := true, apart := false }
def TupleJoinsSaid : Prop := tupleJoinsRow.holds Try.pinned (OpenSpec.ofChange tupleJoinsSpec)

/-- ITS FALSE NEIGHBOUR: 'it returns false'. Refute it at one input. -/
def tupleJoinsWrong : ChangeSpec := { name := "tupleJoins", fn := fun _ => fun
  | [d1, d2] => { results := [.lit (.bool false)], args := [d1, d2] }
  | _ => none }
def TupleJoinsWrongFalsely : Prop := tupleJoinsRow.holds Try.pinned (OpenSpec.ofChange tupleJoinsWrong)

/-- 'ambrylaw02.TupleWrites': WHATEVER THE INPUT: true; the input reads as it did. -/
def tupleWritesSpec : ChangeSpec := { name := "tupleWrites", fn := fun _ => fun
  | [d] => { results := [.lit (.bool true)], args := [d] }
  | _ => none }
def tupleWritesRow : OpenClaim := { program := "ytnlmdagmhfcdeaa", sum := "3b8c394eddded3cffbda2399d39d5a6608fb5aac1e460c4dff4de328e551e83a", func := "ambry/ambrylaw02.TupleWrites", spec := "tupleWrites", unfollowed := true, recurses := true, apart := false }
def TupleWritesSaid : Prop := tupleWritesRow.holds Try.pinned (OpenSpec.ofChange tupleWritesSpec)

/-- ITS FALSE NEIGHBOUR: 'it returns false'. Refute it at one input. -/
def tupleWritesWrong : ChangeSpec := { name := "tupleWrites", fn := fun _ => fun
  | [d] => { results := [.lit (.bool false)], args := [d] }
  | _ => none }
def TupleWritesWrongFalsely : Prop := tupleWritesRow.holds Try.pinned (OpenSpec.ofChange tupleWritesWrong)

/-- 'ambrylaw02.TupleRanges': WHATEVER THE INPUT: true; the input reads as it did. -/
def tupleRangesSpec : ChangeSpec := { name := "tupleRanges", fn := fun _ => fun
  | [d1, d2] => { results := [.lit (.bool true)], args := [d1, d2] }
  | _ => none }
def tupleRangesRow : OpenClaim := { program := "ytnlmdagmhfcdeaa", sum := "3b8c394eddded3cffbda2399d39d5a6608fb5aac1e460c4dff4de328e551e83a", func := "ambry/ambrylaw02.TupleRanges", spec := "tupleRanges", unfollowed := true, recurses := true, apart := false }
def TupleRangesSaid : Prop := tupleRangesRow.holds Try.pinned (OpenSpec.ofChange tupleRangesSpec)

/-- ITS FALSE NEIGHBOUR: 'it returns false'. Refute it at one input. -/
def tupleRangesWrong : ChangeSpec := { name := "tupleRanges", fn := fun _ => fun
  | [d1, d2] => { results := [.lit (.bool false)], args := [d1, d2] }
  | _ => none }
def TupleRangesWrongFalsely : Prop := tupleRangesRow.holds Try.pinned (OpenSpec.ofChange tupleRangesWrong)

/-- 'ambrylaw02.TupleReads': WHATEVER THE INPUT: true; the input reads as it did. -/
def tupleReadsSpec : ChangeSpec := { name := "tupleReads", fn := fun _ => fun
  | [d] => { results := [.lit (.bool true)], args := [d] }
  | _ => none }
def tupleReadsRow : OpenClaim := { program := "ytnlmdagmhfcdeaa", sum := "3b8c394eddded3cffbda2399d39d5a6608fb5aac1e460c4dff4de328e551e83a", func := "ambry/ambrylaw02.TupleReads", spec := "tupleReads", unfollowed := true, recurses := true, apart := false }
def TupleReadsSaid : Prop := tupleReadsRow.holds Try.pinned (OpenSpec.ofChange tupleReadsSpec)

/-- ITS FALSE NEIGHBOUR: 'it returns false'. Refute it at one input. -/
def tupleReadsWrong : ChangeSpec := { name := "tupleReads", fn := fun _ => fun
  | [d] => { results := [.lit (.bool false)], args := [d] }
  | _ => none }
def TupleReadsWrongFalsely : Prop := tupleReadsRow.holds Try.pinned (OpenSpec.ofChange tupleReadsWrong)

/-- 'ambrylaw02.TupleBack': WHATEVER THE INPUT: true; the input reads as it did. -/
def tupleBackSpec : ChangeSpec := { name := "tupleBack", fn := fun _ => fun
  | [d1, d2] => { results := [.lit (.bool true)], args := [d1, d2] }
  | _ => none }
def tupleBackRow : OpenClaim := { program := "ytnlmdagmhfcdeaa", sum := "3b8c394eddded3cffbda2399d39d5a6608fb5aac1e460c4dff4de328e551e83a", func := "ambry/ambrylaw02.TupleBack", spec := "tupleBack", unfollowed := true, recurses := true, apart := false }
def TupleBackSaid : Prop := tupleBackRow.holds Try.pinned (OpenSpec.ofChange tupleBackSpec)

/-- ITS FALSE NEIGHBOUR: 'it returns false'. Refute it at one input. -/
def tupleBackWrong : ChangeSpec := { name := "tupleBack", fn := fun _ => fun
  | [d1, d2] => { results := [.lit (.bool false)], args := [d1, d2] }
  | _ => none }
def TupleBackWrongFalsely : Prop := tupleBackRow.holds Try.pinned (OpenSpec.ofChange tupleBackWrong)

/- THE SECOND FORM. 'bulk': how many values and letters a reading holds, each counted each time it is reached (what is shared counts as often as it is met; a slice's spare places count too). A statement '..UptoSaid' is the law's where the arguments, and the package variables that the reading takes, are together of bulk at most 1048576: NARROWER than '..Said'. Prove '..Said' where nothing that the law and all that it calls make is longer than what came in: it says more and counts as full. Else prove '..UptoSaid'. A law counts once. -/
mutual
def uptoBulk {H : Type} : DataW H → Nat
  | .lit (.string bytes) => bytes.length + 1
  | .lit _ => 1
  | .nil => 1
  | .ptr d => uptoBulk d + 1
  | .slice elems spare => uptoBulkAll elems + uptoBulkAll spare + 1
  | .agg parts => uptoBulkAll parts + 1
  | .iface _ d => uptoBulk d + 1
  | .map entries => uptoBulkEntries entries + 1
  | .held _ => 1
def uptoBulkAll {H : Type} : List (DataW H) → Nat
  | [] => 0
  | d :: r => uptoBulk d + uptoBulkAll r
def uptoBulkEntries {H : Type} : List (Lit × DataW H) → Nat
  | [] => 0
  | x :: r => uptoBulkEntry x + uptoBulkEntries r
def uptoBulkEntry {H : Type} : Lit × DataW H → Nat
  | (.string bytes, d) => bytes.length + uptoBulk d + 1
  | (_, d) => uptoBulk d + 1
 end
def uptoSmall : (H : Type) → List (DataW H) → Bool := fun _ ds => decide (uptoBulkAll ds ≤ 1048576)
def OpenSpec.upto (s : _root_.Go.ChangeSpec) : _root_.Go.OpenSpec := { _root_.Go.OpenSpec.ofChange s with cond := some uptoSmall }

/-- 'ambrylaw02.TupleCompares', WHERE WHAT IT READS IS OF BULK AT MOST 1048576: true; the input reads as it did. -/
def tupleComparesUptoRow : OpenClaim := { program := "ytnlmdagmhfcdeaa", sum := "3b8c394eddded3cffbda2399d39d5a6608fb5aac1e460c4dff4de328e551e83a", func := "ambry/ambrylaw02.TupleCompares", spec := "tupleCompares", unfollowed := true, recurses := true, apart := false, narrowed := true }
def TupleComparesUptoSaid : Prop := tupleComparesUptoRow.holds Try.pinned (OpenSpec.upto tupleComparesSpec)

/-- 'ambrylaw02.TupleOrder', WHERE WHAT IT READS IS OF BULK AT MOST 1048576: true; the input reads as it did. -/
def tupleOrderUptoRow : OpenClaim := { program := "ytnlmdagmhfcdeaa", sum := "3b8c394eddded3cffbda2399d39d5a6608fb5aac1e460c4dff4de328e551e83a", func := "ambry/ambrylaw02.TupleOrder", spec := "tupleOrder", unfollowed := true, recurses := true, apart := false, narrowed := true }
def TupleOrderUptoSaid : Prop := tupleOrderUptoRow.holds Try.pinned (OpenSpec.upto tupleOrderSpec)

/-- 'ambrylaw02.TupleJoins', WHERE WHAT IT READS IS OF BULK AT MOST 1048576: true; the input reads as it did. -/
def tupleJoinsUptoRow : OpenClaim := { program := "ytnlmdagmhfcdeaa", sum := "3b8c394eddded3cffbda2399d39d5a6608fb5aac1e460c4dff4de328e551e83a", func := "ambry/ambrylaw02.TupleJoins", spec := "tupleJoins", unfollowed := true, recurses := true, apart := false, narrowed := true }
def TupleJoinsUptoSaid : Prop := tupleJoinsUptoRow.holds Try.pinned (OpenSpec.upto tupleJoinsSpec)

/-- 'ambrylaw02.TupleWrites', WHERE WHAT IT READS IS OF BULK AT MOST 1048576: true; the input reads as it did. -/
def tupleWritesUptoRow : OpenClaim := { program := "ytnlmdagmhfcdeaa", sum := "3b8c394eddded3cffbda2399d39d5a6608fb5aac1e460c4dff4de328e551e83a", func := "ambry/ambrylaw02.TupleWrites", spec := "tupleWrites", unfollowed := true, recurses := true, apart := false, narrowed := true }
def TupleWritesUptoSaid : Prop := tupleWritesUptoRow.holds Try.pinned (OpenSpec.upto tupleWritesSpec)

/-- 'ambrylaw02.TupleRanges', WHERE WHAT IT READS IS OF BULK AT MOST 1048576: true; the input reads as it did. -/
def tupleRangesUptoRow : OpenClaim := { program := "ytnlmdagmhfcdeaa", sum := "3b8c394eddded3cffbda2399d39d5a6608fb5aac1e460c4dff4de328e551e83a", func := "ambry/ambrylaw02.TupleRanges", spec := "tupleRanges", unfollowed := true, recurses := true, apart := false, narrowed := true }
def TupleRangesUptoSaid : Prop := tupleRangesUptoRow.holds Try.pinned (OpenSpec.upto tupleRangesSpec)

/-- 'ambrylaw02.TupleReads', WHERE WHAT IT READS IS OF BULK AT MOST 1048576: true; the input reads as it did. -/
def tupleReadsUptoRow : OpenClaim := { program := "ytnlmdagmhfcdeaa", sum := "3b8c394eddded3cffbda2399d39d5a6608fb5aac1e460c4dff4de328e551e83a", func := "ambry/ambrylaw02.TupleReads", spec := "tupleReads", unfollowed := true, recurses := true, apart := false, narrowed := true }
def TupleReadsUptoSaid : Prop := tupleReadsUptoRow.holds Try.pinned (OpenSpec.upto tupleReadsSpec)

/-- 'ambrylaw02.TupleBack', WHERE WHAT IT READS IS OF BULK AT MOST 1048576: true; the input reads as it did. -/
def tupleBackUptoRow : OpenClaim := { program := "ytnlmdagmhfcdeaa", sum := "3b8c394eddded3cffbda2399d39d5a6608fb5aac1e460c4dff4de328e551e83a", func := "ambry/ambrylaw02.TupleBack", spec := "tupleBack", unfollowed := true, recurses := true, apart := false, narrowed := true }
def TupleBackUptoSaid : Prop := tupleBackUptoRow.holds Try.pinned (OpenSpec.upto tupleBackSpec)

end Rows
end Go.Proofs.Ytnlmdagmhfcdeaa
