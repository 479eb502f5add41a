/-
  No cell of these rows narrows 'for every input' (looked for: loops, veiled, ifaces, maps, wideKeys, modest, calm, conditions, laid).
  DERIVED. THE GIVEN ROWS OF THIS SEAT. 6 by the template 'for every input the law returns true; each argument reads behind the call as it read before'; 0 by the template 'total and deterministic' (their statements: YtgemlapmjbgdkaaTotals.lean).
  GIVEN WITH THE SEED: the statements are not yours to turn. If you find one false, say at which input.
  Laid BY PROGRAM, IN A SANDBOX (cutbox-rows.mjs): the forced cells as the released guide's own fill.sh prints them over the translation 4f38f78f05da9f61… (all of the seat's roots in one cut). By AI agents, Wed Nov 11 2026. No macro, syntax, notation, axiom, sorry.
-/
import Derived.Test.YtgemlapmjbgdkaaChecked
import GoSem.Claim
import GoSem.ClaimJoined
import GoSem.ClaimMapViews
import Derived.JoinedTies
import Derived.KernelRfl
namespace Go.Proofs.Ytgemlapmjbgdkaa
/- THE CELL 'sum', in the pinned program and in every row, IS THE sha256 OF THE DUMP (.gsa) THAT YtgemlapmjbgdkaaProg.lean LOADS. Nothing in Lean hashes anything: it is a label: what it is worth is what the hold of that sum in a sandbox is worth. -/
noncomputable def Try.pinned : Pinned := { name := "ytgemlapmjbgdkaa", sum := "4f38f78f05da9f61e24fab17f6b7eca6fd14d1c4403e7e089a3c89bdfdd5805b", checked := Try.checked }
namespace Rows
def none {H : Type} : Left H := { results := [], args := [] }

/-- 'ambrylaw01.FieldPuts': WHATEVER THE INPUT: true; the input reads as it did. -/
def fieldPutsSpec : ChangeSpec := { name := "fieldPuts", fn := fun _ => fun
  | [d1, d2, d3] => { results := [.lit (.bool true)], args := [d1, d2, d3] }
  | _ => none }
def fieldPutsRow : OpenClaim := { program := "ytgemlapmjbgdkaa", sum := "4f38f78f05da9f61e24fab17f6b7eca6fd14d1c4403e7e089a3c89bdfdd5805b", func := "ambry/ambrylaw01.FieldPuts", spec := "fieldPuts", apart := false }
def FieldPutsSaid : Prop := fieldPutsRow.holds Try.pinned (OpenSpec.ofChange fieldPutsSpec)

/-- ITS FALSE NEIGHBOUR: 'it returns false'. Refute it at one input. -/
def fieldPutsWrong : ChangeSpec := { name := "fieldPuts", fn := fun _ => fun
  | [d1, d2, d3] => { results := [.lit (.bool false)], args := [d1, d2, d3] }
  | _ => none }
def FieldPutsWrongFalsely : Prop := fieldPutsRow.holds Try.pinned (OpenSpec.ofChange fieldPutsWrong)

/-- 'ambrylaw01.FieldRows': WHATEVER THE INPUT: true; the input reads as it did. -/
def fieldRowsSpec : ChangeSpec := { name := "fieldRows", fn := fun _ => fun
  | [d1, d2, d3] => { results := [.lit (.bool true)], args := [d1, d2, d3] }
  | _ => none }
def fieldRowsRow : OpenClaim := { program := "ytgemlapmjbgdkaa", sum := "4f38f78f05da9f61e24fab17f6b7eca6fd14d1c4403e7e089a3c89bdfdd5805b", func := "ambry/ambrylaw01.FieldRows", spec := "fieldRows", apart := false }
def FieldRowsSaid : Prop := fieldRowsRow.holds Try.pinned (OpenSpec.ofChange fieldRowsSpec)

/-- ITS FALSE NEIGHBOUR: 'it returns false'. Refute it at one input. -/
def fieldRowsWrong : ChangeSpec := { name := "fieldRows", fn := fun _ => fun
  | [d1, d2, d3] => { results := [.lit (.bool false)], args := [d1, d2, d3] }
  | _ => none }
def FieldRowsWrongFalsely : Prop := fieldRowsRow.holds Try.pinned (OpenSpec.ofChange fieldRowsWrong)

/-- 'ambrylaw01.FieldReads': WHATEVER THE INPUT: true; the input reads as it did. -/
def fieldReadsSpec : ChangeSpec := { name := "fieldReads", fn := fun _ => fun
  | [d1, d2] => { results := [.lit (.bool true)], args := [d1, d2] }
  | _ => none }
def fieldReadsRow : OpenClaim := { program := "ytgemlapmjbgdkaa", sum := "4f38f78f05da9f61e24fab17f6b7eca6fd14d1c4403e7e089a3c89bdfdd5805b", func := "ambry/ambrylaw01.FieldReads", spec := "fieldReads", unfollowed := true, recurses := true, apart := false }
def FieldReadsSaid : Prop := fieldReadsRow.holds Try.pinned (OpenSpec.ofChange fieldReadsSpec)

/-- ITS FALSE NEIGHBOUR: 'it returns false'. Refute it at one input. -/
def fieldReadsWrong : ChangeSpec := { name := "fieldReads", fn := fun _ => fun
  | [d1, d2] => { results := [.lit (.bool false)], args := [d1, d2] }
  | _ => none }
def FieldReadsWrongFalsely : Prop := fieldReadsRow.holds Try.pinned (OpenSpec.ofChange fieldReadsWrong)

/-- 'ambrylaw01.FieldNil': WHATEVER THE INPUT: true; the input reads as it did. -/
def fieldNilSpec : ChangeSpec := { name := "fieldNil", fn := fun _ => fun
  | [d1, d2] => { results := [.lit (.bool true)], args := [d1, d2] }
  | _ => none }
def fieldNilRow : OpenClaim := { program := "ytgemlapmjbgdkaa", sum := "4f38f78f05da9f61e24fab17f6b7eca6fd14d1c4403e7e089a3c89bdfdd5805b", func := "ambry/ambrylaw01.FieldNil", spec := "fieldNil", unfollowed := true, recurses := true, apart := false }
def FieldNilSaid : Prop := fieldNilRow.holds Try.pinned (OpenSpec.ofChange fieldNilSpec)

/-- ITS FALSE NEIGHBOUR: 'it returns false'. Refute it at one input. -/
def fieldNilWrong : ChangeSpec := { name := "fieldNil", fn := fun _ => fun
  | [d1, d2] => { results := [.lit (.bool false)], args := [d1, d2] }
  | _ => none }
def FieldNilWrongFalsely : Prop := fieldNilRow.holds Try.pinned (OpenSpec.ofChange fieldNilWrong)

/-- 'ambrylaw01.FieldBack': WHATEVER THE INPUT: true; the input reads as it did. -/
def fieldBackSpec : ChangeSpec := { name := "fieldBack", fn := fun _ => fun
  | [d1, d2, d3] => { results := [.lit (.bool true)], args := [d1, d2, d3] }
  | _ => none }
def fieldBackRow : OpenClaim := { program := "ytgemlapmjbgdkaa", sum := "4f38f78f05da9f61e24fab17f6b7eca6fd14d1c4403e7e089a3c89bdfdd5805b", func := "ambry/ambrylaw01.FieldBack", spec := "fieldBack", unfollowed := true, recurses := true, apart := false }
def FieldBackSaid : Prop := fieldBackRow.holds Try.pinned (OpenSpec.ofChange fieldBackSpec)

/-- ITS FALSE NEIGHBOUR: 'it returns false'. Refute it at one input. -/
def fieldBackWrong : ChangeSpec := { name := "fieldBack", fn := fun _ => fun
  | [d1, d2, d3] => { results := [.lit (.bool false)], args := [d1, d2, d3] }
  | _ => none }
def FieldBackWrongFalsely : Prop := fieldBackRow.holds Try.pinned (OpenSpec.ofChange fieldBackWrong)

/-- 'ambrylaw01.FieldShort': WHATEVER THE INPUT: true; the input reads as it did. -/
def fieldShortSpec : ChangeSpec := { name := "fieldShort", fn := fun _ => fun
  | [d1, d2, d3, d4] => { results := [.lit (.bool true)], args := [d1, d2, d3, d4] }
  | _ => none }
def fieldShortRow : OpenClaim := { program := "ytgemlapmjbgdkaa", sum := "4f38f78f05da9f61e24fab17f6b7eca6fd14d1c4403e7e089a3c89bdfdd5805b", func := "ambry/ambrylaw01.FieldShort", spec := "fieldShort", unfollowed := true, recurses := true, apart := false }
def FieldShortSaid : Prop := fieldShortRow.holds Try.pinned (OpenSpec.ofChange fieldShortSpec)

/-- ITS FALSE NEIGHBOUR: 'it returns false'. Refute it at one input. -/
def fieldShortWrong : ChangeSpec := { name := "fieldShort", fn := fun _ => fun
  | [d1, d2, d3, d4] => { results := [.lit (.bool false)], args := [d1, d2, d3, d4] }
  | _ => none }
def FieldShortWrongFalsely : Prop := fieldShortRow.holds Try.pinned (OpenSpec.ofChange fieldShortWrong)

/- THE SECOND FORM. 'bulk': how many values and letters a reading holds, each counted each time it is reached (what is shared counts as often as it is met; a slice's spare places count too). A statement '..UptoSaid' is the law's where the arguments, and the package variables that the reading takes, are together of bulk at most 1048576: NARROWER than '..Said'. Prove '..Said' where nothing that the law and all that it calls make is longer than what came in: it says more and counts as full. Else prove '..UptoSaid'. A law counts once. -/
mutual
def uptoBulk {H : Type} : DataW H → Nat
  | .lit (.string bytes) => bytes.length + 1
  | .lit _ => 1
  | .nil => 1
  | .ptr d => uptoBulk d + 1
  | .slice elems spare => uptoBulkAll elems + uptoBulkAll spare + 1
  | .agg parts => uptoBulkAll parts + 1
  | .iface _ d => uptoBulk d + 1
  | .map entries => uptoBulkEntries entries + 1
  | .held _ => 1
def uptoBulkAll {H : Type} : List (DataW H) → Nat
  | [] => 0
  | d :: r => uptoBulk d + uptoBulkAll r
def uptoBulkEntries {H : Type} : List (Lit × DataW H) → Nat
  | [] => 0
  | x :: r => uptoBulkEntry x + uptoBulkEntries r
def uptoBulkEntry {H : Type} : Lit × DataW H → Nat
  | (.string bytes, d) => bytes.length + uptoBulk d + 1
  | (_, d) => uptoBulk d + 1
 end
def uptoSmall : (H : Type) → List (DataW H) → Bool := fun _ ds => decide (uptoBulkAll ds ≤ 1048576)
def OpenSpec.upto (s : _root_.Go.ChangeSpec) : _root_.Go.OpenSpec := { _root_.Go.OpenSpec.ofChange s with cond := some uptoSmall }

/-- 'ambrylaw01.FieldPuts', WHERE WHAT IT READS IS OF BULK AT MOST 1048576: true; the input reads as it did. -/
def fieldPutsUptoRow : OpenClaim := { program := "ytgemlapmjbgdkaa", sum := "4f38f78f05da9f61e24fab17f6b7eca6fd14d1c4403e7e089a3c89bdfdd5805b", func := "ambry/ambrylaw01.FieldPuts", spec := "fieldPuts", apart := false, narrowed := true }
def FieldPutsUptoSaid : Prop := fieldPutsUptoRow.holds Try.pinned (OpenSpec.upto fieldPutsSpec)

/-- 'ambrylaw01.FieldRows', WHERE WHAT IT READS IS OF BULK AT MOST 1048576: true; the input reads as it did. -/
def fieldRowsUptoRow : OpenClaim := { program := "ytgemlapmjbgdkaa", sum := "4f38f78f05da9f61e24fab17f6b7eca6fd14d1c4403e7e089a3c89bdfdd5805b", func := "ambry/ambrylaw01.FieldRows", spec := "fieldRows", apart := false, narrowed := true }
def FieldRowsUptoSaid : Prop := fieldRowsUptoRow.holds Try.pinned (OpenSpec.upto fieldRowsSpec)

/-- 'ambrylaw01.FieldReads', WHERE WHAT IT READS IS OF BULK AT MOST 1048576: true; the input reads as it did. -/
def fieldReadsUptoRow : OpenClaim := { program := "ytgemlapmjbgdkaa", sum := "4f38f78f05da9f61e24fab17f6b7eca6fd14d1c4403e7e089a3c89bdfdd5805b", func := "ambry/ambrylaw01.FieldReads", spec := "fieldReads", unfollowed := true, recurses := true, apart := false, narrowed := true }
def FieldReadsUptoSaid : Prop := fieldReadsUptoRow.holds Try.pinned (OpenSpec.upto fieldReadsSpec)

/-- 'ambrylaw01.FieldNil', WHERE WHAT IT READS IS OF BULK AT MOST 1048576: true; the input reads as it did. -/
def fieldNilUptoRow : OpenClaim := { program := "ytgemlapmjbgdkaa", sum := "4f38f78f05da9f61e24fab17f6b7eca6fd14d1c4403e7e089a3c89bdfdd5805b", func := "ambry/ambrylaw01.FieldNil", spec := "fieldNil", unfollowed := true, recurses := true, apart := false, narrowed := true }
def FieldNilUptoSaid : Prop := fieldNilUptoRow.holds Try.pinned (OpenSpec.upto fieldNilSpec)

/-- 'ambrylaw01.FieldBack', WHERE WHAT IT READS IS OF BULK AT MOST 1048576: true; the input reads as it did. -/
def fieldBackUptoRow : OpenClaim := { program := "ytgemlapmjbgdkaa", sum := "4f38f78f05da9f61e24fab17f6b7eca6fd14d1c4403e7e089a3c89bdfdd5805b", func := "ambry/ambrylaw01.FieldBack", spec := "fieldBack", unfollowed := true, recurses := true, apart := false, narrowed := true }
def FieldBackUptoSaid : Prop := fieldBackUptoRow.holds Try.pinned (OpenSpec.upto fieldBackSpec)

/-- 'ambrylaw01.FieldShort', WHERE WHAT IT READS IS OF BULK AT MOST 1048576: true; the input reads as it did. -/
def fieldShortUptoRow : OpenClaim := { program := "ytgemlapmjbgdkaa", sum := "4f38f78f05da9f61e24fab17f6b7eca6fd14d1c4403e7e089a3c89bdfdd5805b", func := "ambry/ambrylaw01.FieldShort", spec := "fieldShort", unfollowed := true, recurses := true, apart := false, narrowed := true }
def FieldShortUptoSaid : Prop := fieldShortUptoRow.holds Try.pinned (OpenSpec.upto fieldShortSpec)

end Rows
end Go.Proofs.Ytgemlapmjbgdkaa
