/-
  No cell of these rows narrows 'for every input' (looked for: loops, veiled, ifaces, maps, wideKeys, modest, calm, conditions, laid).
  DERIVED. THE GIVEN ROWS OF THIS SEAT. 6 by the template 'for every input the law returns true; each argument reads behind the call as it read before'; 0 by the template 'total and deterministic' (their statements: YtiadbijholnbjaaTotals.lean).
  GIVEN WITH THE SEED: the statements are not yours to turn. If you find one false, say at which input.
  Laid BY PROGRAM, IN A SANDBOX (cutbox-rows.mjs): the forced cells as the released guide's own fill.sh prints them over the translation 7dc6becd5013fb6e… (all of the seat's roots in one cut). By AI agents, Wed Nov 11 2026. No macro, syntax, notation, axiom, sorry.
-/
import Derived.Test.YtiadbijholnbjaaChecked
import GoSem.Claim
import GoSem.ClaimJoined
import GoSem.ClaimMapViews
import Derived.JoinedTies
import Derived.KernelRfl
namespace Go.Proofs.Ytiadbijholnbjaa
/- THE CELL 'sum', in the pinned program and in every row, IS THE sha256 OF THE DUMP (.gsa) THAT YtiadbijholnbjaaProg.lean LOADS. Nothing in Lean hashes anything: it is a label: what it is worth is what the hold of that sum in a sandbox is worth. -/
noncomputable def Try.pinned : Pinned := { name := "ytiadbijholnbjaa", sum := "7dc6becd5013fb6eec2a391f6d561c7ddeca12f41ad6ab16b969631042535fa7", checked := Try.checked }
namespace Rows
def none {H : Type} : Left H := { results := [], args := [] }

/-- 'ambrylaw05.SlotCuts': WHATEVER THE INPUT: true; the input reads as it did. -/
def slotCutsSpec : ChangeSpec := { name := "slotCuts", fn := fun _ => fun
  | [d1, d2, d3] => { results := [.lit (.bool true)], args := [d1, d2, d3] }
  | _ => none }
def slotCutsRow : OpenClaim := { program := "ytiadbijholnbjaa", sum := "7dc6becd5013fb6eec2a391f6d561c7ddeca12f41ad6ab16b969631042535fa7", func := "ambry/ambrylaw05.SlotCuts", spec := "slotCuts", unfollowed := true, recurses := true, apart := false }
def SlotCutsSaid : Prop := slotCutsRow.holds Try.pinned (OpenSpec.ofChange slotCutsSpec)

/-- ITS FALSE NEIGHBOUR: 'it returns false'. Refute it at one input. -/
def slotCutsWrong : ChangeSpec := { name := "slotCuts", fn := fun _ => fun
  | [d1, d2, d3] => { results := [.lit (.bool false)], args := [d1, d2, d3] }
  | _ => none }
def SlotCutsWrongFalsely : Prop := slotCutsRow.holds Try.pinned (OpenSpec.ofChange slotCutsWrong)

/-- 'ambrylaw05.SlotWhole': WHATEVER THE INPUT: true; the input reads as it did. -/
def slotWholeSpec : ChangeSpec := { name := "slotWhole", fn := fun _ => fun
  | [d1, d2, d3, d4] => { results := [.lit (.bool true)], args := [d1, d2, d3, d4] }
  | _ => none }
def slotWholeRow : OpenClaim := { program := "ytiadbijholnbjaa", sum := "7dc6becd5013fb6eec2a391f6d561c7ddeca12f41ad6ab16b969631042535fa7", func := "ambry/ambrylaw05.SlotWhole", spec := "slotWhole", unfollowed := true, recurses := true, apart := false }
def SlotWholeSaid : Prop := slotWholeRow.holds Try.pinned (OpenSpec.ofChange slotWholeSpec)

/-- ITS FALSE NEIGHBOUR: 'it returns false'. Refute it at one input. -/
def slotWholeWrong : ChangeSpec := { name := "slotWhole", fn := fun _ => fun
  | [d1, d2, d3, d4] => { results := [.lit (.bool false)], args := [d1, d2, d3, d4] }
  | _ => none }
def SlotWholeWrongFalsely : Prop := slotWholeRow.holds Try.pinned (OpenSpec.ofChange slotWholeWrong)

/-- 'ambrylaw05.SlotElder': WHATEVER THE INPUT: true; the input reads as it did. -/
def slotElderSpec : ChangeSpec := { name := "slotElder", fn := fun _ => fun
  | [d1, d2, d3, d4, d5] => { results := [.lit (.bool true)], args := [d1, d2, d3, d4, d5] }
  | _ => none }
def slotElderRow : OpenClaim := { program := "ytiadbijholnbjaa", sum := "7dc6becd5013fb6eec2a391f6d561c7ddeca12f41ad6ab16b969631042535fa7", func := "ambry/ambrylaw05.SlotElder", spec := "slotElder", unfollowed := true, recurses := true, apart := false }
def SlotElderSaid : Prop := slotElderRow.holds Try.pinned (OpenSpec.ofChange slotElderSpec)

/-- ITS FALSE NEIGHBOUR: 'it returns false'. Refute it at one input. -/
def slotElderWrong : ChangeSpec := { name := "slotElder", fn := fun _ => fun
  | [d1, d2, d3, d4, d5] => { results := [.lit (.bool false)], args := [d1, d2, d3, d4, d5] }
  | _ => none }
def SlotElderWrongFalsely : Prop := slotElderRow.holds Try.pinned (OpenSpec.ofChange slotElderWrong)

/-- 'ambrylaw05.SlotWrites': WHATEVER THE INPUT: true; the input reads as it did. -/
def slotWritesSpec : ChangeSpec := { name := "slotWrites", fn := fun _ => fun
  | [d] => { results := [.lit (.bool true)], args := [d] }
  | _ => none }
def slotWritesRow : OpenClaim := { program := "ytiadbijholnbjaa", sum := "7dc6becd5013fb6eec2a391f6d561c7ddeca12f41ad6ab16b969631042535fa7", func := "ambry/ambrylaw05.SlotWrites", spec := "slotWrites", unfollowed := true, recurses := true, apart := false }
def SlotWritesSaid : Prop := slotWritesRow.holds Try.pinned (OpenSpec.ofChange slotWritesSpec)

/-- ITS FALSE NEIGHBOUR: 'it returns false'. Refute it at one input. -/
def slotWritesWrong : ChangeSpec := { name := "slotWrites", fn := fun _ => fun
  | [d] => { results := [.lit (.bool false)], args := [d] }
  | _ => none }
def SlotWritesWrongFalsely : Prop := slotWritesRow.holds Try.pinned (OpenSpec.ofChange slotWritesWrong)

/-- 'ambrylaw05.SlotReads': WHATEVER THE INPUT: true; the input reads as it did. -/
def slotReadsSpec : ChangeSpec := { name := "slotReads", fn := fun _ => fun
  | [d] => { results := [.lit (.bool true)], args := [d] }
  | _ => none }
def slotReadsRow : OpenClaim := { program := "ytiadbijholnbjaa", sum := "7dc6becd5013fb6eec2a391f6d561c7ddeca12f41ad6ab16b969631042535fa7", func := "ambry/ambrylaw05.SlotReads", spec := "slotReads", unfollowed := true, recurses := true, apart := false }
def SlotReadsSaid : Prop := slotReadsRow.holds Try.pinned (OpenSpec.ofChange slotReadsSpec)

/-- ITS FALSE NEIGHBOUR: 'it returns false'. Refute it at one input. -/
def slotReadsWrong : ChangeSpec := { name := "slotReads", fn := fun _ => fun
  | [d] => { results := [.lit (.bool false)], args := [d] }
  | _ => none }
def SlotReadsWrongFalsely : Prop := slotReadsRow.holds Try.pinned (OpenSpec.ofChange slotReadsWrong)

/-- 'ambrylaw05.SlotBack': WHATEVER THE INPUT: true; the input reads as it did. -/
def slotBackSpec : ChangeSpec := { name := "slotBack", fn := fun _ => fun
  | [d1, d2] => { results := [.lit (.bool true)], args := [d1, d2] }
  | _ => none }
def slotBackRow : OpenClaim := { program := "ytiadbijholnbjaa", sum := "7dc6becd5013fb6eec2a391f6d561c7ddeca12f41ad6ab16b969631042535fa7", func := "ambry/ambrylaw05.SlotBack", spec := "slotBack", unfollowed := true, recurses := true, apart := false }
def SlotBackSaid : Prop := slotBackRow.holds Try.pinned (OpenSpec.ofChange slotBackSpec)

/-- ITS FALSE NEIGHBOUR: 'it returns false'. Refute it at one input. -/
def slotBackWrong : ChangeSpec := { name := "slotBack", fn := fun _ => fun
  | [d1, d2] => { results := [.lit (.bool false)], args := [d1, d2] }
  | _ => none }
def SlotBackWrongFalsely : Prop := slotBackRow.holds Try.pinned (OpenSpec.ofChange slotBackWrong)

/- THE SECOND FORM. 'bulk': how many values and letters a reading holds, each counted each time it is reached (what is shared counts as often as it is met; a slice's spare places count too). A statement '..UptoSaid' is the law's where the arguments, and the package variables that the reading takes, are together of bulk at most 1048576: NARROWER than '..Said'. Prove '..Said' where nothing that the law and all that it calls make is longer than what came in: it says more and counts as full. Else prove '..UptoSaid'. A law counts once. -/
mutual
def uptoBulk {H : Type} : DataW H → Nat
  | .lit (.string bytes) => bytes.length + 1
  | .lit _ => 1
  | .nil => 1
  | .ptr d => uptoBulk d + 1
  | .slice elems spare => uptoBulkAll elems + uptoBulkAll spare + 1
  | .agg parts => uptoBulkAll parts + 1
  | .iface _ d => uptoBulk d + 1
  | .map entries => uptoBulkEntries entries + 1
  | .held _ => 1
def uptoBulkAll {H : Type} : List (DataW H) → Nat
  | [] => 0
  | d :: r => uptoBulk d + uptoBulkAll r
def uptoBulkEntries {H : Type} : List (Lit × DataW H) → Nat
  | [] => 0
  | x :: r => uptoBulkEntry x + uptoBulkEntries r
def uptoBulkEntry {H : Type} : Lit × DataW H → Nat
  | (.string bytes, d) => bytes.length + uptoBulk d + 1
  | (_, d) => uptoBulk d + 1
 end
def uptoSmall : (H : Type) → List (DataW H) → Bool := fun _ ds => decide (uptoBulkAll ds ≤ 1048576)
def OpenSpec.upto (s : _root_.Go.ChangeSpec) : _root_.Go.OpenSpec := { _root_.Go.OpenSpec.ofChange s with cond := some uptoSmall }

/-- 'ambrylaw05.SlotCuts', WHERE WHAT IT READS IS OF BULK AT MOST 1048576: true; the input reads as it did. -/
def slotCutsUptoRow : OpenClaim := { program := "ytiadbijholnbjaa", sum := "7dc6becd5013fb6eec2a391f6d561c7ddeca12f41ad6ab16b969631042535fa7", func := "ambry/ambrylaw05.SlotCuts", spec := "slotCuts", unfollowed := true, recurses := true, apart := false, narrowed := true }
def SlotCutsUptoSaid : Prop := slotCutsUptoRow.holds Try.pinned (OpenSpec.upto slotCutsSpec)

/-- 'ambrylaw05.SlotWhole', WHERE WHAT IT READS IS OF BULK AT MOST 1048576: true; the input reads as it did. -/
def slotWholeUptoRow : OpenClaim := { program := "ytiadbijholnbjaa", sum := "7dc6becd5013fb6eec2a391f6d561c7ddeca12f41ad6ab16b969631042535fa7", func := "ambry/ambrylaw05.SlotWhole", spec := "slotWhole", unfollowed := true, recurses := true, apart := false, narrowed := true }
def SlotWholeUptoSaid : Prop := slotWholeUptoRow.holds Try.pinned (OpenSpec.upto slotWholeSpec)

/-- 'ambrylaw05.SlotElder', WHERE WHAT IT READS IS OF BULK AT MOST 1048576: true; the input reads as it did. -/
def slotElderUptoRow : OpenClaim := { program := "ytiadbijholnbjaa", sum := "7dc6becd5013fb6eec2a391f6d561c7ddeca12f41ad6ab16b969631042535fa7", func := "ambry/ambrylaw05.SlotElder", spec := "slotElder", unfollowed := true, recurses := true, apart := false, narrowed := true }
def SlotElderUptoSaid : Prop := slotElderUptoRow.holds Try.pinned (OpenSpec.upto slotElderSpec)

/-- 'ambrylaw05.SlotWrites', WHERE WHAT IT READS IS OF BULK AT MOST 1048576: true; the input reads as it did. -/
def slotWritesUptoRow : OpenClaim := { program := "ytiadbijholnbjaa", sum := "7dc6becd5013fb6eec2a391f6d561c7ddeca12f41ad6ab16b969631042535fa7", func := "ambry/ambrylaw05.SlotWrites", spec := "slotWrites", unfollowed := true, recurses := true, apart := false, narrowed := true }
def SlotWritesUptoSaid : Prop := slotWritesUptoRow.holds Try.pinned (OpenSpec.upto slotWritesSpec)

/-- 'ambrylaw05.SlotReads', WHERE WHAT IT READS IS OF BULK AT MOST 1048576: true; the input reads as it did. -/
def slotReadsUptoRow : OpenClaim := { program := "ytiadbijholnbjaa", sum := "7dc6becd5013fb6eec2a391f6d561c7ddeca12f41ad6ab16b969631042535fa7", func := "ambry/ambrylaw05.SlotReads", spec := "slotReads", unfollowed := true, recurses := true, apart := false, narrowed := true }
def SlotReadsUptoSaid : Prop := slotReadsUptoRow.holds Try.pinned (OpenSpec.upto slotReadsSpec)

/-- 'ambrylaw05.SlotBack', WHERE WHAT IT READS IS OF BULK AT MOST 1048576: true; the input reads as it did. -/
def slotBackUptoRow : OpenClaim := { program := "ytiadbijholnbjaa", sum := "7dc6becd5013fb6eec2a391f6d561c7ddeca12f41ad6ab16b969631042535fa7", func := "ambry/ambrylaw05.SlotBack", spec := "slotBack", unfollowed := true, recurses := true, apart := false, narrowed := true }
def SlotBackUptoSaid : Prop := slotBackUptoRow.holds Try.pinned (OpenSpec.upto slotBackSpec)

end Rows
end Go.Proofs.Ytiadbijholnbjaa
