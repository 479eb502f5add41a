/-
  No cell of these rows narrows 'for every input' (looked for: loops, veiled, ifaces, maps, wideKeys, modest, calm, conditions, laid).
  DERIVED. THE GIVEN ROWS OF THIS SEAT. 5 by the template 'for every input the law returns true; each argument reads behind the call as it read before'; 0 by the template 'total and deterministic' (their statements: YtgkiglodhhlnmaaTotals.lean).
  GIVEN WITH THE SEED: the statements are not yours to turn. If you find one false, say at which input.
  Laid BY PROGRAM, IN A SANDBOX (cutbox-rows.mjs): the forced cells as the released guide's own fill.sh prints them over the translation c7712f388ac2dc3e… (all of the seat's roots in one cut). By AI agents, Wed Nov 11 2026. No macro, syntax, notation, axiom, sorry.
-/
import Derived.Test.YtgkiglodhhlnmaaChecked
import GoSem.Claim
import GoSem.ClaimJoined
import GoSem.ClaimMapViews
import Derived.JoinedTies
import Derived.KernelRfl
namespace Go.Proofs.Ytgkiglodhhlnmaa
/- THE CELL 'sum', in the pinned program and in every row, IS THE sha256 OF THE DUMP (.gsa) THAT YtgkiglodhhlnmaaProg.lean LOADS. Nothing in Lean hashes anything: it is a label: what it is worth is what the hold of that sum in a sandbox is worth. -/
noncomputable def Try.pinned : Pinned := { name := "ytgkiglodhhlnmaa", sum := "c7712f388ac2dc3ec0cc6f4302a1c3a3d276762eaaaacd0c8fe81efca4fc6e15", checked := Try.checked }
namespace Rows
def none {H : Type} : Left H := { results := [], args := [] }

/-- 'ambrylaw04.BlockSure': WHATEVER THE INPUT: true; the input reads as it did. -/
def blockSureSpec : ChangeSpec := { name := "blockSure", fn := fun _ => fun
  | [d1, d2, d3, d4, d5] => { results := [.lit (.bool true)], args := [d1, d2, d3, d4, d5] }
  | _ => none }
def blockSureRow : OpenClaim := { program := "ytgkiglodhhlnmaa", sum := "c7712f388ac2dc3ec0cc6f4302a1c3a3d276762eaaaacd0c8fe81efca4fc6e15", func := "ambry/ambrylaw04.BlockSure", spec := "blockSure", unfollowed := true, recurses := true, apart := false }
def BlockSureSaid : Prop := blockSureRow.holds Try.pinned (OpenSpec.ofChange blockSureSpec)

/-- ITS FALSE NEIGHBOUR: 'it returns false'. Refute it at one input. -/
def blockSureWrong : ChangeSpec := { name := "blockSure", fn := fun _ => fun
  | [d1, d2, d3, d4, d5] => { results := [.lit (.bool false)], args := [d1, d2, d3, d4, d5] }
  | _ => none }
def BlockSureWrongFalsely : Prop := blockSureRow.holds Try.pinned (OpenSpec.ofChange blockSureWrong)

/-- 'ambrylaw04.BlockWhole': WHATEVER THE INPUT: true; the input reads as it did. -/
def blockWholeSpec : ChangeSpec := { name := "blockWhole", fn := fun _ => fun
  | [d1, d2, d3] => { results := [.lit (.bool true)], args := [d1, d2, d3] }
  | _ => none }
def blockWholeRow : OpenClaim := { program := "ytgkiglodhhlnmaa", sum := "c7712f388ac2dc3ec0cc6f4302a1c3a3d276762eaaaacd0c8fe81efca4fc6e15", func := "ambry/ambrylaw04.BlockWhole", spec := "blockWhole", unfollowed := true, recurses := true, apart := false }
def BlockWholeSaid : Prop := blockWholeRow.holds Try.pinned (OpenSpec.ofChange blockWholeSpec)

/-- ITS FALSE NEIGHBOUR: 'it returns false'. Refute it at one input. -/
def blockWholeWrong : ChangeSpec := { name := "blockWhole", fn := fun _ => fun
  | [d1, d2, d3] => { results := [.lit (.bool false)], args := [d1, d2, d3] }
  | _ => none }
def BlockWholeWrongFalsely : Prop := blockWholeRow.holds Try.pinned (OpenSpec.ofChange blockWholeWrong)

/-- 'ambrylaw04.BlockDead': WHATEVER THE INPUT: true; the input reads as it did. -/
def blockDeadSpec : ChangeSpec := { name := "blockDead", fn := fun _ => fun
  | [d1, d2, d3] => { results := [.lit (.bool true)], args := [d1, d2, d3] }
  | _ => none }
def blockDeadRow : OpenClaim := { program := "ytgkiglodhhlnmaa", sum := "c7712f388ac2dc3ec0cc6f4302a1c3a3d276762eaaaacd0c8fe81efca4fc6e15", func := "ambry/ambrylaw04.BlockDead", spec := "blockDead", unfollowed := true, recurses := true, apart := false }
def BlockDeadSaid : Prop := blockDeadRow.holds Try.pinned (OpenSpec.ofChange blockDeadSpec)

/-- ITS FALSE NEIGHBOUR: 'it returns false'. Refute it at one input. -/
def blockDeadWrong : ChangeSpec := { name := "blockDead", fn := fun _ => fun
  | [d1, d2, d3] => { results := [.lit (.bool false)], args := [d1, d2, d3] }
  | _ => none }
def BlockDeadWrongFalsely : Prop := blockDeadRow.holds Try.pinned (OpenSpec.ofChange blockDeadWrong)

/-- 'ambrylaw04.BlockPlays': WHATEVER THE INPUT: true; the input reads as it did. -/
def blockPlaysSpec : ChangeSpec := { name := "blockPlays", fn := fun _ => fun
  | [d1, d2, d3] => { results := [.lit (.bool true)], args := [d1, d2, d3] }
  | _ => none }
def blockPlaysRow : OpenClaim := { program := "ytgkiglodhhlnmaa", sum := "c7712f388ac2dc3ec0cc6f4302a1c3a3d276762eaaaacd0c8fe81efca4fc6e15", func := "ambry/ambrylaw04.BlockPlays", spec := "blockPlays", unfollowed := true, recurses := true, apart := false }
def BlockPlaysSaid : Prop := blockPlaysRow.holds Try.pinned (OpenSpec.ofChange blockPlaysSpec)

/-- ITS FALSE NEIGHBOUR: 'it returns false'. Refute it at one input. -/
def blockPlaysWrong : ChangeSpec := { name := "blockPlays", fn := fun _ => fun
  | [d1, d2, d3] => { results := [.lit (.bool false)], args := [d1, d2, d3] }
  | _ => none }
def BlockPlaysWrongFalsely : Prop := blockPlaysRow.holds Try.pinned (OpenSpec.ofChange blockPlaysWrong)

/-- 'ambrylaw04.BlockNil': WHATEVER THE INPUT: true; the input reads as it did. -/
def blockNilSpec : ChangeSpec := { name := "blockNil", fn := fun _ => fun
  | [d1, d2, d3, d4] => { results := [.lit (.bool true)], args := [d1, d2, d3, d4] }
  | _ => none }
def blockNilRow : OpenClaim := { program := "ytgkiglodhhlnmaa", sum := "c7712f388ac2dc3ec0cc6f4302a1c3a3d276762eaaaacd0c8fe81efca4fc6e15", func := "ambry/ambrylaw04.BlockNil", spec := "blockNil", unfollowed := true, recurses := true, apart := false }
def BlockNilSaid : Prop := blockNilRow.holds Try.pinned (OpenSpec.ofChange blockNilSpec)

/-- ITS FALSE NEIGHBOUR: 'it returns false'. Refute it at one input. -/
def blockNilWrong : ChangeSpec := { name := "blockNil", fn := fun _ => fun
  | [d1, d2, d3, d4] => { results := [.lit (.bool false)], args := [d1, d2, d3, d4] }
  | _ => none }
def BlockNilWrongFalsely : Prop := blockNilRow.holds Try.pinned (OpenSpec.ofChange blockNilWrong)

/- THE SECOND FORM. 'bulk': how many values and letters a reading holds, each counted each time it is reached (what is shared counts as often as it is met; a slice's spare places count too). A statement '..UptoSaid' is the law's where the arguments, and the package variables that the reading takes, are together of bulk at most 1048576: NARROWER than '..Said'. Prove '..Said' where nothing that the law and all that it calls make is longer than what came in: it says more and counts as full. Else prove '..UptoSaid'. A law counts once. -/
mutual
def uptoBulk {H : Type} : DataW H → Nat
  | .lit (.string bytes) => bytes.length + 1
  | .lit _ => 1
  | .nil => 1
  | .ptr d => uptoBulk d + 1
  | .slice elems spare => uptoBulkAll elems + uptoBulkAll spare + 1
  | .agg parts => uptoBulkAll parts + 1
  | .iface _ d => uptoBulk d + 1
  | .map entries => uptoBulkEntries entries + 1
  | .held _ => 1
def uptoBulkAll {H : Type} : List (DataW H) → Nat
  | [] => 0
  | d :: r => uptoBulk d + uptoBulkAll r
def uptoBulkEntries {H : Type} : List (Lit × DataW H) → Nat
  | [] => 0
  | x :: r => uptoBulkEntry x + uptoBulkEntries r
def uptoBulkEntry {H : Type} : Lit × DataW H → Nat
  | (.string bytes, d) => bytes.length + uptoBulk d + 1
  | (_, d) => uptoBulk d + 1
 end
def uptoSmall : (H : Type) → List (DataW H) → Bool := fun _ ds => decide (uptoBulkAll ds ≤ 1048576)
def OpenSpec.upto (s : _root_.Go.ChangeSpec) : _root_.Go.OpenSpec := { _root_.Go.OpenSpec.ofChange s with cond := some uptoSmall }

/-- 'ambrylaw04.BlockSure', WHERE WHAT IT READS IS OF BULK AT MOST 1048576: true; the input reads as it did. -/
def blockSureUptoRow : OpenClaim := { program := "ytgkiglodhhlnmaa", sum := "c7712f388ac2dc3ec0cc6f4302a1c3a3d276762eaaaacd0c8fe81efca4fc6e15", func := "ambry/ambrylaw04.BlockSure", spec := "blockSure", unfollowed := true, recurses := true, apart := false, narrowed := true }
def BlockSureUptoSaid : Prop := blockSureUptoRow.holds Try.pinned (OpenSpec.upto blockSureSpec)

/-- 'ambrylaw04.BlockWhole', WHERE WHAT IT READS IS OF BULK AT MOST 1048576: true; the input reads as it did. -/
def blockWholeUptoRow : OpenClaim := { program := "ytgkiglodhhlnmaa", sum := "c7712f388ac2dc3ec0cc6f4302a1c3a3d276762eaaaacd0c8fe81efca4fc6e15", func := "ambry/ambrylaw04.BlockWhole", spec := "blockWhole", unfollowed := true, recurses := true, apart := false, narrowed := true }
def BlockWholeUptoSaid : Prop := blockWholeUptoRow.holds Try.pinned (OpenSpec.upto blockWholeSpec)

/-- 'ambrylaw04.BlockDead', WHERE WHAT IT READS IS OF BULK AT MOST 1048576: true; the input reads as it did. -/
def blockDeadUptoRow : OpenClaim := { program := "ytgkiglodhhlnmaa", sum := "c7712f388ac2dc3ec0cc6f4302a1c3a3d276762eaaaacd0c8fe81efca4fc6e15", func := "ambry/ambrylaw04.BlockDead", spec := "blockDead", unfollowed := true, recurses := true, apart := false, narrowed := true }
def BlockDeadUptoSaid : Prop := blockDeadUptoRow.holds Try.pinned (OpenSpec.upto blockDeadSpec)

/-- 'ambrylaw04.BlockPlays', WHERE WHAT IT READS IS OF BULK AT MOST 1048576: true; the input reads as it did. -/
def blockPlaysUptoRow : OpenClaim := { program := "ytgkiglodhhlnmaa", sum := "c7712f388ac2dc3ec0cc6f4302a1c3a3d276762eaaaacd0c8fe81efca4fc6e15", func := "ambry/ambrylaw04.BlockPlays", spec := "blockPlays", unfollowed := true, recurses := true, apart := false, narrowed := true }
def BlockPlaysUptoSaid : Prop := blockPlaysUptoRow.holds Try.pinned (OpenSpec.upto blockPlaysSpec)

/-- 'ambrylaw04.BlockNil', WHERE WHAT IT READS IS OF BULK AT MOST 1048576: true; the input reads as it did. -/
def blockNilUptoRow : OpenClaim := { program := "ytgkiglodhhlnmaa", sum := "c7712f388ac2dc3ec0cc6f4302a1c3a3d276762eaaaacd0c8fe81efca4fc6e15", func := "ambry/ambrylaw04.BlockNil", spec := "blockNil", unfollowed := true, recurses := true, apart := false, narrowed := true }
def BlockNilUptoSaid : Prop := blockNilUptoRow.holds Try.pinned (OpenSpec.upto blockNilSpec)

end Rows
end Go.Proofs.Ytgkiglodhhlnmaa
