/-
  No cell of these rows narrows 'for every input' (looked for: loops, veiled, ifaces, maps, wideKeys, modest, calm, conditions, laid).
  DERIVED. THE GIVEN ROWS OF THIS SEAT. 4 by the template 'for every input the law returns true; each argument reads behind the call as it read before'; 0 by the template 'total and deterministic' (their statements: YtphdclafeijpnaaTotals.lean).
  GIVEN WITH THE SEED: the statements are not yours to turn. If you find one false, say at which input.
  Laid BY PROGRAM, IN A SANDBOX (cutbox-rows.mjs): the forced cells as the released guide's own fill.sh prints them over the translation ef705878352b4545… (all of the seat's roots in one cut). By AI agents, Wed Nov 11 2026. No macro, syntax, notation, axiom, sorry.
-/
import Derived.Test.YtphdclafeijpnaaChecked
import GoSem.Claim
import GoSem.ClaimJoined
import GoSem.ClaimMapViews
import Derived.JoinedTies
import Derived.KernelRfl
namespace Go.Proofs.Ytphdclafeijpnaa
/- THE CELL 'sum', in the pinned program and in every row, IS THE sha256 OF THE DUMP (.gsa) THAT YtphdclafeijpnaaProg.lean LOADS. Nothing in Lean hashes anything: it is a label: what it is worth is what the hold of that sum in a sandbox is worth. -/
noncomputable def Try.pinned : Pinned := { name := "ytphdclafeijpnaa", sum := "ef705878352b45455d614de5f9351b96978555f6292594299c7b0c79c44130de", checked := Try.checked }
namespace Rows
def none {H : Type} : Left H := { results := [], args := [] }

/-- 'ambrylaw20.ListingPages': WHATEVER THE INPUT: true; the input reads as it did. -/
def listingPagesSpec : ChangeSpec := { name := "listingPages", fn := fun _ => fun
  | [d1, d2, d3, d4, d5] => { results := [.lit (.bool true)], args := [d1, d2, d3, d4, d5] }
  | _ => none }
def listingPagesRow : OpenClaim := { program := "ytphdclafeijpnaa", sum := "ef705878352b45455d614de5f9351b96978555f6292594299c7b0c79c44130de", func := "ambry/ambrylaw20.ListingPages", spec := "listingPages", inPlace := ["internal/bytealg.IndexByteString", "internal/bytealg.IndexString"], unfollowed := true, recurses := true, named := ["internal/bytealg.MaxLen"], apart := false }
def ListingPagesSaid : Prop := listingPagesRow.holds Try.pinned (OpenSpec.ofChange listingPagesSpec)

/-- ITS FALSE NEIGHBOUR: 'it returns false'. Refute it at one input. -/
def listingPagesWrong : ChangeSpec := { name := "listingPages", fn := fun _ => fun
  | [d1, d2, d3, d4, d5] => { results := [.lit (.bool false)], args := [d1, d2, d3, d4, d5] }
  | _ => none }
def ListingPagesWrongFalsely : Prop := listingPagesRow.holds Try.pinned (OpenSpec.ofChange listingPagesWrong)

/-- 'ambrylaw20.ListingWhole': WHATEVER THE INPUT: true; the input reads as it did. -/
def listingWholeSpec : ChangeSpec := { name := "listingWhole", fn := fun _ => fun
  | [d1, d2, d3, d4] => { results := [.lit (.bool true)], args := [d1, d2, d3, d4] }
  | _ => none }
def listingWholeRow : OpenClaim := { program := "ytphdclafeijpnaa", sum := "ef705878352b45455d614de5f9351b96978555f6292594299c7b0c79c44130de", func := "ambry/ambrylaw20.ListingWhole", spec := "listingWhole", inPlace := ["internal/bytealg.IndexByteString", "internal/bytealg.IndexString"], unfollowed := true, recurses := true, named := ["internal/bytealg.MaxLen"], apart := false }
def ListingWholeSaid : Prop := listingWholeRow.holds Try.pinned (OpenSpec.ofChange listingWholeSpec)

/-- ITS FALSE NEIGHBOUR: 'it returns false'. Refute it at one input. -/
def listingWholeWrong : ChangeSpec := { name := "listingWhole", fn := fun _ => fun
  | [d1, d2, d3, d4] => { results := [.lit (.bool false)], args := [d1, d2, d3, d4] }
  | _ => none }
def ListingWholeWrongFalsely : Prop := listingWholeRow.holds Try.pinned (OpenSpec.ofChange listingWholeWrong)

/-- 'ambrylaw20.ListingEach': WHATEVER THE INPUT: true; the input reads as it did. -/
def listingEachSpec : ChangeSpec := { name := "listingEach", fn := fun _ => fun
  | [d1, d2, d3] => { results := [.lit (.bool true)], args := [d1, d2, d3] }
  | _ => none }
def listingEachRow : OpenClaim := { program := "ytphdclafeijpnaa", sum := "ef705878352b45455d614de5f9351b96978555f6292594299c7b0c79c44130de", func := "ambry/ambrylaw20.ListingEach", spec := "listingEach", inPlace := ["internal/bytealg.IndexByteString", "internal/bytealg.IndexString"], unfollowed := true, recurses := true, named := ["internal/bytealg.MaxLen"], apart := false }
def ListingEachSaid : Prop := listingEachRow.holds Try.pinned (OpenSpec.ofChange listingEachSpec)

/-- ITS FALSE NEIGHBOUR: 'it returns false'. Refute it at one input. -/
def listingEachWrong : ChangeSpec := { name := "listingEach", fn := fun _ => fun
  | [d1, d2, d3] => { results := [.lit (.bool false)], args := [d1, d2, d3] }
  | _ => none }
def ListingEachWrongFalsely : Prop := listingEachRow.holds Try.pinned (OpenSpec.ofChange listingEachWrong)

/-- 'ambrylaw20.ListingNames': WHATEVER THE INPUT: true; the input reads as it did. -/
def listingNamesSpec : ChangeSpec := { name := "listingNames", fn := fun _ => fun
  | [d1, d2, d3, d4, d5] => { results := [.lit (.bool true)], args := [d1, d2, d3, d4, d5] }
  | _ => none }
def listingNamesRow : OpenClaim := { program := "ytphdclafeijpnaa", sum := "ef705878352b45455d614de5f9351b96978555f6292594299c7b0c79c44130de", func := "ambry/ambrylaw20.ListingNames", spec := "listingNames", inPlace := ["internal/bytealg.IndexByteString", "internal/bytealg.IndexString"], unfollowed := true, recurses := true, named := ["internal/bytealg.MaxLen"], apart := false }
def ListingNamesSaid : Prop := listingNamesRow.holds Try.pinned (OpenSpec.ofChange listingNamesSpec)

/-- ITS FALSE NEIGHBOUR: 'it returns false'. Refute it at one input. -/
def listingNamesWrong : ChangeSpec := { name := "listingNames", fn := fun _ => fun
  | [d1, d2, d3, d4, d5] => { results := [.lit (.bool false)], args := [d1, d2, d3, d4, d5] }
  | _ => none }
def ListingNamesWrongFalsely : Prop := listingNamesRow.holds Try.pinned (OpenSpec.ofChange listingNamesWrong)

/- THE SECOND FORM. 'bulk': how many values and letters a reading holds, each counted each time it is reached (what is shared counts as often as it is met; a slice's spare places count too). A statement '..UptoSaid' is the law's where the arguments, and the package variables that the reading takes, are together of bulk at most 1048576: NARROWER than '..Said'. Prove '..Said' where nothing that the law and all that it calls make is longer than what came in: it says more and counts as full. Else prove '..UptoSaid'. A law counts once. -/
mutual
def uptoBulk {H : Type} : DataW H → Nat
  | .lit (.string bytes) => bytes.length + 1
  | .lit _ => 1
  | .nil => 1
  | .ptr d => uptoBulk d + 1
  | .slice elems spare => uptoBulkAll elems + uptoBulkAll spare + 1
  | .agg parts => uptoBulkAll parts + 1
  | .iface _ d => uptoBulk d + 1
  | .map entries => uptoBulkEntries entries + 1
  | .held _ => 1
def uptoBulkAll {H : Type} : List (DataW H) → Nat
  | [] => 0
  | d :: r => uptoBulk d + uptoBulkAll r
def uptoBulkEntries {H : Type} : List (Lit × DataW H) → Nat
  | [] => 0
  | x :: r => uptoBulkEntry x + uptoBulkEntries r
def uptoBulkEntry {H : Type} : Lit × DataW H → Nat
  | (.string bytes, d) => bytes.length + uptoBulk d + 1
  | (_, d) => uptoBulk d + 1
 end
def uptoSmall : (H : Type) → List (DataW H) → Bool := fun _ ds => decide (uptoBulkAll ds ≤ 1048576)
def OpenSpec.upto (s : _root_.Go.ChangeSpec) : _root_.Go.OpenSpec := { _root_.Go.OpenSpec.ofChange s with cond := some uptoSmall }

/-- 'ambrylaw20.ListingPages', WHERE WHAT IT READS IS OF BULK AT MOST 1048576: true; the input reads as it did. -/
def listingPagesUptoRow : OpenClaim := { program := "ytphdclafeijpnaa", sum := "ef705878352b45455d614de5f9351b96978555f6292594299c7b0c79c44130de", func := "ambry/ambrylaw20.ListingPages", spec := "listingPages", inPlace := ["internal/bytealg.IndexByteString", "internal/bytealg.IndexString"], unfollowed := true, recurses := true, named := ["internal/bytealg.MaxLen"], apart := false, narrowed := true }
def ListingPagesUptoSaid : Prop := listingPagesUptoRow.holds Try.pinned (OpenSpec.upto listingPagesSpec)

/-- 'ambrylaw20.ListingWhole', WHERE WHAT IT READS IS OF BULK AT MOST 1048576: true; the input reads as it did. -/
def listingWholeUptoRow : OpenClaim := { program := "ytphdclafeijpnaa", sum := "ef705878352b45455d614de5f9351b96978555f6292594299c7b0c79c44130de", func := "ambry/ambrylaw20.ListingWhole", spec := "listingWhole", inPlace := ["internal/bytealg.IndexByteString", "internal/bytealg.IndexString"], unfollowed := true, recurses := true, named := ["internal/bytealg.MaxLen"], apart := false, narrowed := true }
def ListingWholeUptoSaid : Prop := listingWholeUptoRow.holds Try.pinned (OpenSpec.upto listingWholeSpec)

/-- 'ambrylaw20.ListingEach', WHERE WHAT IT READS IS OF BULK AT MOST 1048576: true; the input reads as it did. -/
def listingEachUptoRow : OpenClaim := { program := "ytphdclafeijpnaa", sum := "ef705878352b45455d614de5f9351b96978555f6292594299c7b0c79c44130de", func := "ambry/ambrylaw20.ListingEach", spec := "listingEach", inPlace := ["internal/bytealg.IndexByteString", "internal/bytealg.IndexString"], unfollowed := true, recurses := true, named := ["internal/bytealg.MaxLen"], apart := false, narrowed := true }
def ListingEachUptoSaid : Prop := listingEachUptoRow.holds Try.pinned (OpenSpec.upto listingEachSpec)

/-- 'ambrylaw20.ListingNames', WHERE WHAT IT READS IS OF BULK AT MOST 1048576: true; the input reads as it did. -/
def listingNamesUptoRow : OpenClaim := { program := "ytphdclafeijpnaa", sum := "ef705878352b45455d614de5f9351b96978555f6292594299c7b0c79c44130de", func := "ambry/ambrylaw20.ListingNames", spec := "listingNames", inPlace := ["internal/bytealg.IndexByteString", "internal/bytealg.IndexString"], unfollowed := true, recurses := true, named := ["internal/bytealg.MaxLen"], apart := false, narrowed := true }
def ListingNamesUptoSaid : Prop := listingNamesUptoRow.holds Try.pinned (OpenSpec.upto listingNamesSpec)

end Rows
end Go.Proofs.Ytphdclafeijpnaa
