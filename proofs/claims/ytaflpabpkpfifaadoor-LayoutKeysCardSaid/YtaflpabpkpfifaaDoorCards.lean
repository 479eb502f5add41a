/-
  DERIVED. GIVEN WITH THE SEED: THE CARDS: each row of YtaflpabpkpfifaaDoorRows.lean that lists a variable, with what it lists TIED to the program's text (the seventh form; the later family's looks); each row that meets fmt, with fmt's text TOLD by the authors' own Lean function (tested against real Go, not proved from fmt's source: count such statements apart). THE CARD IS WHAT COUNTS. Prove the row's statement (the work); the ties are given (YtaflpabpkpfifaaDoorTie.lean); close each card by the builder's one call (the guide's Derived/Test/ToyasCard.lean, 'card_holds'). Laid BY PROGRAM, IN A SANDBOX (cutbox-door.mjs). By AI agents, Wed Nov 11 2026. No macro, syntax, notation, axiom, sorry.
-/
import Derived.Test.YtaflpabpkpfifaaDoorRows
import GoSem.ClaimSeven
namespace Go.Proofs.YtaflpabpkpfifaaDoor
namespace Rows

/-- THE TIED CARD OF 'ambrylaw21.LayoutKeys'. -/
def layoutKeysCard : Claim7 := { stood := { row := layoutKeysRow, standIns := [], harness := (true, "dc034d776f15475cd6d7914d8bcb68796ff8b628b4e6cdd18313978cdc0959b5"), looks := false }, kinds := [], alts := [], laidByText := true, laidKinds := [.data, .data, .data], laidTests := true, laidLooks := .later }
def LayoutKeysCardSaid : Prop := Claim7.holds Tryd.pinned (.plain (OpenSpec.ofChange layoutKeysSpec)) layoutKeysCard

/-- THE TIED CARD OF 'ambrylaw21.LayoutBack'. -/
def layoutBackCard : Claim7 := { stood := { row := layoutBackRow, standIns := [], harness := (true, "dc034d776f15475cd6d7914d8bcb68796ff8b628b4e6cdd18313978cdc0959b5"), looks := false }, kinds := [], alts := [], laidByText := true, laidKinds := [.data, .data, .data], laidTests := true, laidLooks := .later }
def LayoutBackCardSaid : Prop := Claim7.holds Tryd.pinned (.plain (OpenSpec.ofChange layoutBackSpec)) layoutBackCard

/-- THE TIED CARD OF 'ambrylaw21.LayoutSpans'. -/
def layoutSpansCard : Claim7 := { stood := { row := layoutSpansRow, standIns := [], harness := (true, "dc034d776f15475cd6d7914d8bcb68796ff8b628b4e6cdd18313978cdc0959b5"), looks := false }, kinds := [], alts := [], laidByText := true, laidKinds := [.data, .data, .data], laidTests := true, laidLooks := .later }
def LayoutSpansCardSaid : Prop := Claim7.holds Tryd.pinned (.plain (OpenSpec.ofChange layoutSpansSpec)) layoutSpansCard

/-- THE TIED CARD OF 'ambrylaw21.LayoutLatest'. -/
def layoutLatestCard : Claim7 := { stood := { row := layoutLatestRow, standIns := [], harness := (true, "dc034d776f15475cd6d7914d8bcb68796ff8b628b4e6cdd18313978cdc0959b5"), looks := false }, kinds := [], alts := [], laidByText := true, laidKinds := [.data, .data, .data], laidTests := true, laidLooks := .later }
def LayoutLatestCardSaid : Prop := Claim7.holds Tryd.pinned (.plain (OpenSpec.ofChange layoutLatestSpec)) layoutLatestCard

/-- THE TIED CARD OF 'ambrylaw21.LayoutHeads'. -/
def layoutHeadsCard : Claim7 := { stood := { row := layoutHeadsRow, standIns := [], harness := (true, "dc034d776f15475cd6d7914d8bcb68796ff8b628b4e6cdd18313978cdc0959b5"), looks := false }, kinds := [], alts := [], laidByText := true, laidKinds := [.data, .data, .data], laidTests := true, laidLooks := .later }
def LayoutHeadsCardSaid : Prop := Claim7.holds Tryd.pinned (.plain (OpenSpec.ofChange layoutHeadsSpec)) layoutHeadsCard

/-- THE SECOND FORM's CARD OF 'ambrylaw21.LayoutKeys'. -/
def layoutKeysUptoCard : Claim7 := { stood := { row := layoutKeysUptoRow, standIns := [], harness := (true, "dc034d776f15475cd6d7914d8bcb68796ff8b628b4e6cdd18313978cdc0959b5"), looks := false }, kinds := [], alts := [], laidByText := true, laidKinds := [.data, .data, .data], laidTests := true, laidLooks := .later }
def LayoutKeysUptoCardSaid : Prop := Claim7.holds Tryd.pinned (.plain (OpenSpec.upto layoutKeysSpec)) layoutKeysUptoCard

/-- THE SECOND FORM's CARD OF 'ambrylaw21.LayoutBack'. -/
def layoutBackUptoCard : Claim7 := { stood := { row := layoutBackUptoRow, standIns := [], harness := (true, "dc034d776f15475cd6d7914d8bcb68796ff8b628b4e6cdd18313978cdc0959b5"), looks := false }, kinds := [], alts := [], laidByText := true, laidKinds := [.data, .data, .data], laidTests := true, laidLooks := .later }
def LayoutBackUptoCardSaid : Prop := Claim7.holds Tryd.pinned (.plain (OpenSpec.upto layoutBackSpec)) layoutBackUptoCard

/-- THE SECOND FORM's CARD OF 'ambrylaw21.LayoutSpans'. -/
def layoutSpansUptoCard : Claim7 := { stood := { row := layoutSpansUptoRow, standIns := [], harness := (true, "dc034d776f15475cd6d7914d8bcb68796ff8b628b4e6cdd18313978cdc0959b5"), looks := false }, kinds := [], alts := [], laidByText := true, laidKinds := [.data, .data, .data], laidTests := true, laidLooks := .later }
def LayoutSpansUptoCardSaid : Prop := Claim7.holds Tryd.pinned (.plain (OpenSpec.upto layoutSpansSpec)) layoutSpansUptoCard

/-- THE SECOND FORM's CARD OF 'ambrylaw21.LayoutLatest'. -/
def layoutLatestUptoCard : Claim7 := { stood := { row := layoutLatestUptoRow, standIns := [], harness := (true, "dc034d776f15475cd6d7914d8bcb68796ff8b628b4e6cdd18313978cdc0959b5"), looks := false }, kinds := [], alts := [], laidByText := true, laidKinds := [.data, .data, .data], laidTests := true, laidLooks := .later }
def LayoutLatestUptoCardSaid : Prop := Claim7.holds Tryd.pinned (.plain (OpenSpec.upto layoutLatestSpec)) layoutLatestUptoCard

/-- THE SECOND FORM's CARD OF 'ambrylaw21.LayoutHeads'. -/
def layoutHeadsUptoCard : Claim7 := { stood := { row := layoutHeadsUptoRow, standIns := [], harness := (true, "dc034d776f15475cd6d7914d8bcb68796ff8b628b4e6cdd18313978cdc0959b5"), looks := false }, kinds := [], alts := [], laidByText := true, laidKinds := [.data, .data, .data], laidTests := true, laidLooks := .later }
def LayoutHeadsUptoCardSaid : Prop := Claim7.holds Tryd.pinned (.plain (OpenSpec.upto layoutHeadsSpec)) layoutHeadsUptoCard
end Rows
end Go.Proofs.YtaflpabpkpfifaaDoor
