/-
  DERIVED. GIVEN WITH THE SEED: THE CARDS: each row of YtldppmjjgljinaaGreatDoorRows.lean that lists a variable, with what it lists TIED to the program's text (the seventh form; the later family's looks); each row that meets fmt, with fmt's text TOLD by the authors' own Lean function (tested against real Go, not proved from fmt's source: count such statements apart). THE CARD IS WHAT COUNTS. Prove the row's statement (the work); the ties are given (YtldppmjjgljinaaGreatDoorTie.lean); close each card by the builder's one call (the guide's Derived/Test/ToyasCard.lean, 'card_holds'). Laid BY PROGRAM, IN A SANDBOX (cutbox-door.mjs). By AI agents, Wed Nov 11 2026. No macro, syntax, notation, axiom, sorry.
-/
import Derived.Test.YtldppmjjgljinaaGreatDoorRows
import GoSem.ClaimSeven
namespace Go.Proofs.YtldppmjjgljinaaGreatDoor
namespace Rows

/-- THE TIED CARD OF 'caravanlaw23.TempResumes'. -/
def tempResumesCard : Claim7 := { stood := { row := tempResumesRow, standIns := [], harness := (true, "23e2ae7446c638e04c48b9299e38d3aaf592111057d9e3690254aa4df7330eb0"), looks := true }, kinds := [], alts := [], laidByText := true, laidKinds := [.data, .data, .data, .pinned], laidTests := true, laidLooks := .later }
def TempResumesCardSaid : Prop := Claim7.holds Tryz.pinned (.plain (OpenSpec.ofChange tempResumesSpec)) tempResumesCard

/-- THE TIED CARD OF 'caravanlaw09.DiskWhole'. -/
def diskWholeCard : Claim7 := { stood := { row := diskWholeRow, standIns := [], harness := (true, "23e2ae7446c638e04c48b9299e38d3aaf592111057d9e3690254aa4df7330eb0"), looks := true }, kinds := [], alts := [], laidByText := true, laidKinds := [.data, .pinned], laidTests := true, laidLooks := .later }
def DiskWholeCardSaid : Prop := Claim7.holds Tryz.pinned (.plain (OpenSpec.ofChange diskWholeSpec)) diskWholeCard

/-- THE TIED CARD OF 'caravanlaw09.DiskLasts'. -/
def diskLastsCard : Claim7 := { stood := { row := diskLastsRow, standIns := [], harness := (true, "23e2ae7446c638e04c48b9299e38d3aaf592111057d9e3690254aa4df7330eb0"), looks := true }, kinds := [], alts := [], laidByText := true, laidKinds := [.data, .pinned], laidTests := true, laidLooks := .later }
def DiskLastsCardSaid : Prop := Claim7.holds Tryz.pinned (.plain (OpenSpec.ofChange diskLastsSpec)) diskLastsCard

/-- THE TIED CARD OF 'caravanlaw09.DiskCopies'. -/
def diskCopiesCard : Claim7 := { stood := { row := diskCopiesRow, standIns := [], harness := (true, "23e2ae7446c638e04c48b9299e38d3aaf592111057d9e3690254aa4df7330eb0"), looks := true }, kinds := [], alts := [], laidByText := true, laidKinds := [.data, .pinned], laidTests := true, laidLooks := .later }
def DiskCopiesCardSaid : Prop := Claim7.holds Tryz.pinned (.plain (OpenSpec.ofChange diskCopiesSpec)) diskCopiesCard

/-- THE TIED CARD OF 'caravanlaw09.DiskPlays'. -/
def diskPlaysCard : Claim7 := { stood := { row := diskPlaysRow, standIns := [], harness := (true, "23e2ae7446c638e04c48b9299e38d3aaf592111057d9e3690254aa4df7330eb0"), looks := true }, kinds := [], alts := [], laidByText := true, laidKinds := [.data, .pinned], laidTests := true, laidLooks := .later }
def DiskPlaysCardSaid : Prop := Claim7.holds Tryz.pinned (.plain (OpenSpec.ofChange diskPlaysSpec)) diskPlaysCard

/-- THE TIED CARD OF 'caravanlaw23.TempOrder'. -/
def tempOrderCard : Claim7 := { stood := { row := tempOrderRow, standIns := [], harness := (true, "23e2ae7446c638e04c48b9299e38d3aaf592111057d9e3690254aa4df7330eb0"), looks := true }, kinds := [], alts := [], laidByText := true, laidKinds := [.data, .data, .data, .pinned], laidTests := true, laidLooks := .later }
def TempOrderCardSaid : Prop := Claim7.holds Tryz.pinned (.plain (OpenSpec.ofChange tempOrderSpec)) tempOrderCard

/-- THE TIED CARD OF 'caravanlaw23.TempPlays'. -/
def tempPlaysCard : Claim7 := { stood := { row := tempPlaysRow, standIns := [], harness := (true, "23e2ae7446c638e04c48b9299e38d3aaf592111057d9e3690254aa4df7330eb0"), looks := true }, kinds := [], alts := [], laidByText := true, laidKinds := [.data, .data, .data, .pinned], laidTests := true, laidLooks := .later }
def TempPlaysCardSaid : Prop := Claim7.holds Tryz.pinned (.plain (OpenSpec.ofChange tempPlaysSpec)) tempPlaysCard

/-- THE TIED CARD OF 'caravanlaw09.DiskKnown'. -/
def diskKnownCard : Claim7 := { stood := { row := diskKnownRow, standIns := [], harness := (true, "23e2ae7446c638e04c48b9299e38d3aaf592111057d9e3690254aa4df7330eb0"), looks := true }, kinds := [], alts := [], laidByText := true, laidKinds := [.data, .pinned], laidTests := true, laidLooks := .later }
def DiskKnownCardSaid : Prop := Claim7.holds Tryz.pinned (.plain (OpenSpec.ofChange diskKnownSpec)) diskKnownCard

/-- THE TIED CARD OF 'caravanlaw23.TempKnown'. -/
def tempKnownCard : Claim7 := { stood := { row := tempKnownRow, standIns := [], harness := (true, "23e2ae7446c638e04c48b9299e38d3aaf592111057d9e3690254aa4df7330eb0"), looks := true }, kinds := [], alts := [], laidByText := true, laidKinds := [.data, .data, .data, .pinned], laidTests := true, laidLooks := .later }
def TempKnownCardSaid : Prop := Claim7.holds Tryz.pinned (.plain (OpenSpec.ofChange tempKnownSpec)) tempKnownCard

/-- THE SECOND FORM's CARD OF 'caravanlaw23.TempResumes'. -/
def tempResumesUptoCard : Claim7 := { stood := { row := tempResumesUptoRow, standIns := [], harness := (true, "23e2ae7446c638e04c48b9299e38d3aaf592111057d9e3690254aa4df7330eb0"), looks := true }, kinds := [], alts := [], laidByText := true, laidKinds := [.data, .data, .data, .pinned], laidTests := true, laidLooks := .later }
def TempResumesUptoCardSaid : Prop := Claim7.holds Tryz.pinned (.plain (OpenSpec.upto tempResumesSpec)) tempResumesUptoCard

/-- THE SECOND FORM's CARD OF 'caravanlaw09.DiskWhole'. -/
def diskWholeUptoCard : Claim7 := { stood := { row := diskWholeUptoRow, standIns := [], harness := (true, "23e2ae7446c638e04c48b9299e38d3aaf592111057d9e3690254aa4df7330eb0"), looks := true }, kinds := [], alts := [], laidByText := true, laidKinds := [.data, .pinned], laidTests := true, laidLooks := .later }
def DiskWholeUptoCardSaid : Prop := Claim7.holds Tryz.pinned (.plain (OpenSpec.upto diskWholeSpec)) diskWholeUptoCard

/-- THE SECOND FORM's CARD OF 'caravanlaw09.DiskLasts'. -/
def diskLastsUptoCard : Claim7 := { stood := { row := diskLastsUptoRow, standIns := [], harness := (true, "23e2ae7446c638e04c48b9299e38d3aaf592111057d9e3690254aa4df7330eb0"), looks := true }, kinds := [], alts := [], laidByText := true, laidKinds := [.data, .pinned], laidTests := true, laidLooks := .later }
def DiskLastsUptoCardSaid : Prop := Claim7.holds Tryz.pinned (.plain (OpenSpec.upto diskLastsSpec)) diskLastsUptoCard

/-- THE SECOND FORM's CARD OF 'caravanlaw09.DiskCopies'. -/
def diskCopiesUptoCard : Claim7 := { stood := { row := diskCopiesUptoRow, standIns := [], harness := (true, "23e2ae7446c638e04c48b9299e38d3aaf592111057d9e3690254aa4df7330eb0"), looks := true }, kinds := [], alts := [], laidByText := true, laidKinds := [.data, .pinned], laidTests := true, laidLooks := .later }
def DiskCopiesUptoCardSaid : Prop := Claim7.holds Tryz.pinned (.plain (OpenSpec.upto diskCopiesSpec)) diskCopiesUptoCard

/-- THE SECOND FORM's CARD OF 'caravanlaw09.DiskPlays'. -/
def diskPlaysUptoCard : Claim7 := { stood := { row := diskPlaysUptoRow, standIns := [], harness := (true, "23e2ae7446c638e04c48b9299e38d3aaf592111057d9e3690254aa4df7330eb0"), looks := true }, kinds := [], alts := [], laidByText := true, laidKinds := [.data, .pinned], laidTests := true, laidLooks := .later }
def DiskPlaysUptoCardSaid : Prop := Claim7.holds Tryz.pinned (.plain (OpenSpec.upto diskPlaysSpec)) diskPlaysUptoCard

/-- THE SECOND FORM's CARD OF 'caravanlaw23.TempOrder'. -/
def tempOrderUptoCard : Claim7 := { stood := { row := tempOrderUptoRow, standIns := [], harness := (true, "23e2ae7446c638e04c48b9299e38d3aaf592111057d9e3690254aa4df7330eb0"), looks := true }, kinds := [], alts := [], laidByText := true, laidKinds := [.data, .data, .data, .pinned], laidTests := true, laidLooks := .later }
def TempOrderUptoCardSaid : Prop := Claim7.holds Tryz.pinned (.plain (OpenSpec.upto tempOrderSpec)) tempOrderUptoCard

/-- THE SECOND FORM's CARD OF 'caravanlaw23.TempPlays'. -/
def tempPlaysUptoCard : Claim7 := { stood := { row := tempPlaysUptoRow, standIns := [], harness := (true, "23e2ae7446c638e04c48b9299e38d3aaf592111057d9e3690254aa4df7330eb0"), looks := true }, kinds := [], alts := [], laidByText := true, laidKinds := [.data, .data, .data, .pinned], laidTests := true, laidLooks := .later }
def TempPlaysUptoCardSaid : Prop := Claim7.holds Tryz.pinned (.plain (OpenSpec.upto tempPlaysSpec)) tempPlaysUptoCard

/-- THE SECOND FORM's CARD OF 'caravanlaw09.DiskKnown'. -/
def diskKnownUptoCard : Claim7 := { stood := { row := diskKnownUptoRow, standIns := [], harness := (true, "23e2ae7446c638e04c48b9299e38d3aaf592111057d9e3690254aa4df7330eb0"), looks := true }, kinds := [], alts := [], laidByText := true, laidKinds := [.data, .pinned], laidTests := true, laidLooks := .later }
def DiskKnownUptoCardSaid : Prop := Claim7.holds Tryz.pinned (.plain (OpenSpec.upto diskKnownSpec)) diskKnownUptoCard

/-- THE SECOND FORM's CARD OF 'caravanlaw23.TempKnown'. -/
def tempKnownUptoCard : Claim7 := { stood := { row := tempKnownUptoRow, standIns := [], harness := (true, "23e2ae7446c638e04c48b9299e38d3aaf592111057d9e3690254aa4df7330eb0"), looks := true }, kinds := [], alts := [], laidByText := true, laidKinds := [.data, .data, .data, .pinned], laidTests := true, laidLooks := .later }
def TempKnownUptoCardSaid : Prop := Claim7.holds Tryz.pinned (.plain (OpenSpec.upto tempKnownSpec)) tempKnownUptoCard
end Rows
end Go.Proofs.YtldppmjjgljinaaGreatDoor
