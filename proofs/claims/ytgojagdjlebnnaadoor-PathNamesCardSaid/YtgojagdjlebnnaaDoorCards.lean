/-
  DERIVED. GIVEN WITH THE SEED: THE CARDS: each row of YtgojagdjlebnnaaDoorRows.lean that lists a variable, with what it lists TIED to the program's text (the seventh form; the later family's looks); each row that meets fmt, with fmt's text TOLD by the authors' own Lean function (tested against real Go, not proved from fmt's source: count such statements apart). THE CARD IS WHAT COUNTS. Prove the row's statement (the work); the ties are given (YtgojagdjlebnnaaDoorTie.lean); close each card by the builder's one call (the guide's Derived/Test/ToyasCard.lean, 'card_holds'). Laid BY PROGRAM, IN A SANDBOX (cutbox-door.mjs). By AI agents, Wed Nov 11 2026. No macro, syntax, notation, axiom, sorry.
-/
import Derived.Test.YtgojagdjlebnnaaDoorRows
import GoSem.ClaimSeven
namespace Go.Proofs.YtgojagdjlebnnaaDoor
namespace Rows

/-- THE TIED CARD OF 'caravanlaw02.PathLost'. -/
def pathLostCard : Claim7 := { stood := { row := pathLostRow, standIns := [], harness := (true, "ae819297f8a5033094c4169018fc9448a9f9be1a1b05b7de18cd82252c14fff4"), looks := false }, kinds := [], alts := [], laidByText := true, laidKinds := [.data, .data, .data, .data, .pinned], laidTests := true, laidLooks := .later }
def PathLostCardSaid : Prop := Claim7.holds Tryd.pinned (.plain (OpenSpec.ofChange pathLostSpec)) pathLostCard

/-- THE TIED CARD OF 'caravanlaw02.PathParents'. -/
def pathParentsCard : Claim7 := { stood := { row := pathParentsRow, standIns := [], harness := (true, "ae819297f8a5033094c4169018fc9448a9f9be1a1b05b7de18cd82252c14fff4"), looks := false }, kinds := [], alts := [], laidByText := true, laidKinds := [.data, .data, .data, .data, .pinned], laidTests := true, laidLooks := .later }
def PathParentsCardSaid : Prop := Claim7.holds Tryd.pinned (.plain (OpenSpec.ofChange pathParentsSpec)) pathParentsCard

/-- THE TIED CARD OF 'caravanlaw02.PathCompares'. -/
def pathComparesCard : Claim7 := { stood := { row := pathComparesRow, standIns := [], harness := (true, "ae819297f8a5033094c4169018fc9448a9f9be1a1b05b7de18cd82252c14fff4"), looks := false }, kinds := [], alts := [], laidByText := true, laidKinds := [.data, .data, .data, .data, .pinned], laidTests := true, laidLooks := .later }
def PathComparesCardSaid : Prop := Claim7.holds Tryd.pinned (.plain (OpenSpec.ofChange pathComparesSpec)) pathComparesCard

/-- THE TIED CARD OF 'caravanlaw02.PathOrder'. -/
def pathOrderCard : Claim7 := { stood := { row := pathOrderRow, standIns := [], harness := (true, "ae819297f8a5033094c4169018fc9448a9f9be1a1b05b7de18cd82252c14fff4"), looks := false }, kinds := [], alts := [], laidByText := true, laidKinds := [.data, .data, .data, .data, .pinned], laidTests := true, laidLooks := .later }
def PathOrderCardSaid : Prop := Claim7.holds Tryd.pinned (.plain (OpenSpec.ofChange pathOrderSpec)) pathOrderCard

/-- THE TIED CARD OF 'caravanlaw02.PathBehind'. -/
def pathBehindCard : Claim7 := { stood := { row := pathBehindRow, standIns := [], harness := (true, "ae819297f8a5033094c4169018fc9448a9f9be1a1b05b7de18cd82252c14fff4"), looks := false }, kinds := [], alts := [], laidByText := true, laidKinds := [.data, .data, .data, .data, .pinned], laidTests := true, laidLooks := .later }
def PathBehindCardSaid : Prop := Claim7.holds Tryd.pinned (.plain (OpenSpec.ofChange pathBehindSpec)) pathBehindCard

/-- THE TIED CARD OF 'caravanlaw02.PathMays'. -/
def pathMaysCard : Claim7 := { stood := { row := pathMaysRow, standIns := [], harness := (true, "ae819297f8a5033094c4169018fc9448a9f9be1a1b05b7de18cd82252c14fff4"), looks := false }, kinds := [], alts := [], laidByText := true, laidKinds := [.data, .data, .data, .data, .pinned], laidTests := true, laidLooks := .later }
def PathMaysCardSaid : Prop := Claim7.holds Tryd.pinned (.plain (OpenSpec.ofChange pathMaysSpec)) pathMaysCard

/-- THE TIED CARD OF 'caravanlaw02.PathBack'. -/
def pathBackCard : Claim7 := { stood := { row := pathBackRow, standIns := [], harness := (true, "ae819297f8a5033094c4169018fc9448a9f9be1a1b05b7de18cd82252c14fff4"), looks := false }, kinds := [], alts := [], laidByText := true, laidKinds := [.data, .data, .data, .data, .pinned], laidTests := true, laidLooks := .later }
def PathBackCardSaid : Prop := Claim7.holds Tryd.pinned (.plain (OpenSpec.ofChange pathBackSpec)) pathBackCard

/-- THE TIED CARD OF 'caravanlaw02.PathNames'. -/
def pathNamesCard : Claim7 := { stood := { row := pathNamesRow, standIns := [], harness := (true, "ae819297f8a5033094c4169018fc9448a9f9be1a1b05b7de18cd82252c14fff4"), looks := false }, kinds := [], alts := [], laidByText := true, laidKinds := [.data, .data, .data, .data, .data, .data, .pinned], laidTests := true, laidLooks := .later }
def PathNamesCardSaid : Prop := Claim7.holds Tryd.pinned (.plain (OpenSpec.ofChange pathNamesSpec)) pathNamesCard

/-- THE TIED CARD OF 'caravanlaw02.PathFits'. -/
def pathFitsCard : Claim7 := { stood := { row := pathFitsRow, standIns := [], harness := (true, "ae819297f8a5033094c4169018fc9448a9f9be1a1b05b7de18cd82252c14fff4"), looks := false }, kinds := [], alts := [], laidByText := true, laidKinds := [.data, .data, .data, .data, .data, .data, .pinned], laidTests := true, laidLooks := .later }
def PathFitsCardSaid : Prop := Claim7.holds Tryd.pinned (.plain (OpenSpec.ofChange pathFitsSpec)) pathFitsCard

/-- THE TIED CARD OF 'caravanlaw02.PathKnown'. -/
def pathKnownCard : Claim7 := { stood := { row := pathKnownRow, standIns := [], harness := (true, "ae819297f8a5033094c4169018fc9448a9f9be1a1b05b7de18cd82252c14fff4"), looks := false }, kinds := [], alts := [], laidByText := true, laidKinds := [.data, .data, .data, .data, .data, .data, .pinned], laidTests := true, laidLooks := .later }
def PathKnownCardSaid : Prop := Claim7.holds Tryd.pinned (.plain (OpenSpec.ofChange pathKnownSpec)) pathKnownCard

/-- THE SECOND FORM's CARD OF 'caravanlaw02.PathLost'. -/
def pathLostUptoCard : Claim7 := { stood := { row := pathLostUptoRow, standIns := [], harness := (true, "ae819297f8a5033094c4169018fc9448a9f9be1a1b05b7de18cd82252c14fff4"), looks := false }, kinds := [], alts := [], laidByText := true, laidKinds := [.data, .data, .data, .data, .pinned], laidTests := true, laidLooks := .later }
def PathLostUptoCardSaid : Prop := Claim7.holds Tryd.pinned (.plain (OpenSpec.upto pathLostSpec)) pathLostUptoCard

/-- THE SECOND FORM's CARD OF 'caravanlaw02.PathParents'. -/
def pathParentsUptoCard : Claim7 := { stood := { row := pathParentsUptoRow, standIns := [], harness := (true, "ae819297f8a5033094c4169018fc9448a9f9be1a1b05b7de18cd82252c14fff4"), looks := false }, kinds := [], alts := [], laidByText := true, laidKinds := [.data, .data, .data, .data, .pinned], laidTests := true, laidLooks := .later }
def PathParentsUptoCardSaid : Prop := Claim7.holds Tryd.pinned (.plain (OpenSpec.upto pathParentsSpec)) pathParentsUptoCard

/-- THE SECOND FORM's CARD OF 'caravanlaw02.PathCompares'. -/
def pathComparesUptoCard : Claim7 := { stood := { row := pathComparesUptoRow, standIns := [], harness := (true, "ae819297f8a5033094c4169018fc9448a9f9be1a1b05b7de18cd82252c14fff4"), looks := false }, kinds := [], alts := [], laidByText := true, laidKinds := [.data, .data, .data, .data, .pinned], laidTests := true, laidLooks := .later }
def PathComparesUptoCardSaid : Prop := Claim7.holds Tryd.pinned (.plain (OpenSpec.upto pathComparesSpec)) pathComparesUptoCard

/-- THE SECOND FORM's CARD OF 'caravanlaw02.PathOrder'. -/
def pathOrderUptoCard : Claim7 := { stood := { row := pathOrderUptoRow, standIns := [], harness := (true, "ae819297f8a5033094c4169018fc9448a9f9be1a1b05b7de18cd82252c14fff4"), looks := false }, kinds := [], alts := [], laidByText := true, laidKinds := [.data, .data, .data, .data, .pinned], laidTests := true, laidLooks := .later }
def PathOrderUptoCardSaid : Prop := Claim7.holds Tryd.pinned (.plain (OpenSpec.upto pathOrderSpec)) pathOrderUptoCard

/-- THE SECOND FORM's CARD OF 'caravanlaw02.PathBehind'. -/
def pathBehindUptoCard : Claim7 := { stood := { row := pathBehindUptoRow, standIns := [], harness := (true, "ae819297f8a5033094c4169018fc9448a9f9be1a1b05b7de18cd82252c14fff4"), looks := false }, kinds := [], alts := [], laidByText := true, laidKinds := [.data, .data, .data, .data, .pinned], laidTests := true, laidLooks := .later }
def PathBehindUptoCardSaid : Prop := Claim7.holds Tryd.pinned (.plain (OpenSpec.upto pathBehindSpec)) pathBehindUptoCard

/-- THE SECOND FORM's CARD OF 'caravanlaw02.PathMays'. -/
def pathMaysUptoCard : Claim7 := { stood := { row := pathMaysUptoRow, standIns := [], harness := (true, "ae819297f8a5033094c4169018fc9448a9f9be1a1b05b7de18cd82252c14fff4"), looks := false }, kinds := [], alts := [], laidByText := true, laidKinds := [.data, .data, .data, .data, .pinned], laidTests := true, laidLooks := .later }
def PathMaysUptoCardSaid : Prop := Claim7.holds Tryd.pinned (.plain (OpenSpec.upto pathMaysSpec)) pathMaysUptoCard

/-- THE SECOND FORM's CARD OF 'caravanlaw02.PathBack'. -/
def pathBackUptoCard : Claim7 := { stood := { row := pathBackUptoRow, standIns := [], harness := (true, "ae819297f8a5033094c4169018fc9448a9f9be1a1b05b7de18cd82252c14fff4"), looks := false }, kinds := [], alts := [], laidByText := true, laidKinds := [.data, .data, .data, .data, .pinned], laidTests := true, laidLooks := .later }
def PathBackUptoCardSaid : Prop := Claim7.holds Tryd.pinned (.plain (OpenSpec.upto pathBackSpec)) pathBackUptoCard

/-- THE SECOND FORM's CARD OF 'caravanlaw02.PathNames'. -/
def pathNamesUptoCard : Claim7 := { stood := { row := pathNamesUptoRow, standIns := [], harness := (true, "ae819297f8a5033094c4169018fc9448a9f9be1a1b05b7de18cd82252c14fff4"), looks := false }, kinds := [], alts := [], laidByText := true, laidKinds := [.data, .data, .data, .data, .data, .data, .pinned], laidTests := true, laidLooks := .later }
def PathNamesUptoCardSaid : Prop := Claim7.holds Tryd.pinned (.plain (OpenSpec.upto pathNamesSpec)) pathNamesUptoCard

/-- THE SECOND FORM's CARD OF 'caravanlaw02.PathFits'. -/
def pathFitsUptoCard : Claim7 := { stood := { row := pathFitsUptoRow, standIns := [], harness := (true, "ae819297f8a5033094c4169018fc9448a9f9be1a1b05b7de18cd82252c14fff4"), looks := false }, kinds := [], alts := [], laidByText := true, laidKinds := [.data, .data, .data, .data, .data, .data, .pinned], laidTests := true, laidLooks := .later }
def PathFitsUptoCardSaid : Prop := Claim7.holds Tryd.pinned (.plain (OpenSpec.upto pathFitsSpec)) pathFitsUptoCard

/-- THE SECOND FORM's CARD OF 'caravanlaw02.PathKnown'. -/
def pathKnownUptoCard : Claim7 := { stood := { row := pathKnownUptoRow, standIns := [], harness := (true, "ae819297f8a5033094c4169018fc9448a9f9be1a1b05b7de18cd82252c14fff4"), looks := false }, kinds := [], alts := [], laidByText := true, laidKinds := [.data, .data, .data, .data, .data, .data, .pinned], laidTests := true, laidLooks := .later }
def PathKnownUptoCardSaid : Prop := Claim7.holds Tryd.pinned (.plain (OpenSpec.upto pathKnownSpec)) pathKnownUptoCard
end Rows
end Go.Proofs.YtgojagdjlebnnaaDoor
