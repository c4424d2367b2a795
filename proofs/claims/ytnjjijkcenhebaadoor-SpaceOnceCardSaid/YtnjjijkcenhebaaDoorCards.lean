/-
  DERIVED. GIVEN WITH THE SEED: THE CARDS: each row of YtnjjijkcenhebaaDoorRows.lean that lists a variable, with what it lists TIED to the program's text (the seventh form; the later family's looks); each row that meets fmt, with fmt's text TOLD by the authors' own Lean function (tested against real Go, not proved from fmt's source: count such statements apart). THE CARD IS WHAT COUNTS. Prove the row's statement (the work); the ties are given (YtnjjijkcenhebaaDoorTie.lean); close each card by the builder's one call (the guide's Derived/Test/ToyasCard.lean, 'card_holds'). Laid BY PROGRAM, IN A SANDBOX (cutbox-door.mjs). By AI agents, Wed Nov 11 2026. No macro, syntax, notation, axiom, sorry.
-/
import Derived.Test.YtnjjijkcenhebaaDoorRows
import GoSem.ClaimSeven
namespace Go.Proofs.YtnjjijkcenhebaaDoor
namespace Rows

/-- THE TIED CARD OF 'kilnlaw4.SpaceMakes'. -/
def spaceMakesCard : Claim7 := { stood := { row := spaceMakesRow, standIns := [], harness := (true, "e1d85f1762b38c93290bf41f5d5c04a806af1aa1b3e351034c4ac5bfe4b57818"), looks := false }, kinds := [], alts := [], laidByText := true, laidKinds := [.data], laidTests := true, laidLooks := .later }
def SpaceMakesCardSaid : Prop := Claim7.holds Tryd.pinned (.plain (OpenSpec.ofChange spaceMakesSpec)) spaceMakesCard

/-- THE TIED CARD OF 'kilnlaw4.SpacePlays'. -/
def spacePlaysCard : Claim7 := { stood := { row := spacePlaysRow, standIns := [], harness := (true, "e1d85f1762b38c93290bf41f5d5c04a806af1aa1b3e351034c4ac5bfe4b57818"), looks := false }, kinds := [], alts := [], laidByText := true, laidKinds := [.data], laidTests := true, laidLooks := .later }
def SpacePlaysCardSaid : Prop := Claim7.holds Tryd.pinned (.plain (OpenSpec.ofChange spacePlaysSpec)) spacePlaysCard

/-- THE TIED CARD OF 'kilnlaw4.SpaceLent'. -/
def spaceLentCard : Claim7 := { stood := { row := spaceLentRow, standIns := [], harness := (true, "e1d85f1762b38c93290bf41f5d5c04a806af1aa1b3e351034c4ac5bfe4b57818"), looks := false }, kinds := [], alts := [], laidByText := true, laidKinds := [.data], laidTests := true, laidLooks := .later }
def SpaceLentCardSaid : Prop := Claim7.holds Tryd.pinned (.plain (OpenSpec.ofChange spaceLentSpec)) spaceLentCard

/-- THE TIED CARD OF 'kilnlaw4.SpaceOnce'. -/
def spaceOnceCard : Claim7 := { stood := { row := spaceOnceRow, standIns := [], harness := (true, "e1d85f1762b38c93290bf41f5d5c04a806af1aa1b3e351034c4ac5bfe4b57818"), looks := false }, kinds := [], alts := [], laidByText := true, laidKinds := [.data], laidTests := true, laidLooks := .later }
def SpaceOnceCardSaid : Prop := Claim7.holds Tryd.pinned (.plain (OpenSpec.ofChange spaceOnceSpec)) spaceOnceCard

/-- THE TIED CARD OF 'kilnlaw4.SpaceWay'. -/
def spaceWayCard : Claim7 := { stood := { row := spaceWayRow, standIns := [], harness := (true, "e1d85f1762b38c93290bf41f5d5c04a806af1aa1b3e351034c4ac5bfe4b57818"), looks := false }, kinds := [], alts := [], laidByText := true, laidKinds := [.data], laidTests := true, laidLooks := .later }
def SpaceWayCardSaid : Prop := Claim7.holds Tryd.pinned (.plain (OpenSpec.ofChange spaceWaySpec)) spaceWayCard

/-- THE TIED CARD OF 'kilnlaw4.SpaceApart'. -/
def spaceApartCard : Claim7 := { stood := { row := spaceApartRow, standIns := [], harness := (true, "e1d85f1762b38c93290bf41f5d5c04a806af1aa1b3e351034c4ac5bfe4b57818"), looks := false }, kinds := [], alts := [], laidByText := true, laidKinds := [.data], laidTests := true, laidLooks := .later }
def SpaceApartCardSaid : Prop := Claim7.holds Tryd.pinned (.plain (OpenSpec.ofChange spaceApartSpec)) spaceApartCard

/-- THE SECOND FORM's CARD OF 'kilnlaw4.SpaceMakes'. -/
def spaceMakesUptoCard : Claim7 := { stood := { row := spaceMakesUptoRow, standIns := [], harness := (true, "e1d85f1762b38c93290bf41f5d5c04a806af1aa1b3e351034c4ac5bfe4b57818"), looks := false }, kinds := [], alts := [], laidByText := true, laidKinds := [.data], laidTests := true, laidLooks := .later }
def SpaceMakesUptoCardSaid : Prop := Claim7.holds Tryd.pinned (.plain (OpenSpec.upto spaceMakesSpec)) spaceMakesUptoCard

/-- THE SECOND FORM's CARD OF 'kilnlaw4.SpacePlays'. -/
def spacePlaysUptoCard : Claim7 := { stood := { row := spacePlaysUptoRow, standIns := [], harness := (true, "e1d85f1762b38c93290bf41f5d5c04a806af1aa1b3e351034c4ac5bfe4b57818"), looks := false }, kinds := [], alts := [], laidByText := true, laidKinds := [.data], laidTests := true, laidLooks := .later }
def SpacePlaysUptoCardSaid : Prop := Claim7.holds Tryd.pinned (.plain (OpenSpec.upto spacePlaysSpec)) spacePlaysUptoCard

/-- THE SECOND FORM's CARD OF 'kilnlaw4.SpaceLent'. -/
def spaceLentUptoCard : Claim7 := { stood := { row := spaceLentUptoRow, standIns := [], harness := (true, "e1d85f1762b38c93290bf41f5d5c04a806af1aa1b3e351034c4ac5bfe4b57818"), looks := false }, kinds := [], alts := [], laidByText := true, laidKinds := [.data], laidTests := true, laidLooks := .later }
def SpaceLentUptoCardSaid : Prop := Claim7.holds Tryd.pinned (.plain (OpenSpec.upto spaceLentSpec)) spaceLentUptoCard

/-- THE SECOND FORM's CARD OF 'kilnlaw4.SpaceOnce'. -/
def spaceOnceUptoCard : Claim7 := { stood := { row := spaceOnceUptoRow, standIns := [], harness := (true, "e1d85f1762b38c93290bf41f5d5c04a806af1aa1b3e351034c4ac5bfe4b57818"), looks := false }, kinds := [], alts := [], laidByText := true, laidKinds := [.data], laidTests := true, laidLooks := .later }
def SpaceOnceUptoCardSaid : Prop := Claim7.holds Tryd.pinned (.plain (OpenSpec.upto spaceOnceSpec)) spaceOnceUptoCard

/-- THE SECOND FORM's CARD OF 'kilnlaw4.SpaceWay'. -/
def spaceWayUptoCard : Claim7 := { stood := { row := spaceWayUptoRow, standIns := [], harness := (true, "e1d85f1762b38c93290bf41f5d5c04a806af1aa1b3e351034c4ac5bfe4b57818"), looks := false }, kinds := [], alts := [], laidByText := true, laidKinds := [.data], laidTests := true, laidLooks := .later }
def SpaceWayUptoCardSaid : Prop := Claim7.holds Tryd.pinned (.plain (OpenSpec.upto spaceWaySpec)) spaceWayUptoCard

/-- THE SECOND FORM's CARD OF 'kilnlaw4.SpaceApart'. -/
def spaceApartUptoCard : Claim7 := { stood := { row := spaceApartUptoRow, standIns := [], harness := (true, "e1d85f1762b38c93290bf41f5d5c04a806af1aa1b3e351034c4ac5bfe4b57818"), looks := false }, kinds := [], alts := [], laidByText := true, laidKinds := [.data], laidTests := true, laidLooks := .later }
def SpaceApartUptoCardSaid : Prop := Claim7.holds Tryd.pinned (.plain (OpenSpec.upto spaceApartSpec)) spaceApartUptoCard
end Rows
end Go.Proofs.YtnjjijkcenhebaaDoor
