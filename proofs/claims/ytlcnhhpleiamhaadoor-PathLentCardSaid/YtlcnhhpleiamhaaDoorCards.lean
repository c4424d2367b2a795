/-
  DERIVED. GIVEN WITH THE SEED: THE CARDS: each row of YtlcnhhpleiamhaaDoorRows.lean that lists a variable, with what it lists TIED to the program's text (the seventh form; the later family's looks); each row that meets fmt, with fmt's text TOLD by the authors' own Lean function (tested against real Go, not proved from fmt's source: count such statements apart). THE CARD IS WHAT COUNTS. Prove the row's statement (the work); the ties are given (YtlcnhhpleiamhaaDoorTie.lean); close each card by the builder's one call (the guide's Derived/Test/ToyasCard.lean, 'card_holds'). Laid BY PROGRAM, IN A SANDBOX (cutbox-door.mjs). By AI agents, Wed Nov 11 2026. No macro, syntax, notation, axiom, sorry.
-/
import Derived.Test.YtlcnhhpleiamhaaDoorRows
import GoSem.ClaimSeven
namespace Go.Proofs.YtlcnhhpleiamhaaDoor
namespace Rows

/-- THE TIED CARD OF 'kilnlaw5.PathParses'. -/
def pathParsesCard : Claim7 := { stood := { row := pathParsesRow, standIns := [], harness := (true, "ec8626083f31f4f2ffb64adcc898ed01692edb4e23ff5b54feb88ee46413c2d6"), looks := false }, kinds := [], alts := [], laidByText := true, laidKinds := [.data, .pinned], laidTests := true, laidLooks := .later }
def PathParsesCardSaid : Prop := Claim7.holds Tryd.pinned (.plain (OpenSpec.ofChange pathParsesSpec)) pathParsesCard

/-- THE TIED CARD OF 'kilnlaw5.PathTexts'. -/
def pathTextsCard : Claim7 := { stood := { row := pathTextsRow, standIns := [], harness := (true, "ec8626083f31f4f2ffb64adcc898ed01692edb4e23ff5b54feb88ee46413c2d6"), looks := false }, kinds := [], alts := [], laidByText := true, laidKinds := [.data, .pinned], laidTests := true, laidLooks := .later }
def PathTextsCardSaid : Prop := Claim7.holds Tryd.pinned (.plain (OpenSpec.ofChange pathTextsSpec)) pathTextsCard

/-- THE TIED CARD OF 'kilnlaw5.PathOrders'. -/
def pathOrdersCard : Claim7 := { stood := { row := pathOrdersRow, standIns := [], harness := (true, "ec8626083f31f4f2ffb64adcc898ed01692edb4e23ff5b54feb88ee46413c2d6"), looks := false }, kinds := [], alts := [], laidByText := true, laidKinds := [.data, .pinned], laidTests := true, laidLooks := .later }
def PathOrdersCardSaid : Prop := Claim7.holds Tryd.pinned (.plain (OpenSpec.ofChange pathOrdersSpec)) pathOrdersCard

/-- THE TIED CARD OF 'kilnlaw5.PathBack'. -/
def pathBackCard : Claim7 := { stood := { row := pathBackRow, standIns := [], harness := (true, "ec8626083f31f4f2ffb64adcc898ed01692edb4e23ff5b54feb88ee46413c2d6"), looks := false }, kinds := [], alts := [], laidByText := true, laidKinds := [.data, .pinned], laidTests := true, laidLooks := .later }
def PathBackCardSaid : Prop := Claim7.holds Tryd.pinned (.plain (OpenSpec.ofChange pathBackSpec)) pathBackCard

/-- THE TIED CARD OF 'kilnlaw5.PathPlace'. -/
def pathPlaceCard : Claim7 := { stood := { row := pathPlaceRow, standIns := [], harness := (true, "ec8626083f31f4f2ffb64adcc898ed01692edb4e23ff5b54feb88ee46413c2d6"), looks := false }, kinds := [], alts := [], laidByText := true, laidKinds := [.data, .pinned], laidTests := true, laidLooks := .later }
def PathPlaceCardSaid : Prop := Claim7.holds Tryd.pinned (.plain (OpenSpec.ofChange pathPlaceSpec)) pathPlaceCard

/-- THE TIED CARD OF 'kilnlaw5.PathTotal'. -/
def pathTotalCard : Claim7 := { stood := { row := pathTotalRow, standIns := [], harness := (true, "ec8626083f31f4f2ffb64adcc898ed01692edb4e23ff5b54feb88ee46413c2d6"), looks := false }, kinds := [], alts := [], laidByText := true, laidKinds := [.data, .pinned], laidTests := true, laidLooks := .later }
def PathTotalCardSaid : Prop := Claim7.holds Tryd.pinned (.plain (OpenSpec.ofChange pathTotalSpec)) pathTotalCard

/-- THE TIED CARD OF 'kilnlaw5.PathTogether'. -/
def pathTogetherCard : Claim7 := { stood := { row := pathTogetherRow, standIns := [], harness := (true, "ec8626083f31f4f2ffb64adcc898ed01692edb4e23ff5b54feb88ee46413c2d6"), looks := false }, kinds := [], alts := [], laidByText := true, laidKinds := [.data, .pinned], laidTests := true, laidLooks := .later }
def PathTogetherCardSaid : Prop := Claim7.holds Tryd.pinned (.plain (OpenSpec.ofChange pathTogetherSpec)) pathTogetherCard

/-- THE TIED CARD OF 'kilnlaw5.PathSlash'. -/
def pathSlashCard : Claim7 := { stood := { row := pathSlashRow, standIns := [], harness := (true, "ec8626083f31f4f2ffb64adcc898ed01692edb4e23ff5b54feb88ee46413c2d6"), looks := false }, kinds := [], alts := [], laidByText := true, laidKinds := [.data, .pinned], laidTests := true, laidLooks := .later }
def PathSlashCardSaid : Prop := Claim7.holds Tryd.pinned (.plain (OpenSpec.ofChange pathSlashSpec)) pathSlashCard

/-- THE TIED CARD OF 'kilnlaw5.PathAgain'. -/
def pathAgainCard : Claim7 := { stood := { row := pathAgainRow, standIns := [], harness := (true, "ec8626083f31f4f2ffb64adcc898ed01692edb4e23ff5b54feb88ee46413c2d6"), looks := false }, kinds := [], alts := [], laidByText := true, laidKinds := [.data, .pinned], laidTests := true, laidLooks := .later }
def PathAgainCardSaid : Prop := Claim7.holds Tryd.pinned (.plain (OpenSpec.ofChange pathAgainSpec)) pathAgainCard

/-- THE TIED CARD OF 'kilnlaw5.PathLent'. -/
def pathLentCard : Claim7 := { stood := { row := pathLentRow, standIns := [], harness := (true, "ec8626083f31f4f2ffb64adcc898ed01692edb4e23ff5b54feb88ee46413c2d6"), looks := false }, kinds := [], alts := [], laidByText := true, laidKinds := [.data, .pinned], laidTests := true, laidLooks := .later }
def PathLentCardSaid : Prop := Claim7.holds Tryd.pinned (.plain (OpenSpec.ofChange pathLentSpec)) pathLentCard

/-- THE SECOND FORM's CARD OF 'kilnlaw5.PathParses'. -/
def pathParsesUptoCard : Claim7 := { stood := { row := pathParsesUptoRow, standIns := [], harness := (true, "ec8626083f31f4f2ffb64adcc898ed01692edb4e23ff5b54feb88ee46413c2d6"), looks := false }, kinds := [], alts := [], laidByText := true, laidKinds := [.data, .pinned], laidTests := true, laidLooks := .later }
def PathParsesUptoCardSaid : Prop := Claim7.holds Tryd.pinned (.plain (OpenSpec.upto pathParsesSpec)) pathParsesUptoCard

/-- THE SECOND FORM's CARD OF 'kilnlaw5.PathTexts'. -/
def pathTextsUptoCard : Claim7 := { stood := { row := pathTextsUptoRow, standIns := [], harness := (true, "ec8626083f31f4f2ffb64adcc898ed01692edb4e23ff5b54feb88ee46413c2d6"), looks := false }, kinds := [], alts := [], laidByText := true, laidKinds := [.data, .pinned], laidTests := true, laidLooks := .later }
def PathTextsUptoCardSaid : Prop := Claim7.holds Tryd.pinned (.plain (OpenSpec.upto pathTextsSpec)) pathTextsUptoCard

/-- THE SECOND FORM's CARD OF 'kilnlaw5.PathOrders'. -/
def pathOrdersUptoCard : Claim7 := { stood := { row := pathOrdersUptoRow, standIns := [], harness := (true, "ec8626083f31f4f2ffb64adcc898ed01692edb4e23ff5b54feb88ee46413c2d6"), looks := false }, kinds := [], alts := [], laidByText := true, laidKinds := [.data, .pinned], laidTests := true, laidLooks := .later }
def PathOrdersUptoCardSaid : Prop := Claim7.holds Tryd.pinned (.plain (OpenSpec.upto pathOrdersSpec)) pathOrdersUptoCard

/-- THE SECOND FORM's CARD OF 'kilnlaw5.PathBack'. -/
def pathBackUptoCard : Claim7 := { stood := { row := pathBackUptoRow, standIns := [], harness := (true, "ec8626083f31f4f2ffb64adcc898ed01692edb4e23ff5b54feb88ee46413c2d6"), looks := false }, kinds := [], alts := [], laidByText := true, laidKinds := [.data, .pinned], laidTests := true, laidLooks := .later }
def PathBackUptoCardSaid : Prop := Claim7.holds Tryd.pinned (.plain (OpenSpec.upto pathBackSpec)) pathBackUptoCard

/-- THE SECOND FORM's CARD OF 'kilnlaw5.PathPlace'. -/
def pathPlaceUptoCard : Claim7 := { stood := { row := pathPlaceUptoRow, standIns := [], harness := (true, "ec8626083f31f4f2ffb64adcc898ed01692edb4e23ff5b54feb88ee46413c2d6"), looks := false }, kinds := [], alts := [], laidByText := true, laidKinds := [.data, .pinned], laidTests := true, laidLooks := .later }
def PathPlaceUptoCardSaid : Prop := Claim7.holds Tryd.pinned (.plain (OpenSpec.upto pathPlaceSpec)) pathPlaceUptoCard

/-- THE SECOND FORM's CARD OF 'kilnlaw5.PathTotal'. -/
def pathTotalUptoCard : Claim7 := { stood := { row := pathTotalUptoRow, standIns := [], harness := (true, "ec8626083f31f4f2ffb64adcc898ed01692edb4e23ff5b54feb88ee46413c2d6"), looks := false }, kinds := [], alts := [], laidByText := true, laidKinds := [.data, .pinned], laidTests := true, laidLooks := .later }
def PathTotalUptoCardSaid : Prop := Claim7.holds Tryd.pinned (.plain (OpenSpec.upto pathTotalSpec)) pathTotalUptoCard

/-- THE SECOND FORM's CARD OF 'kilnlaw5.PathTogether'. -/
def pathTogetherUptoCard : Claim7 := { stood := { row := pathTogetherUptoRow, standIns := [], harness := (true, "ec8626083f31f4f2ffb64adcc898ed01692edb4e23ff5b54feb88ee46413c2d6"), looks := false }, kinds := [], alts := [], laidByText := true, laidKinds := [.data, .pinned], laidTests := true, laidLooks := .later }
def PathTogetherUptoCardSaid : Prop := Claim7.holds Tryd.pinned (.plain (OpenSpec.upto pathTogetherSpec)) pathTogetherUptoCard

/-- THE SECOND FORM's CARD OF 'kilnlaw5.PathSlash'. -/
def pathSlashUptoCard : Claim7 := { stood := { row := pathSlashUptoRow, standIns := [], harness := (true, "ec8626083f31f4f2ffb64adcc898ed01692edb4e23ff5b54feb88ee46413c2d6"), looks := false }, kinds := [], alts := [], laidByText := true, laidKinds := [.data, .pinned], laidTests := true, laidLooks := .later }
def PathSlashUptoCardSaid : Prop := Claim7.holds Tryd.pinned (.plain (OpenSpec.upto pathSlashSpec)) pathSlashUptoCard

/-- THE SECOND FORM's CARD OF 'kilnlaw5.PathAgain'. -/
def pathAgainUptoCard : Claim7 := { stood := { row := pathAgainUptoRow, standIns := [], harness := (true, "ec8626083f31f4f2ffb64adcc898ed01692edb4e23ff5b54feb88ee46413c2d6"), looks := false }, kinds := [], alts := [], laidByText := true, laidKinds := [.data, .pinned], laidTests := true, laidLooks := .later }
def PathAgainUptoCardSaid : Prop := Claim7.holds Tryd.pinned (.plain (OpenSpec.upto pathAgainSpec)) pathAgainUptoCard

/-- THE SECOND FORM's CARD OF 'kilnlaw5.PathLent'. -/
def pathLentUptoCard : Claim7 := { stood := { row := pathLentUptoRow, standIns := [], harness := (true, "ec8626083f31f4f2ffb64adcc898ed01692edb4e23ff5b54feb88ee46413c2d6"), looks := false }, kinds := [], alts := [], laidByText := true, laidKinds := [.data, .pinned], laidTests := true, laidLooks := .later }
def PathLentUptoCardSaid : Prop := Claim7.holds Tryd.pinned (.plain (OpenSpec.upto pathLentSpec)) pathLentUptoCard
end Rows
end Go.Proofs.YtlcnhhpleiamhaaDoor
