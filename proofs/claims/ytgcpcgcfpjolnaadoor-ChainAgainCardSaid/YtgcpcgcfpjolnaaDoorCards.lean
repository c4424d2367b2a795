/-
  DERIVED. GIVEN WITH THE SEED: THE CARDS: each row of YtgcpcgcfpjolnaaDoorRows.lean that lists a variable, with what it lists TIED to the program's text (the seventh form; the later family's looks); each row that meets fmt, with fmt's text TOLD by the authors' own Lean function (tested against real Go, not proved from fmt's source: count such statements apart). THE CARD IS WHAT COUNTS. Prove the row's statement (the work); the ties are given (YtgcpcgcfpjolnaaDoorTie.lean); close each card by the builder's one call (the guide's Derived/Test/ToyasCard.lean, 'card_holds'). Laid BY PROGRAM, IN A SANDBOX (cutbox-door.mjs). By AI agents, Wed Nov 11 2026. No macro, syntax, notation, axiom, sorry.
-/
import Derived.Test.YtgcpcgcfpjolnaaDoorRows
import GoSem.ClaimSeven
namespace Go.Proofs.YtgcpcgcfpjolnaaDoor
namespace Rows

/-- THE TIED CARD OF 'kilnlaw6.ChainLent'. -/
def chainLentCard : Claim7 := { stood := { row := chainLentRow, standIns := [], harness := (true, "4f9bf1f4328ab94d7df278fa21ce3b4a3235cc29cdf552ad17a10c92b380c102"), looks := false }, kinds := [], alts := [], laidByText := true, laidKinds := [.data, .data, .data], laidTests := true, laidLooks := .later }
def ChainLentCardSaid : Prop := Claim7.holds Tryd.pinned (.plain (OpenSpec.ofChange chainLentSpec)) chainLentCard

/-- THE TIED CARD OF 'kilnlaw6.ChainTurns'. -/
def chainTurnsCard : Claim7 := { stood := { row := chainTurnsRow, standIns := [], harness := (true, "4f9bf1f4328ab94d7df278fa21ce3b4a3235cc29cdf552ad17a10c92b380c102"), looks := false }, kinds := [], alts := [], laidByText := true, laidKinds := [.data, .data, .data], laidTests := true, laidLooks := .later }
def ChainTurnsCardSaid : Prop := Claim7.holds Tryd.pinned (.plain (OpenSpec.ofChange chainTurnsSpec)) chainTurnsCard

/-- THE TIED CARD OF 'kilnlaw6.ChainBytes'. -/
def chainBytesCard : Claim7 := { stood := { row := chainBytesRow, standIns := [], harness := (true, "4f9bf1f4328ab94d7df278fa21ce3b4a3235cc29cdf552ad17a10c92b380c102"), looks := false }, kinds := [], alts := [], laidByText := true, laidKinds := [.data, .data, .data], laidTests := true, laidLooks := .later }
def ChainBytesCardSaid : Prop := Claim7.holds Tryd.pinned (.plain (OpenSpec.ofChange chainBytesSpec)) chainBytesCard

/-- THE TIED CARD OF 'kilnlaw6.ChainAgain'. -/
def chainAgainCard : Claim7 := { stood := { row := chainAgainRow, standIns := [], harness := (true, "4f9bf1f4328ab94d7df278fa21ce3b4a3235cc29cdf552ad17a10c92b380c102"), looks := false }, kinds := [], alts := [], laidByText := true, laidKinds := [.data, .data, .data], laidTests := true, laidLooks := .later }
def ChainAgainCardSaid : Prop := Claim7.holds Tryd.pinned (.plain (OpenSpec.ofChange chainAgainSpec)) chainAgainCard

/-- THE TIED CARD OF 'kilnlaw6.ChainGreat'. -/
def chainGreatCard : Claim7 := { stood := { row := chainGreatRow, standIns := [], harness := (true, "4f9bf1f4328ab94d7df278fa21ce3b4a3235cc29cdf552ad17a10c92b380c102"), looks := false }, kinds := [], alts := [], laidByText := true, laidKinds := [.data, .data, .data], laidTests := true, laidLooks := .later }
def ChainGreatCardSaid : Prop := Claim7.holds Tryd.pinned (.plain (OpenSpec.ofChange chainGreatSpec)) chainGreatCard

/-- THE TIED CARD OF 'kilnlaw6.ChainReads'. -/
def chainReadsCard : Claim7 := { stood := { row := chainReadsRow, standIns := [], harness := (true, "4f9bf1f4328ab94d7df278fa21ce3b4a3235cc29cdf552ad17a10c92b380c102"), looks := false }, kinds := [], alts := [], laidByText := true, laidKinds := [.data, .data, .data], laidTests := true, laidLooks := .later }
def ChainReadsCardSaid : Prop := Claim7.holds Tryd.pinned (.plain (OpenSpec.ofChange chainReadsSpec)) chainReadsCard

/-- THE TIED CARD OF 'kilnlaw6.ChainEnds'. -/
def chainEndsCard : Claim7 := { stood := { row := chainEndsRow, standIns := [], harness := (true, "4f9bf1f4328ab94d7df278fa21ce3b4a3235cc29cdf552ad17a10c92b380c102"), looks := false }, kinds := [], alts := [], laidByText := true, laidKinds := [.data, .data, .data], laidTests := true, laidLooks := .later }
def ChainEndsCardSaid : Prop := Claim7.holds Tryd.pinned (.plain (OpenSpec.ofChange chainEndsSpec)) chainEndsCard

/-- THE TIED CARD OF 'kilnlaw6.ChainBack'. -/
def chainBackCard : Claim7 := { stood := { row := chainBackRow, standIns := [], harness := (true, "4f9bf1f4328ab94d7df278fa21ce3b4a3235cc29cdf552ad17a10c92b380c102"), looks := false }, kinds := [], alts := [], laidByText := true, laidKinds := [.data, .data, .data], laidTests := true, laidLooks := .later }
def ChainBackCardSaid : Prop := Claim7.holds Tryd.pinned (.plain (OpenSpec.ofChange chainBackSpec)) chainBackCard

/-- THE TIED CARD OF 'kilnlaw6.ChainWrites'. -/
def chainWritesCard : Claim7 := { stood := { row := chainWritesRow, standIns := [], harness := (true, "4f9bf1f4328ab94d7df278fa21ce3b4a3235cc29cdf552ad17a10c92b380c102"), looks := false }, kinds := [], alts := [], laidByText := true, laidKinds := [.data, .data, .data], laidTests := true, laidLooks := .later }
def ChainWritesCardSaid : Prop := Claim7.holds Tryd.pinned (.plain (OpenSpec.ofChange chainWritesSpec)) chainWritesCard

/-- THE TIED CARD OF 'kilnlaw6.ChainTells'. -/
def chainTellsCard : Claim7 := { stood := { row := chainTellsRow, standIns := [], harness := (true, "4f9bf1f4328ab94d7df278fa21ce3b4a3235cc29cdf552ad17a10c92b380c102"), looks := false }, kinds := [], alts := [], laidByText := true, laidKinds := [.data, .data, .data], laidTests := true, laidLooks := .later }
def ChainTellsCardSaid : Prop := Claim7.holds Tryd.pinned (.plain (OpenSpec.ofChange chainTellsSpec)) chainTellsCard

/-- THE SECOND FORM's CARD OF 'kilnlaw6.ChainLent'. -/
def chainLentUptoCard : Claim7 := { stood := { row := chainLentUptoRow, standIns := [], harness := (true, "4f9bf1f4328ab94d7df278fa21ce3b4a3235cc29cdf552ad17a10c92b380c102"), looks := false }, kinds := [], alts := [], laidByText := true, laidKinds := [.data, .data, .data], laidTests := true, laidLooks := .later }
def ChainLentUptoCardSaid : Prop := Claim7.holds Tryd.pinned (.plain (OpenSpec.upto chainLentSpec)) chainLentUptoCard

/-- THE SECOND FORM's CARD OF 'kilnlaw6.ChainTurns'. -/
def chainTurnsUptoCard : Claim7 := { stood := { row := chainTurnsUptoRow, standIns := [], harness := (true, "4f9bf1f4328ab94d7df278fa21ce3b4a3235cc29cdf552ad17a10c92b380c102"), looks := false }, kinds := [], alts := [], laidByText := true, laidKinds := [.data, .data, .data], laidTests := true, laidLooks := .later }
def ChainTurnsUptoCardSaid : Prop := Claim7.holds Tryd.pinned (.plain (OpenSpec.upto chainTurnsSpec)) chainTurnsUptoCard

/-- THE SECOND FORM's CARD OF 'kilnlaw6.ChainBytes'. -/
def chainBytesUptoCard : Claim7 := { stood := { row := chainBytesUptoRow, standIns := [], harness := (true, "4f9bf1f4328ab94d7df278fa21ce3b4a3235cc29cdf552ad17a10c92b380c102"), looks := false }, kinds := [], alts := [], laidByText := true, laidKinds := [.data, .data, .data], laidTests := true, laidLooks := .later }
def ChainBytesUptoCardSaid : Prop := Claim7.holds Tryd.pinned (.plain (OpenSpec.upto chainBytesSpec)) chainBytesUptoCard

/-- THE SECOND FORM's CARD OF 'kilnlaw6.ChainAgain'. -/
def chainAgainUptoCard : Claim7 := { stood := { row := chainAgainUptoRow, standIns := [], harness := (true, "4f9bf1f4328ab94d7df278fa21ce3b4a3235cc29cdf552ad17a10c92b380c102"), looks := false }, kinds := [], alts := [], laidByText := true, laidKinds := [.data, .data, .data], laidTests := true, laidLooks := .later }
def ChainAgainUptoCardSaid : Prop := Claim7.holds Tryd.pinned (.plain (OpenSpec.upto chainAgainSpec)) chainAgainUptoCard

/-- THE SECOND FORM's CARD OF 'kilnlaw6.ChainGreat'. -/
def chainGreatUptoCard : Claim7 := { stood := { row := chainGreatUptoRow, standIns := [], harness := (true, "4f9bf1f4328ab94d7df278fa21ce3b4a3235cc29cdf552ad17a10c92b380c102"), looks := false }, kinds := [], alts := [], laidByText := true, laidKinds := [.data, .data, .data], laidTests := true, laidLooks := .later }
def ChainGreatUptoCardSaid : Prop := Claim7.holds Tryd.pinned (.plain (OpenSpec.upto chainGreatSpec)) chainGreatUptoCard

/-- THE SECOND FORM's CARD OF 'kilnlaw6.ChainReads'. -/
def chainReadsUptoCard : Claim7 := { stood := { row := chainReadsUptoRow, standIns := [], harness := (true, "4f9bf1f4328ab94d7df278fa21ce3b4a3235cc29cdf552ad17a10c92b380c102"), looks := false }, kinds := [], alts := [], laidByText := true, laidKinds := [.data, .data, .data], laidTests := true, laidLooks := .later }
def ChainReadsUptoCardSaid : Prop := Claim7.holds Tryd.pinned (.plain (OpenSpec.upto chainReadsSpec)) chainReadsUptoCard

/-- THE SECOND FORM's CARD OF 'kilnlaw6.ChainEnds'. -/
def chainEndsUptoCard : Claim7 := { stood := { row := chainEndsUptoRow, standIns := [], harness := (true, "4f9bf1f4328ab94d7df278fa21ce3b4a3235cc29cdf552ad17a10c92b380c102"), looks := false }, kinds := [], alts := [], laidByText := true, laidKinds := [.data, .data, .data], laidTests := true, laidLooks := .later }
def ChainEndsUptoCardSaid : Prop := Claim7.holds Tryd.pinned (.plain (OpenSpec.upto chainEndsSpec)) chainEndsUptoCard

/-- THE SECOND FORM's CARD OF 'kilnlaw6.ChainBack'. -/
def chainBackUptoCard : Claim7 := { stood := { row := chainBackUptoRow, standIns := [], harness := (true, "4f9bf1f4328ab94d7df278fa21ce3b4a3235cc29cdf552ad17a10c92b380c102"), looks := false }, kinds := [], alts := [], laidByText := true, laidKinds := [.data, .data, .data], laidTests := true, laidLooks := .later }
def ChainBackUptoCardSaid : Prop := Claim7.holds Tryd.pinned (.plain (OpenSpec.upto chainBackSpec)) chainBackUptoCard

/-- THE SECOND FORM's CARD OF 'kilnlaw6.ChainWrites'. -/
def chainWritesUptoCard : Claim7 := { stood := { row := chainWritesUptoRow, standIns := [], harness := (true, "4f9bf1f4328ab94d7df278fa21ce3b4a3235cc29cdf552ad17a10c92b380c102"), looks := false }, kinds := [], alts := [], laidByText := true, laidKinds := [.data, .data, .data], laidTests := true, laidLooks := .later }
def ChainWritesUptoCardSaid : Prop := Claim7.holds Tryd.pinned (.plain (OpenSpec.upto chainWritesSpec)) chainWritesUptoCard

/-- THE SECOND FORM's CARD OF 'kilnlaw6.ChainTells'. -/
def chainTellsUptoCard : Claim7 := { stood := { row := chainTellsUptoRow, standIns := [], harness := (true, "4f9bf1f4328ab94d7df278fa21ce3b4a3235cc29cdf552ad17a10c92b380c102"), looks := false }, kinds := [], alts := [], laidByText := true, laidKinds := [.data, .data, .data], laidTests := true, laidLooks := .later }
def ChainTellsUptoCardSaid : Prop := Claim7.holds Tryd.pinned (.plain (OpenSpec.upto chainTellsSpec)) chainTellsUptoCard
end Rows
end Go.Proofs.YtgcpcgcfpjolnaaDoor
