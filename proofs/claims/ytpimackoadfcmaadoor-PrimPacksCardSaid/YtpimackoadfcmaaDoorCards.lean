/-
  DERIVED. GIVEN WITH THE SEED: THE CARDS: each row of YtpimackoadfcmaaDoorRows.lean that lists a variable, with what it lists TIED to the program's text (the seventh form; the later family's looks); each row that meets fmt, with fmt's text TOLD by the authors' own Lean function (tested against real Go, not proved from fmt's source: count such statements apart). THE CARD IS WHAT COUNTS. Prove the row's statement (the work); the ties are given (YtpimackoadfcmaaDoorTie.lean); close each card by the builder's one call (the guide's Derived/Test/ToyasCard.lean, 'card_holds'). Laid BY PROGRAM, IN A SANDBOX (cutbox-door.mjs). By AI agents, Wed Nov 11 2026. No macro, syntax, notation, axiom, sorry.
-/
import Derived.Test.YtpimackoadfcmaaDoorRows
import GoSem.ClaimSeven
namespace Go.Proofs.YtpimackoadfcmaaDoor
namespace Rows

/-- THE TIED CARD OF 'sheafworkslaw04.PrimPlaces'. -/
def primPlacesCard : Claim7 := { stood := { row := primPlacesRow, standIns := [], harness := (true, "c48142069686eda1f245f4174541a761d0ed2a85e4383fa61a5a23a4d37df986"), looks := false }, kinds := [], alts := [], laidByText := true, laidKinds := [.funcs], laidTests := true, laidLooks := .later }
def PrimPlacesCardSaid : Prop := Claim7.holds Tryd.pinned (.plain (OpenSpec.ofChange primPlacesSpec)) primPlacesCard

/-- THE TIED CARD OF 'sheafworkslaw04.PrimPacks'. -/
def primPacksCard : Claim7 := { stood := { row := primPacksRow, standIns := [], harness := (true, "c48142069686eda1f245f4174541a761d0ed2a85e4383fa61a5a23a4d37df986"), looks := false }, kinds := [], alts := [], laidByText := true, laidKinds := [.funcs], laidTests := true, laidLooks := .later }
def PrimPacksCardSaid : Prop := Claim7.holds Tryd.pinned (.plain (OpenSpec.ofChange primPacksSpec)) primPacksCard

/-- THE TIED CARD OF 'sheafworkslaw04.PrimMoves'. -/
def primMovesCard : Claim7 := { stood := { row := primMovesRow, standIns := [], harness := (true, "c48142069686eda1f245f4174541a761d0ed2a85e4383fa61a5a23a4d37df986"), looks := false }, kinds := [], alts := [], laidByText := true, laidKinds := [.funcs], laidTests := true, laidLooks := .later }
def PrimMovesCardSaid : Prop := Claim7.holds Tryd.pinned (.plain (OpenSpec.ofChange primMovesSpec)) primMovesCard

/-- THE TIED CARD OF 'sheafworkslaw04.PrimCounts'. -/
def primCountsCard : Claim7 := { stood := { row := primCountsRow, standIns := [], harness := (true, "c48142069686eda1f245f4174541a761d0ed2a85e4383fa61a5a23a4d37df986"), looks := false }, kinds := [], alts := [], laidByText := true, laidKinds := [.funcs], laidTests := true, laidLooks := .later }
def PrimCountsCardSaid : Prop := Claim7.holds Tryd.pinned (.plain (OpenSpec.ofChange primCountsSpec)) primCountsCard

/-- THE TIED CARD OF 'sheafworkslaw04.PrimMerged'. -/
def primMergedCard : Claim7 := { stood := { row := primMergedRow, standIns := [], harness := (true, "c48142069686eda1f245f4174541a761d0ed2a85e4383fa61a5a23a4d37df986"), looks := false }, kinds := [], alts := [], laidByText := true, laidKinds := [.funcs], laidTests := true, laidLooks := .later }
def PrimMergedCardSaid : Prop := Claim7.holds Tryd.pinned (.plain (OpenSpec.ofChange primMergedSpec)) primMergedCard

/-- THE TIED CARD OF 'sheafworkslaw04.PrimPlaced'. -/
def primPlacedCard : Claim7 := { stood := { row := primPlacedRow, standIns := [], harness := (true, "c48142069686eda1f245f4174541a761d0ed2a85e4383fa61a5a23a4d37df986"), looks := false }, kinds := [], alts := [], laidByText := true, laidKinds := [.funcs], laidTests := true, laidLooks := .later }
def PrimPlacedCardSaid : Prop := Claim7.holds Tryd.pinned (.plain (OpenSpec.ofChange primPlacedSpec)) primPlacedCard

/-- THE TIED CARD OF 'sheafworkslaw04.PrimRepeated'. -/
def primRepeatedCard : Claim7 := { stood := { row := primRepeatedRow, standIns := [], harness := (true, "c48142069686eda1f245f4174541a761d0ed2a85e4383fa61a5a23a4d37df986"), looks := false }, kinds := [], alts := [], laidByText := true, laidKinds := [.funcs], laidTests := true, laidLooks := .later }
def PrimRepeatedCardSaid : Prop := Claim7.holds Tryd.pinned (.plain (OpenSpec.ofChange primRepeatedSpec)) primRepeatedCard

/-- THE TIED CARD OF 'sheafworkslaw04.PrimAlike'. -/
def primAlikeCard : Claim7 := { stood := { row := primAlikeRow, standIns := [], harness := (true, "c48142069686eda1f245f4174541a761d0ed2a85e4383fa61a5a23a4d37df986"), looks := false }, kinds := [], alts := [], laidByText := true, laidKinds := [.funcs], laidTests := true, laidLooks := .later }
def PrimAlikeCardSaid : Prop := Claim7.holds Tryd.pinned (.plain (OpenSpec.ofChange primAlikeSpec)) primAlikeCard

/-- THE TIED CARD OF 'sheafworkslaw04.PrimWoven'. -/
def primWovenCard : Claim7 := { stood := { row := primWovenRow, standIns := [], harness := (true, "c48142069686eda1f245f4174541a761d0ed2a85e4383fa61a5a23a4d37df986"), looks := false }, kinds := [], alts := [], laidByText := true, laidKinds := [.funcs], laidTests := true, laidLooks := .later }
def PrimWovenCardSaid : Prop := Claim7.holds Tryd.pinned (.plain (OpenSpec.ofChange primWovenSpec)) primWovenCard

/-- THE TIED CARD OF 'sheafworkslaw04.PrimKnown'. -/
def primKnownCard : Claim7 := { stood := { row := primKnownRow, standIns := [], harness := (true, "c48142069686eda1f245f4174541a761d0ed2a85e4383fa61a5a23a4d37df986"), looks := false }, kinds := [], alts := [], laidByText := true, laidKinds := [.funcs], laidTests := true, laidLooks := .later }
def PrimKnownCardSaid : Prop := Claim7.holds Tryd.pinned (.plain (OpenSpec.ofChange primKnownSpec)) primKnownCard

/-- THE SECOND FORM's CARD OF 'sheafworkslaw04.PrimPlaces'. -/
def primPlacesUptoCard : Claim7 := { stood := { row := primPlacesUptoRow, standIns := [], harness := (true, "c48142069686eda1f245f4174541a761d0ed2a85e4383fa61a5a23a4d37df986"), looks := false }, kinds := [], alts := [], laidByText := true, laidKinds := [.funcs], laidTests := true, laidLooks := .later }
def PrimPlacesUptoCardSaid : Prop := Claim7.holds Tryd.pinned (.plain (OpenSpec.upto primPlacesSpec)) primPlacesUptoCard

/-- THE SECOND FORM's CARD OF 'sheafworkslaw04.PrimPacks'. -/
def primPacksUptoCard : Claim7 := { stood := { row := primPacksUptoRow, standIns := [], harness := (true, "c48142069686eda1f245f4174541a761d0ed2a85e4383fa61a5a23a4d37df986"), looks := false }, kinds := [], alts := [], laidByText := true, laidKinds := [.funcs], laidTests := true, laidLooks := .later }
def PrimPacksUptoCardSaid : Prop := Claim7.holds Tryd.pinned (.plain (OpenSpec.upto primPacksSpec)) primPacksUptoCard

/-- THE SECOND FORM's CARD OF 'sheafworkslaw04.PrimMoves'. -/
def primMovesUptoCard : Claim7 := { stood := { row := primMovesUptoRow, standIns := [], harness := (true, "c48142069686eda1f245f4174541a761d0ed2a85e4383fa61a5a23a4d37df986"), looks := false }, kinds := [], alts := [], laidByText := true, laidKinds := [.funcs], laidTests := true, laidLooks := .later }
def PrimMovesUptoCardSaid : Prop := Claim7.holds Tryd.pinned (.plain (OpenSpec.upto primMovesSpec)) primMovesUptoCard

/-- THE SECOND FORM's CARD OF 'sheafworkslaw04.PrimCounts'. -/
def primCountsUptoCard : Claim7 := { stood := { row := primCountsUptoRow, standIns := [], harness := (true, "c48142069686eda1f245f4174541a761d0ed2a85e4383fa61a5a23a4d37df986"), looks := false }, kinds := [], alts := [], laidByText := true, laidKinds := [.funcs], laidTests := true, laidLooks := .later }
def PrimCountsUptoCardSaid : Prop := Claim7.holds Tryd.pinned (.plain (OpenSpec.upto primCountsSpec)) primCountsUptoCard

/-- THE SECOND FORM's CARD OF 'sheafworkslaw04.PrimMerged'. -/
def primMergedUptoCard : Claim7 := { stood := { row := primMergedUptoRow, standIns := [], harness := (true, "c48142069686eda1f245f4174541a761d0ed2a85e4383fa61a5a23a4d37df986"), looks := false }, kinds := [], alts := [], laidByText := true, laidKinds := [.funcs], laidTests := true, laidLooks := .later }
def PrimMergedUptoCardSaid : Prop := Claim7.holds Tryd.pinned (.plain (OpenSpec.upto primMergedSpec)) primMergedUptoCard

/-- THE SECOND FORM's CARD OF 'sheafworkslaw04.PrimPlaced'. -/
def primPlacedUptoCard : Claim7 := { stood := { row := primPlacedUptoRow, standIns := [], harness := (true, "c48142069686eda1f245f4174541a761d0ed2a85e4383fa61a5a23a4d37df986"), looks := false }, kinds := [], alts := [], laidByText := true, laidKinds := [.funcs], laidTests := true, laidLooks := .later }
def PrimPlacedUptoCardSaid : Prop := Claim7.holds Tryd.pinned (.plain (OpenSpec.upto primPlacedSpec)) primPlacedUptoCard

/-- THE SECOND FORM's CARD OF 'sheafworkslaw04.PrimRepeated'. -/
def primRepeatedUptoCard : Claim7 := { stood := { row := primRepeatedUptoRow, standIns := [], harness := (true, "c48142069686eda1f245f4174541a761d0ed2a85e4383fa61a5a23a4d37df986"), looks := false }, kinds := [], alts := [], laidByText := true, laidKinds := [.funcs], laidTests := true, laidLooks := .later }
def PrimRepeatedUptoCardSaid : Prop := Claim7.holds Tryd.pinned (.plain (OpenSpec.upto primRepeatedSpec)) primRepeatedUptoCard

/-- THE SECOND FORM's CARD OF 'sheafworkslaw04.PrimAlike'. -/
def primAlikeUptoCard : Claim7 := { stood := { row := primAlikeUptoRow, standIns := [], harness := (true, "c48142069686eda1f245f4174541a761d0ed2a85e4383fa61a5a23a4d37df986"), looks := false }, kinds := [], alts := [], laidByText := true, laidKinds := [.funcs], laidTests := true, laidLooks := .later }
def PrimAlikeUptoCardSaid : Prop := Claim7.holds Tryd.pinned (.plain (OpenSpec.upto primAlikeSpec)) primAlikeUptoCard

/-- THE SECOND FORM's CARD OF 'sheafworkslaw04.PrimWoven'. -/
def primWovenUptoCard : Claim7 := { stood := { row := primWovenUptoRow, standIns := [], harness := (true, "c48142069686eda1f245f4174541a761d0ed2a85e4383fa61a5a23a4d37df986"), looks := false }, kinds := [], alts := [], laidByText := true, laidKinds := [.funcs], laidTests := true, laidLooks := .later }
def PrimWovenUptoCardSaid : Prop := Claim7.holds Tryd.pinned (.plain (OpenSpec.upto primWovenSpec)) primWovenUptoCard

/-- THE SECOND FORM's CARD OF 'sheafworkslaw04.PrimKnown'. -/
def primKnownUptoCard : Claim7 := { stood := { row := primKnownUptoRow, standIns := [], harness := (true, "c48142069686eda1f245f4174541a761d0ed2a85e4383fa61a5a23a4d37df986"), looks := false }, kinds := [], alts := [], laidByText := true, laidKinds := [.funcs], laidTests := true, laidLooks := .later }
def PrimKnownUptoCardSaid : Prop := Claim7.holds Tryd.pinned (.plain (OpenSpec.upto primKnownSpec)) primKnownUptoCard
end Rows
end Go.Proofs.YtpimackoadfcmaaDoor
