/-
  DERIVED. GIVEN WITH THE SEED: THE CARDS: each row of YtpenkemabeonaaaDoorRows.lean that lists a variable, with what it lists TIED to the program's text (the seventh form; the later family's looks); each row that meets fmt, with fmt's text TOLD by the authors' own Lean function (tested against real Go, not proved from fmt's source: count such statements apart). THE CARD IS WHAT COUNTS. Prove the row's statement (the work); the ties are given (YtpenkemabeonaaaDoorTie.lean); close each card by the builder's one call (the guide's Derived/Test/ToyasCard.lean, 'card_holds'). Laid BY PROGRAM, IN A SANDBOX (cutbox-door.mjs). By AI agents, Wed Nov 11 2026. No macro, syntax, notation, axiom, sorry.
-/
import Derived.Test.YtpenkemabeonaaaDoorRows
import GoSem.ClaimSeven
namespace Go.Proofs.YtpenkemabeonaaaDoor
namespace Rows

/-- THE TIED CARD OF 'sheafworkslaw05.ScanFolds'. -/
def scanFoldsCard : Claim7 := { stood := { row := scanFoldsRow, standIns := [], harness := (true, "5470da854c8ac0911450a1205885e2032124412bbbe0a45e99668dba676afc45"), looks := false }, kinds := [], alts := [], laidByText := true, laidKinds := [.funcs, .data, .data], laidTests := true, laidLooks := .later }
def ScanFoldsCardSaid : Prop := Claim7.holds Tryd.pinned (.plain (OpenSpec.ofChange scanFoldsSpec)) scanFoldsCard

/-- THE TIED CARD OF 'sheafworkslaw05.ScanTrees'. -/
def scanTreesCard : Claim7 := { stood := { row := scanTreesRow, standIns := [], harness := (true, "5470da854c8ac0911450a1205885e2032124412bbbe0a45e99668dba676afc45"), looks := false }, kinds := [], alts := [], laidByText := true, laidKinds := [.funcs, .data, .data], laidTests := true, laidLooks := .later }
def ScanTreesCardSaid : Prop := Claim7.holds Tryd.pinned (.plain (OpenSpec.ofChange scanTreesSpec)) scanTreesCard

/-- THE TIED CARD OF 'sheafworkslaw05.ScanDowns'. -/
def scanDownsCard : Claim7 := { stood := { row := scanDownsRow, standIns := [], harness := (true, "5470da854c8ac0911450a1205885e2032124412bbbe0a45e99668dba676afc45"), looks := false }, kinds := [], alts := [], laidByText := true, laidKinds := [.funcs, .data, .data], laidTests := true, laidLooks := .later }
def ScanDownsCardSaid : Prop := Claim7.holds Tryd.pinned (.plain (OpenSpec.ofChange scanDownsSpec)) scanDownsCard

/-- THE TIED CARD OF 'sheafworkslaw05.ScanFlags'. -/
def scanFlagsCard : Claim7 := { stood := { row := scanFlagsRow, standIns := [], harness := (true, "5470da854c8ac0911450a1205885e2032124412bbbe0a45e99668dba676afc45"), looks := false }, kinds := [], alts := [], laidByText := true, laidKinds := [.funcs, .data, .data], laidTests := true, laidLooks := .later }
def ScanFlagsCardSaid : Prop := Claim7.holds Tryd.pinned (.plain (OpenSpec.ofChange scanFlagsSpec)) scanFlagsCard

/-- THE TIED CARD OF 'sheafworkslaw05.ScanShapes'. -/
def scanShapesCard : Claim7 := { stood := { row := scanShapesRow, standIns := [], harness := (true, "5470da854c8ac0911450a1205885e2032124412bbbe0a45e99668dba676afc45"), looks := false }, kinds := [], alts := [], laidByText := true, laidKinds := [.funcs, .data, .data], laidTests := true, laidLooks := .later }
def ScanShapesCardSaid : Prop := Claim7.holds Tryd.pinned (.plain (OpenSpec.ofChange scanShapesSpec)) scanShapesCard

/-- THE TIED CARD OF 'sheafworkslaw05.ScanBlocks'. -/
def scanBlocksCard : Claim7 := { stood := { row := scanBlocksRow, standIns := [], harness := (true, "5470da854c8ac0911450a1205885e2032124412bbbe0a45e99668dba676afc45"), looks := false }, kinds := [], alts := [], laidByText := true, laidKinds := [.funcs, .data, .data], laidTests := true, laidLooks := .later }
def ScanBlocksCardSaid : Prop := Claim7.holds Tryd.pinned (.plain (OpenSpec.ofChange scanBlocksSpec)) scanBlocksCard

/-- THE TIED CARD OF 'sheafworkslaw05.ScanParts'. -/
def scanPartsCard : Claim7 := { stood := { row := scanPartsRow, standIns := [], harness := (true, "5470da854c8ac0911450a1205885e2032124412bbbe0a45e99668dba676afc45"), looks := false }, kinds := [], alts := [], laidByText := true, laidKinds := [.funcs, .data, .data], laidTests := true, laidLooks := .later }
def ScanPartsCardSaid : Prop := Claim7.holds Tryd.pinned (.plain (OpenSpec.ofChange scanPartsSpec)) scanPartsCard

/-- THE TIED CARD OF 'sheafworkslaw05.ScanFlagged'. -/
def scanFlaggedCard : Claim7 := { stood := { row := scanFlaggedRow, standIns := [], harness := (true, "5470da854c8ac0911450a1205885e2032124412bbbe0a45e99668dba676afc45"), looks := false }, kinds := [], alts := [], laidByText := true, laidKinds := [.funcs, .data, .data], laidTests := true, laidLooks := .later }
def ScanFlaggedCardSaid : Prop := Claim7.holds Tryd.pinned (.plain (OpenSpec.ofChange scanFlaggedSpec)) scanFlaggedCard

/-- THE TIED CARD OF 'sheafworkslaw05.ScanKnown'. -/
def scanKnownCard : Claim7 := { stood := { row := scanKnownRow, standIns := [], harness := (true, "5470da854c8ac0911450a1205885e2032124412bbbe0a45e99668dba676afc45"), looks := false }, kinds := [], alts := [], laidByText := true, laidKinds := [.funcs, .data, .data], laidTests := true, laidLooks := .later }
def ScanKnownCardSaid : Prop := Claim7.holds Tryd.pinned (.plain (OpenSpec.ofChange scanKnownSpec)) scanKnownCard

/-- THE SECOND FORM's CARD OF 'sheafworkslaw05.ScanFolds'. -/
def scanFoldsUptoCard : Claim7 := { stood := { row := scanFoldsUptoRow, standIns := [], harness := (true, "5470da854c8ac0911450a1205885e2032124412bbbe0a45e99668dba676afc45"), looks := false }, kinds := [], alts := [], laidByText := true, laidKinds := [.funcs, .data, .data], laidTests := true, laidLooks := .later }
def ScanFoldsUptoCardSaid : Prop := Claim7.holds Tryd.pinned (.plain (OpenSpec.upto scanFoldsSpec)) scanFoldsUptoCard

/-- THE SECOND FORM's CARD OF 'sheafworkslaw05.ScanTrees'. -/
def scanTreesUptoCard : Claim7 := { stood := { row := scanTreesUptoRow, standIns := [], harness := (true, "5470da854c8ac0911450a1205885e2032124412bbbe0a45e99668dba676afc45"), looks := false }, kinds := [], alts := [], laidByText := true, laidKinds := [.funcs, .data, .data], laidTests := true, laidLooks := .later }
def ScanTreesUptoCardSaid : Prop := Claim7.holds Tryd.pinned (.plain (OpenSpec.upto scanTreesSpec)) scanTreesUptoCard

/-- THE SECOND FORM's CARD OF 'sheafworkslaw05.ScanDowns'. -/
def scanDownsUptoCard : Claim7 := { stood := { row := scanDownsUptoRow, standIns := [], harness := (true, "5470da854c8ac0911450a1205885e2032124412bbbe0a45e99668dba676afc45"), looks := false }, kinds := [], alts := [], laidByText := true, laidKinds := [.funcs, .data, .data], laidTests := true, laidLooks := .later }
def ScanDownsUptoCardSaid : Prop := Claim7.holds Tryd.pinned (.plain (OpenSpec.upto scanDownsSpec)) scanDownsUptoCard

/-- THE SECOND FORM's CARD OF 'sheafworkslaw05.ScanFlags'. -/
def scanFlagsUptoCard : Claim7 := { stood := { row := scanFlagsUptoRow, standIns := [], harness := (true, "5470da854c8ac0911450a1205885e2032124412bbbe0a45e99668dba676afc45"), looks := false }, kinds := [], alts := [], laidByText := true, laidKinds := [.funcs, .data, .data], laidTests := true, laidLooks := .later }
def ScanFlagsUptoCardSaid : Prop := Claim7.holds Tryd.pinned (.plain (OpenSpec.upto scanFlagsSpec)) scanFlagsUptoCard

/-- THE SECOND FORM's CARD OF 'sheafworkslaw05.ScanShapes'. -/
def scanShapesUptoCard : Claim7 := { stood := { row := scanShapesUptoRow, standIns := [], harness := (true, "5470da854c8ac0911450a1205885e2032124412bbbe0a45e99668dba676afc45"), looks := false }, kinds := [], alts := [], laidByText := true, laidKinds := [.funcs, .data, .data], laidTests := true, laidLooks := .later }
def ScanShapesUptoCardSaid : Prop := Claim7.holds Tryd.pinned (.plain (OpenSpec.upto scanShapesSpec)) scanShapesUptoCard

/-- THE SECOND FORM's CARD OF 'sheafworkslaw05.ScanBlocks'. -/
def scanBlocksUptoCard : Claim7 := { stood := { row := scanBlocksUptoRow, standIns := [], harness := (true, "5470da854c8ac0911450a1205885e2032124412bbbe0a45e99668dba676afc45"), looks := false }, kinds := [], alts := [], laidByText := true, laidKinds := [.funcs, .data, .data], laidTests := true, laidLooks := .later }
def ScanBlocksUptoCardSaid : Prop := Claim7.holds Tryd.pinned (.plain (OpenSpec.upto scanBlocksSpec)) scanBlocksUptoCard

/-- THE SECOND FORM's CARD OF 'sheafworkslaw05.ScanParts'. -/
def scanPartsUptoCard : Claim7 := { stood := { row := scanPartsUptoRow, standIns := [], harness := (true, "5470da854c8ac0911450a1205885e2032124412bbbe0a45e99668dba676afc45"), looks := false }, kinds := [], alts := [], laidByText := true, laidKinds := [.funcs, .data, .data], laidTests := true, laidLooks := .later }
def ScanPartsUptoCardSaid : Prop := Claim7.holds Tryd.pinned (.plain (OpenSpec.upto scanPartsSpec)) scanPartsUptoCard

/-- THE SECOND FORM's CARD OF 'sheafworkslaw05.ScanFlagged'. -/
def scanFlaggedUptoCard : Claim7 := { stood := { row := scanFlaggedUptoRow, standIns := [], harness := (true, "5470da854c8ac0911450a1205885e2032124412bbbe0a45e99668dba676afc45"), looks := false }, kinds := [], alts := [], laidByText := true, laidKinds := [.funcs, .data, .data], laidTests := true, laidLooks := .later }
def ScanFlaggedUptoCardSaid : Prop := Claim7.holds Tryd.pinned (.plain (OpenSpec.upto scanFlaggedSpec)) scanFlaggedUptoCard

/-- THE SECOND FORM's CARD OF 'sheafworkslaw05.ScanKnown'. -/
def scanKnownUptoCard : Claim7 := { stood := { row := scanKnownUptoRow, standIns := [], harness := (true, "5470da854c8ac0911450a1205885e2032124412bbbe0a45e99668dba676afc45"), looks := false }, kinds := [], alts := [], laidByText := true, laidKinds := [.funcs, .data, .data], laidTests := true, laidLooks := .later }
def ScanKnownUptoCardSaid : Prop := Claim7.holds Tryd.pinned (.plain (OpenSpec.upto scanKnownSpec)) scanKnownUptoCard
end Rows
end Go.Proofs.YtpenkemabeonaaaDoor
