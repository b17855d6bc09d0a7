/-
  DERIVED. GIVEN WITH THE SEED: THE PROGRAM's TIES (one call each: nine closed facts by the kernel) AND EACH ROW's TIE, after the 31st guide's Derived/Test/Toyas{Tie, Card}.lean. No idea stands in it: it is a product of the set-up. Laid BY PROGRAM, IN A SANDBOX (cutbox-door.mjs). By AI agents, Wed Nov 11 2026. No macro, syntax, notation, axiom, sorry.
-/
import Derived.Test.YtpenkemabeonaaaDoorRows
import Derived.LaidByTextLater
import Derived.SevenTiedAt
import Derived.LaidSub
import Derived.LaidOnce
namespace Go.Proofs.YtpenkemabeonaaaDoor
open Go
set_option maxRecDepth 100000
theorem seatTie1 : Tryd.prog.laidByTextLater [("sheafworks/word.deeds", Rows.laid_sheafworks_word_deeds), ("sheafworks/word.laws", Rows.laid_sheafworks_word_laws), ("sheafworks/word.neutrals", Rows.laid_sheafworks_word_neutrals)] [.funcs, .data, .data] true :=
  Program.laidByTextLater_by_one 32 8 37 (by kernel_rfl) (by kernel_rfl) (by kernel_rfl) (by kernel_rfl) (by kernel_rfl) (by kernel_rfl) (fun _ _ => by kernel_rfl)
theorem noOwnUnsafe : Tryd.pinned.checked.prog.headLifts.contains "ownunsafe" = false := by kernel_rfl
theorem tie : Tryd.prog.laidByTextLater [("sheafworks/word.deeds", Rows.laid_sheafworks_word_deeds), ("sheafworks/word.laws", Rows.laid_sheafworks_word_laws), ("sheafworks/word.neutrals", Rows.laid_sheafworks_word_neutrals)] [.funcs, .data, .data] true :=
  Program.laidByTextLater.sub seatTie1 ["sheafworks/word.deeds", "sheafworks/word.laws", "sheafworks/word.neutrals"] (by kernel_rfl) (by kernel_rfl)
theorem scanFolds_row_tie : Rows.scanFoldsRow.laidByTextAt .later Tryd.pinned [.funcs, .data, .data] true :=
  OpenClaim.laidByTextAt_later rfl rfl tie noOwnUnsafe
theorem scanTrees_row_tie : Rows.scanTreesRow.laidByTextAt .later Tryd.pinned [.funcs, .data, .data] true :=
  OpenClaim.laidByTextAt_later rfl rfl tie noOwnUnsafe
theorem scanDowns_row_tie : Rows.scanDownsRow.laidByTextAt .later Tryd.pinned [.funcs, .data, .data] true :=
  OpenClaim.laidByTextAt_later rfl rfl tie noOwnUnsafe
theorem scanFlags_row_tie : Rows.scanFlagsRow.laidByTextAt .later Tryd.pinned [.funcs, .data, .data] true :=
  OpenClaim.laidByTextAt_later rfl rfl tie noOwnUnsafe
theorem scanShapes_row_tie : Rows.scanShapesRow.laidByTextAt .later Tryd.pinned [.funcs, .data, .data] true :=
  OpenClaim.laidByTextAt_later rfl rfl tie noOwnUnsafe
theorem scanBlocks_row_tie : Rows.scanBlocksRow.laidByTextAt .later Tryd.pinned [.funcs, .data, .data] true :=
  OpenClaim.laidByTextAt_later rfl rfl tie noOwnUnsafe
theorem scanParts_row_tie : Rows.scanPartsRow.laidByTextAt .later Tryd.pinned [.funcs, .data, .data] true :=
  OpenClaim.laidByTextAt_later rfl rfl tie noOwnUnsafe
theorem scanFlagged_row_tie : Rows.scanFlaggedRow.laidByTextAt .later Tryd.pinned [.funcs, .data, .data] true :=
  OpenClaim.laidByTextAt_later rfl rfl tie noOwnUnsafe
theorem scanKnown_row_tie : Rows.scanKnownRow.laidByTextAt .later Tryd.pinned [.funcs, .data, .data] true :=
  OpenClaim.laidByTextAt_later rfl rfl tie noOwnUnsafe
theorem scanFoldsUpto_row_tie : Rows.scanFoldsUptoRow.laidByTextAt .later Tryd.pinned [.funcs, .data, .data] true :=
  OpenClaim.laidByTextAt_later rfl rfl tie noOwnUnsafe
theorem scanTreesUpto_row_tie : Rows.scanTreesUptoRow.laidByTextAt .later Tryd.pinned [.funcs, .data, .data] true :=
  OpenClaim.laidByTextAt_later rfl rfl tie noOwnUnsafe
theorem scanDownsUpto_row_tie : Rows.scanDownsUptoRow.laidByTextAt .later Tryd.pinned [.funcs, .data, .data] true :=
  OpenClaim.laidByTextAt_later rfl rfl tie noOwnUnsafe
theorem scanFlagsUpto_row_tie : Rows.scanFlagsUptoRow.laidByTextAt .later Tryd.pinned [.funcs, .data, .data] true :=
  OpenClaim.laidByTextAt_later rfl rfl tie noOwnUnsafe
theorem scanShapesUpto_row_tie : Rows.scanShapesUptoRow.laidByTextAt .later Tryd.pinned [.funcs, .data, .data] true :=
  OpenClaim.laidByTextAt_later rfl rfl tie noOwnUnsafe
theorem scanBlocksUpto_row_tie : Rows.scanBlocksUptoRow.laidByTextAt .later Tryd.pinned [.funcs, .data, .data] true :=
  OpenClaim.laidByTextAt_later rfl rfl tie noOwnUnsafe
theorem scanPartsUpto_row_tie : Rows.scanPartsUptoRow.laidByTextAt .later Tryd.pinned [.funcs, .data, .data] true :=
  OpenClaim.laidByTextAt_later rfl rfl tie noOwnUnsafe
theorem scanFlaggedUpto_row_tie : Rows.scanFlaggedUptoRow.laidByTextAt .later Tryd.pinned [.funcs, .data, .data] true :=
  OpenClaim.laidByTextAt_later rfl rfl tie noOwnUnsafe
theorem scanKnownUpto_row_tie : Rows.scanKnownUptoRow.laidByTextAt .later Tryd.pinned [.funcs, .data, .data] true :=
  OpenClaim.laidByTextAt_later rfl rfl tie noOwnUnsafe
end Go.Proofs.YtpenkemabeonaaaDoor
