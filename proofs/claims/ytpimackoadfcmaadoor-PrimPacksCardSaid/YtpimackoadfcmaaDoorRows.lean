/-
  NARROWER THAN 'FOR EVERY INPUT', by the rows' own cells (each row's printed sentence says how): PrimPlaces: laid · PrimPacks: laid · PrimMoves: laid · PrimCounts: laid · PrimMerged: laid · PrimPlaced: laid · PrimRepeated: laid · PrimAlike: laid · PrimWoven: laid · PrimKnown: laid.
  DERIVED. THE GIVEN ROWS OF THIS SEAT. 10 by the template 'for every input the law returns true; each argument reads behind the call as it read before'; 0 by the template 'total and deterministic' (their statements: YtpimackoadfcmaaDoorTotals.lean).
  GIVEN WITH THE SEED: the statements are not yours to turn. If you find one false, say at which input.
  Laid BY PROGRAM, IN A SANDBOX (cutbox-rows.mjs): the forced cells as the released guide's own fill.sh prints them over the translation 5099c692272d4abc… (all of the seat's roots in one cut). By AI agents, Wed Nov 11 2026. No macro, syntax, notation, axiom, sorry.
-/
import Derived.Test.YtpimackoadfcmaaDoorChecked
import GoSem.Claim
import GoSem.ClaimJoined
import GoSem.ClaimMapViews
import Derived.JoinedTies
import Derived.KernelRfl
namespace Go.Proofs.YtpimackoadfcmaaDoor
/- THE CELL 'sum', in the pinned program and in every row, IS THE sha256 OF THE DUMP (.gsa) THAT YtpimackoadfcmaaDoorProg.lean LOADS. Nothing in Lean hashes anything: it is a label: what it is worth is what the hold of that sum in a sandbox is worth. -/
noncomputable def Tryd.pinned : Pinned := { name := "ytpimackoadfcmaadoor", sum := "5099c692272d4abc8edf8938c1fd4c5d1c0aa5b3689cb9233e20e85076499394", checked := Tryd.checked }
namespace Rows
def none {H : Type} : Left H := { results := [], args := [] }

/- WHAT THE LISTED PACKAGE-LEVEL VARIABLES READ AS WHEN THE CALL BEGINS. Each datum BY PROGRAM (the guide's laid-datum.mjs) off the statement by which the dump's own 'gosem.cut.vars' lays the variable. In a bare row this is a premise. The card (YtpimackoadfcmaaDoorCards.lean) ties it to the program's text. -/
def laid_sheafworks_word_deeds {H : Type} : DataW H := .iface "func table" (.agg [.iface "func" (.lit (.string [40, 115, 104, 101, 97, 102, 119, 111, 114, 107, 115, 47, 119, 111, 114, 100, 46, 112, 97, 105, 114, 41, 46, 97, 100, 100])), .iface "func" (.lit (.string [40, 115, 104, 101, 97, 102, 119, 111, 114, 107, 115, 47, 119, 111, 114, 100, 46, 112, 97, 105, 114, 41, 46, 115, 117, 98])), .iface "func" (.lit (.string [40, 115, 104, 101, 97, 102, 119, 111, 114, 107, 115, 47, 119, 111, 114, 100, 46, 112, 97, 105, 114, 41, 46, 109, 117, 108])), .iface "func" (.lit (.string [40, 115, 104, 101, 97, 102, 119, 111, 114, 107, 115, 47, 119, 111, 114, 100, 46, 112, 97, 105, 114, 41, 46, 100, 105, 118])), .iface "func" (.lit (.string [40, 115, 104, 101, 97, 102, 119, 111, 114, 107, 115, 47, 119, 111, 114, 100, 46, 112, 97, 105, 114, 41, 46, 109, 111, 100])), .iface "func" (.lit (.string [40, 115, 104, 101, 97, 102, 119, 111, 114, 107, 115, 47, 119, 111, 114, 100, 46, 112, 97, 105, 114, 41, 46, 108, 101, 115, 115])), .iface "func" (.lit (.string [40, 115, 104, 101, 97, 102, 119, 111, 114, 107, 115, 47, 119, 111, 114, 100, 46, 112, 97, 105, 114, 41, 46, 115, 97, 109, 101])), .iface "func" (.lit (.string [40, 115, 104, 101, 97, 102, 119, 111, 114, 107, 115, 47, 119, 111, 114, 100, 46, 112, 97, 105, 114, 41, 46, 109, 105, 110])), .iface "func" (.lit (.string [40, 115, 104, 101, 97, 102, 119, 111, 114, 107, 115, 47, 119, 111, 114, 100, 46, 112, 97, 105, 114, 41, 46, 109, 97, 120])), .iface "func" (.lit (.string [40, 115, 104, 101, 97, 102, 119, 111, 114, 107, 115, 47, 119, 111, 114, 100, 46, 112, 97, 105, 114, 41, 46, 97, 110, 100])), .iface "func" (.lit (.string [40, 115, 104, 101, 97, 102, 119, 111, 114, 107, 115, 47, 119, 111, 114, 100, 46, 112, 97, 105, 114, 41, 46, 111, 114])), .iface "func" (.lit (.string [40, 115, 104, 101, 97, 102, 119, 111, 114, 107, 115, 47, 119, 111, 114, 100, 46, 112, 97, 105, 114, 41, 46, 120, 111, 114]))])

/-- 'sheafworkslaw04.PrimPlaces': WHATEVER THE INPUT: true; the input reads as it did. -/
def primPlacesSpec : ChangeSpec := { name := "primPlaces", fn := fun _ => fun
  | [d1, d2, d3, d4] => { results := [.lit (.bool true)], args := [d1, d2, d3, d4] }
  | _ => none }
def primPlacesRow : OpenClaim := { program := "ytpimackoadfcmaadoor", sum := "5099c692272d4abc8edf8938c1fd4c5d1c0aa5b3689cb9233e20e85076499394", func := "sheafworks/sheafworkslaw04.PrimPlaces", spec := "primPlaces", unfollowed := true, recurses := true, named := ["sheafworks/word.deeds"], apart := false, laid := [("sheafworks/word.deeds", laid_sheafworks_word_deeds)] }
def PrimPlacesSaid : Prop := primPlacesRow.holds Tryd.pinned (OpenSpec.ofChange primPlacesSpec)

/-- ITS FALSE NEIGHBOUR: 'it returns false'. Refute it at one input. -/
def primPlacesWrong : ChangeSpec := { name := "primPlaces", fn := fun _ => fun
  | [d1, d2, d3, d4] => { results := [.lit (.bool false)], args := [d1, d2, d3, d4] }
  | _ => none }
def PrimPlacesWrongFalsely : Prop := primPlacesRow.holds Tryd.pinned (OpenSpec.ofChange primPlacesWrong)

/-- 'sheafworkslaw04.PrimPacks': WHATEVER THE INPUT: true; the input reads as it did. -/
def primPacksSpec : ChangeSpec := { name := "primPacks", fn := fun _ => fun
  | [d1, d2, d3] => { results := [.lit (.bool true)], args := [d1, d2, d3] }
  | _ => none }
def primPacksRow : OpenClaim := { program := "ytpimackoadfcmaadoor", sum := "5099c692272d4abc8edf8938c1fd4c5d1c0aa5b3689cb9233e20e85076499394", func := "sheafworks/sheafworkslaw04.PrimPacks", spec := "primPacks", unfollowed := true, recurses := true, named := ["sheafworks/word.deeds"], apart := false, laid := [("sheafworks/word.deeds", laid_sheafworks_word_deeds)] }
def PrimPacksSaid : Prop := primPacksRow.holds Tryd.pinned (OpenSpec.ofChange primPacksSpec)

/-- ITS FALSE NEIGHBOUR: 'it returns false'. Refute it at one input. -/
def primPacksWrong : ChangeSpec := { name := "primPacks", fn := fun _ => fun
  | [d1, d2, d3] => { results := [.lit (.bool false)], args := [d1, d2, d3] }
  | _ => none }
def PrimPacksWrongFalsely : Prop := primPacksRow.holds Tryd.pinned (OpenSpec.ofChange primPacksWrong)

/-- 'sheafworkslaw04.PrimMoves': WHATEVER THE INPUT: true; the input reads as it did. -/
def primMovesSpec : ChangeSpec := { name := "primMoves", fn := fun _ => fun
  | [d1, d2] => { results := [.lit (.bool true)], args := [d1, d2] }
  | _ => none }
def primMovesRow : OpenClaim := { program := "ytpimackoadfcmaadoor", sum := "5099c692272d4abc8edf8938c1fd4c5d1c0aa5b3689cb9233e20e85076499394", func := "sheafworks/sheafworkslaw04.PrimMoves", spec := "primMoves", unfollowed := true, recurses := true, named := ["sheafworks/word.deeds"], apart := false, laid := [("sheafworks/word.deeds", laid_sheafworks_word_deeds)] }
def PrimMovesSaid : Prop := primMovesRow.holds Tryd.pinned (OpenSpec.ofChange primMovesSpec)

/-- ITS FALSE NEIGHBOUR: 'it returns false'. Refute it at one input. -/
def primMovesWrong : ChangeSpec := { name := "primMoves", fn := fun _ => fun
  | [d1, d2] => { results := [.lit (.bool false)], args := [d1, d2] }
  | _ => none }
def PrimMovesWrongFalsely : Prop := primMovesRow.holds Tryd.pinned (OpenSpec.ofChange primMovesWrong)

/-- 'sheafworkslaw04.PrimCounts': WHATEVER THE INPUT: true; the input reads as it did. -/
def primCountsSpec : ChangeSpec := { name := "primCounts", fn := fun _ => fun
  | [d1, d2] => { results := [.lit (.bool true)], args := [d1, d2] }
  | _ => none }
def primCountsRow : OpenClaim := { program := "ytpimackoadfcmaadoor", sum := "5099c692272d4abc8edf8938c1fd4c5d1c0aa5b3689cb9233e20e85076499394", func := "sheafworks/sheafworkslaw04.PrimCounts", spec := "primCounts", unfollowed := true, recurses := true, named := ["sheafworks/word.deeds"], apart := false, laid := [("sheafworks/word.deeds", laid_sheafworks_word_deeds)] }
def PrimCountsSaid : Prop := primCountsRow.holds Tryd.pinned (OpenSpec.ofChange primCountsSpec)

/-- ITS FALSE NEIGHBOUR: 'it returns false'. Refute it at one input. -/
def primCountsWrong : ChangeSpec := { name := "primCounts", fn := fun _ => fun
  | [d1, d2] => { results := [.lit (.bool false)], args := [d1, d2] }
  | _ => none }
def PrimCountsWrongFalsely : Prop := primCountsRow.holds Tryd.pinned (OpenSpec.ofChange primCountsWrong)

/-- 'sheafworkslaw04.PrimMerged': WHATEVER THE INPUT: true; the input reads as it did. -/
def primMergedSpec : ChangeSpec := { name := "primMerged", fn := fun _ => fun
  | [d1, d2] => { results := [.lit (.bool true)], args := [d1, d2] }
  | _ => none }
def primMergedRow : OpenClaim := { program := "ytpimackoadfcmaadoor", sum := "5099c692272d4abc8edf8938c1fd4c5d1c0aa5b3689cb9233e20e85076499394", func := "sheafworks/sheafworkslaw04.PrimMerged", spec := "primMerged", unfollowed := true, recurses := true, named := ["sheafworks/word.deeds"], apart := false, laid := [("sheafworks/word.deeds", laid_sheafworks_word_deeds)] }
def PrimMergedSaid : Prop := primMergedRow.holds Tryd.pinned (OpenSpec.ofChange primMergedSpec)

/-- ITS FALSE NEIGHBOUR: 'it returns false'. Refute it at one input. -/
def primMergedWrong : ChangeSpec := { name := "primMerged", fn := fun _ => fun
  | [d1, d2] => { results := [.lit (.bool false)], args := [d1, d2] }
  | _ => none }
def PrimMergedWrongFalsely : Prop := primMergedRow.holds Tryd.pinned (OpenSpec.ofChange primMergedWrong)

/-- 'sheafworkslaw04.PrimPlaced': WHATEVER THE INPUT: true; the input reads as it did. -/
def primPlacedSpec : ChangeSpec := { name := "primPlaced", fn := fun _ => fun
  | [d1, d2, d3] => { results := [.lit (.bool true)], args := [d1, d2, d3] }
  | _ => none }
def primPlacedRow : OpenClaim := { program := "ytpimackoadfcmaadoor", sum := "5099c692272d4abc8edf8938c1fd4c5d1c0aa5b3689cb9233e20e85076499394", func := "sheafworks/sheafworkslaw04.PrimPlaced", spec := "primPlaced", unfollowed := true, recurses := true, named := ["sheafworks/word.deeds"], apart := false, laid := [("sheafworks/word.deeds", laid_sheafworks_word_deeds)] }
def PrimPlacedSaid : Prop := primPlacedRow.holds Tryd.pinned (OpenSpec.ofChange primPlacedSpec)

/-- ITS FALSE NEIGHBOUR: 'it returns false'. Refute it at one input. -/
def primPlacedWrong : ChangeSpec := { name := "primPlaced", fn := fun _ => fun
  | [d1, d2, d3] => { results := [.lit (.bool false)], args := [d1, d2, d3] }
  | _ => none }
def PrimPlacedWrongFalsely : Prop := primPlacedRow.holds Tryd.pinned (OpenSpec.ofChange primPlacedWrong)

/-- 'sheafworkslaw04.PrimRepeated': WHATEVER THE INPUT: true; the input reads as it did. -/
def primRepeatedSpec : ChangeSpec := { name := "primRepeated", fn := fun _ => fun
  | [d1, d2] => { results := [.lit (.bool true)], args := [d1, d2] }
  | _ => none }
def primRepeatedRow : OpenClaim := { program := "ytpimackoadfcmaadoor", sum := "5099c692272d4abc8edf8938c1fd4c5d1c0aa5b3689cb9233e20e85076499394", func := "sheafworks/sheafworkslaw04.PrimRepeated", spec := "primRepeated", unfollowed := true, recurses := true, named := ["sheafworks/word.deeds"], apart := false, laid := [("sheafworks/word.deeds", laid_sheafworks_word_deeds)] }
def PrimRepeatedSaid : Prop := primRepeatedRow.holds Tryd.pinned (OpenSpec.ofChange primRepeatedSpec)

/-- ITS FALSE NEIGHBOUR: 'it returns false'. Refute it at one input. -/
def primRepeatedWrong : ChangeSpec := { name := "primRepeated", fn := fun _ => fun
  | [d1, d2] => { results := [.lit (.bool false)], args := [d1, d2] }
  | _ => none }
def PrimRepeatedWrongFalsely : Prop := primRepeatedRow.holds Tryd.pinned (OpenSpec.ofChange primRepeatedWrong)

/-- 'sheafworkslaw04.PrimAlike': WHATEVER THE INPUT: true; the input reads as it did. -/
def primAlikeSpec : ChangeSpec := { name := "primAlike", fn := fun _ => fun
  | [d1, d2, d3, d4] => { results := [.lit (.bool true)], args := [d1, d2, d3, d4] }
  | _ => none }
def primAlikeRow : OpenClaim := { program := "ytpimackoadfcmaadoor", sum := "5099c692272d4abc8edf8938c1fd4c5d1c0aa5b3689cb9233e20e85076499394", func := "sheafworks/sheafworkslaw04.PrimAlike", spec := "primAlike", unfollowed := true, recurses := true, named := ["sheafworks/word.deeds"], apart := false, laid := [("sheafworks/word.deeds", laid_sheafworks_word_deeds)] }
def PrimAlikeSaid : Prop := primAlikeRow.holds Tryd.pinned (OpenSpec.ofChange primAlikeSpec)

/-- ITS FALSE NEIGHBOUR: 'it returns false'. Refute it at one input. -/
def primAlikeWrong : ChangeSpec := { name := "primAlike", fn := fun _ => fun
  | [d1, d2, d3, d4] => { results := [.lit (.bool false)], args := [d1, d2, d3, d4] }
  | _ => none }
def PrimAlikeWrongFalsely : Prop := primAlikeRow.holds Tryd.pinned (OpenSpec.ofChange primAlikeWrong)

/-- 'sheafworkslaw04.PrimWoven': WHATEVER THE INPUT: true; the input reads as it did. -/
def primWovenSpec : ChangeSpec := { name := "primWoven", fn := fun _ => fun
  | [d1, d2] => { results := [.lit (.bool true)], args := [d1, d2] }
  | _ => none }
def primWovenRow : OpenClaim := { program := "ytpimackoadfcmaadoor", sum := "5099c692272d4abc8edf8938c1fd4c5d1c0aa5b3689cb9233e20e85076499394", func := "sheafworks/sheafworkslaw04.PrimWoven", spec := "primWoven", unfollowed := true, recurses := true, named := ["sheafworks/word.deeds"], apart := false, laid := [("sheafworks/word.deeds", laid_sheafworks_word_deeds)] }
def PrimWovenSaid : Prop := primWovenRow.holds Tryd.pinned (OpenSpec.ofChange primWovenSpec)

/-- ITS FALSE NEIGHBOUR: 'it returns false'. Refute it at one input. -/
def primWovenWrong : ChangeSpec := { name := "primWoven", fn := fun _ => fun
  | [d1, d2] => { results := [.lit (.bool false)], args := [d1, d2] }
  | _ => none }
def PrimWovenWrongFalsely : Prop := primWovenRow.holds Tryd.pinned (OpenSpec.ofChange primWovenWrong)

/-- 'sheafworkslaw04.PrimKnown': WHATEVER THE INPUT: true; the input reads as it did. -/
def primKnownSpec : ChangeSpec := { name := "primKnown", fn := fun _ => fun
  | [] => { results := [.lit (.bool true)], args := [] }
  | _ => none }
def primKnownRow : OpenClaim := { program := "ytpimackoadfcmaadoor", sum := "5099c692272d4abc8edf8938c1fd4c5d1c0aa5b3689cb9233e20e85076499394", func := "sheafworks/sheafworkslaw04.PrimKnown", spec := "primKnown", unfollowed := true, recurses := true, named := ["sheafworks/word.deeds"], apart := false, laid := [("sheafworks/word.deeds", laid_sheafworks_word_deeds)] }
def PrimKnownSaid : Prop := primKnownRow.holds Tryd.pinned (OpenSpec.ofChange primKnownSpec)

/-- ITS FALSE NEIGHBOUR: 'it returns false'. Refute it at one input. -/
def primKnownWrong : ChangeSpec := { name := "primKnown", fn := fun _ => fun
  | [] => { results := [.lit (.bool false)], args := [] }
  | _ => none }
def PrimKnownWrongFalsely : Prop := primKnownRow.holds Tryd.pinned (OpenSpec.ofChange primKnownWrong)

/- THE SECOND FORM. 'bulk': how many values and letters a reading holds, each counted each time it is reached (what is shared counts as often as it is met; a slice's spare places count too). A statement '..UptoSaid' is the law's where the arguments, and the package variables that the reading takes, are together of bulk at most 1048576: NARROWER than '..Said'. Prove '..Said' where nothing that the law and all that it calls make is longer than what came in: it says more and counts as full. Else prove '..UptoSaid'. A law counts once. -/
mutual
def uptoBulk {H : Type} : DataW H → Nat
  | .lit (.string bytes) => bytes.length + 1
  | .lit _ => 1
  | .nil => 1
  | .ptr d => uptoBulk d + 1
  | .slice elems spare => uptoBulkAll elems + uptoBulkAll spare + 1
  | .agg parts => uptoBulkAll parts + 1
  | .iface _ d => uptoBulk d + 1
  | .map entries => uptoBulkEntries entries + 1
  | .held _ => 1
def uptoBulkAll {H : Type} : List (DataW H) → Nat
  | [] => 0
  | d :: r => uptoBulk d + uptoBulkAll r
def uptoBulkEntries {H : Type} : List (Lit × DataW H) → Nat
  | [] => 0
  | x :: r => uptoBulkEntry x + uptoBulkEntries r
def uptoBulkEntry {H : Type} : Lit × DataW H → Nat
  | (.string bytes, d) => bytes.length + uptoBulk d + 1
  | (_, d) => uptoBulk d + 1
 end
def uptoSmall : (H : Type) → List (DataW H) → Bool := fun _ ds => decide (uptoBulkAll ds ≤ 1048576)
def OpenSpec.upto (s : _root_.Go.ChangeSpec) : _root_.Go.OpenSpec := { _root_.Go.OpenSpec.ofChange s with cond := some uptoSmall }

/-- 'sheafworkslaw04.PrimPlaces', WHERE WHAT IT READS IS OF BULK AT MOST 1048576: true; the input reads as it did. -/
def primPlacesUptoRow : OpenClaim := { program := "ytpimackoadfcmaadoor", sum := "5099c692272d4abc8edf8938c1fd4c5d1c0aa5b3689cb9233e20e85076499394", func := "sheafworks/sheafworkslaw04.PrimPlaces", spec := "primPlaces", unfollowed := true, recurses := true, named := ["sheafworks/word.deeds"], apart := false, laid := [("sheafworks/word.deeds", laid_sheafworks_word_deeds)], narrowed := true }
def PrimPlacesUptoSaid : Prop := primPlacesUptoRow.holds Tryd.pinned (OpenSpec.upto primPlacesSpec)

/-- 'sheafworkslaw04.PrimPacks', WHERE WHAT IT READS IS OF BULK AT MOST 1048576: true; the input reads as it did. -/
def primPacksUptoRow : OpenClaim := { program := "ytpimackoadfcmaadoor", sum := "5099c692272d4abc8edf8938c1fd4c5d1c0aa5b3689cb9233e20e85076499394", func := "sheafworks/sheafworkslaw04.PrimPacks", spec := "primPacks", unfollowed := true, recurses := true, named := ["sheafworks/word.deeds"], apart := false, laid := [("sheafworks/word.deeds", laid_sheafworks_word_deeds)], narrowed := true }
def PrimPacksUptoSaid : Prop := primPacksUptoRow.holds Tryd.pinned (OpenSpec.upto primPacksSpec)

/-- 'sheafworkslaw04.PrimMoves', WHERE WHAT IT READS IS OF BULK AT MOST 1048576: true; the input reads as it did. -/
def primMovesUptoRow : OpenClaim := { program := "ytpimackoadfcmaadoor", sum := "5099c692272d4abc8edf8938c1fd4c5d1c0aa5b3689cb9233e20e85076499394", func := "sheafworks/sheafworkslaw04.PrimMoves", spec := "primMoves", unfollowed := true, recurses := true, named := ["sheafworks/word.deeds"], apart := false, laid := [("sheafworks/word.deeds", laid_sheafworks_word_deeds)], narrowed := true }
def PrimMovesUptoSaid : Prop := primMovesUptoRow.holds Tryd.pinned (OpenSpec.upto primMovesSpec)

/-- 'sheafworkslaw04.PrimCounts', WHERE WHAT IT READS IS OF BULK AT MOST 1048576: true; the input reads as it did. -/
def primCountsUptoRow : OpenClaim := { program := "ytpimackoadfcmaadoor", sum := "5099c692272d4abc8edf8938c1fd4c5d1c0aa5b3689cb9233e20e85076499394", func := "sheafworks/sheafworkslaw04.PrimCounts", spec := "primCounts", unfollowed := true, recurses := true, named := ["sheafworks/word.deeds"], apart := false, laid := [("sheafworks/word.deeds", laid_sheafworks_word_deeds)], narrowed := true }
def PrimCountsUptoSaid : Prop := primCountsUptoRow.holds Tryd.pinned (OpenSpec.upto primCountsSpec)

/-- 'sheafworkslaw04.PrimMerged', WHERE WHAT IT READS IS OF BULK AT MOST 1048576: true; the input reads as it did. -/
def primMergedUptoRow : OpenClaim := { program := "ytpimackoadfcmaadoor", sum := "5099c692272d4abc8edf8938c1fd4c5d1c0aa5b3689cb9233e20e85076499394", func := "sheafworks/sheafworkslaw04.PrimMerged", spec := "primMerged", unfollowed := true, recurses := true, named := ["sheafworks/word.deeds"], apart := false, laid := [("sheafworks/word.deeds", laid_sheafworks_word_deeds)], narrowed := true }
def PrimMergedUptoSaid : Prop := primMergedUptoRow.holds Tryd.pinned (OpenSpec.upto primMergedSpec)

/-- 'sheafworkslaw04.PrimPlaced', WHERE WHAT IT READS IS OF BULK AT MOST 1048576: true; the input reads as it did. -/
def primPlacedUptoRow : OpenClaim := { program := "ytpimackoadfcmaadoor", sum := "5099c692272d4abc8edf8938c1fd4c5d1c0aa5b3689cb9233e20e85076499394", func := "sheafworks/sheafworkslaw04.PrimPlaced", spec := "primPlaced", unfollowed := true, recurses := true, named := ["sheafworks/word.deeds"], apart := false, laid := [("sheafworks/word.deeds", laid_sheafworks_word_deeds)], narrowed := true }
def PrimPlacedUptoSaid : Prop := primPlacedUptoRow.holds Tryd.pinned (OpenSpec.upto primPlacedSpec)

/-- 'sheafworkslaw04.PrimRepeated', WHERE WHAT IT READS IS OF BULK AT MOST 1048576: true; the input reads as it did. -/
def primRepeatedUptoRow : OpenClaim := { program := "ytpimackoadfcmaadoor", sum := "5099c692272d4abc8edf8938c1fd4c5d1c0aa5b3689cb9233e20e85076499394", func := "sheafworks/sheafworkslaw04.PrimRepeated", spec := "primRepeated", unfollowed := true, recurses := true, named := ["sheafworks/word.deeds"], apart := false, laid := [("sheafworks/word.deeds", laid_sheafworks_word_deeds)], narrowed := true }
def PrimRepeatedUptoSaid : Prop := primRepeatedUptoRow.holds Tryd.pinned (OpenSpec.upto primRepeatedSpec)

/-- 'sheafworkslaw04.PrimAlike', WHERE WHAT IT READS IS OF BULK AT MOST 1048576: true; the input reads as it did. -/
def primAlikeUptoRow : OpenClaim := { program := "ytpimackoadfcmaadoor", sum := "5099c692272d4abc8edf8938c1fd4c5d1c0aa5b3689cb9233e20e85076499394", func := "sheafworks/sheafworkslaw04.PrimAlike", spec := "primAlike", unfollowed := true, recurses := true, named := ["sheafworks/word.deeds"], apart := false, laid := [("sheafworks/word.deeds", laid_sheafworks_word_deeds)], narrowed := true }
def PrimAlikeUptoSaid : Prop := primAlikeUptoRow.holds Tryd.pinned (OpenSpec.upto primAlikeSpec)

/-- 'sheafworkslaw04.PrimWoven', WHERE WHAT IT READS IS OF BULK AT MOST 1048576: true; the input reads as it did. -/
def primWovenUptoRow : OpenClaim := { program := "ytpimackoadfcmaadoor", sum := "5099c692272d4abc8edf8938c1fd4c5d1c0aa5b3689cb9233e20e85076499394", func := "sheafworks/sheafworkslaw04.PrimWoven", spec := "primWoven", unfollowed := true, recurses := true, named := ["sheafworks/word.deeds"], apart := false, laid := [("sheafworks/word.deeds", laid_sheafworks_word_deeds)], narrowed := true }
def PrimWovenUptoSaid : Prop := primWovenUptoRow.holds Tryd.pinned (OpenSpec.upto primWovenSpec)

/-- 'sheafworkslaw04.PrimKnown', WHERE WHAT IT READS IS OF BULK AT MOST 1048576: true; the input reads as it did. -/
def primKnownUptoRow : OpenClaim := { program := "ytpimackoadfcmaadoor", sum := "5099c692272d4abc8edf8938c1fd4c5d1c0aa5b3689cb9233e20e85076499394", func := "sheafworks/sheafworkslaw04.PrimKnown", spec := "primKnown", unfollowed := true, recurses := true, named := ["sheafworks/word.deeds"], apart := false, laid := [("sheafworks/word.deeds", laid_sheafworks_word_deeds)], narrowed := true }
def PrimKnownUptoSaid : Prop := primKnownUptoRow.holds Tryd.pinned (OpenSpec.upto primKnownSpec)

end Rows
end Go.Proofs.YtpimackoadfcmaaDoor
