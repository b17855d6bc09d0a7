/-
  NARROWER THAN 'FOR EVERY INPUT', by the rows' own cells (each row's printed sentence says how): ScanFolds: laid · ScanTrees: laid · ScanDowns: laid · ScanFlags: laid · ScanShapes: laid · ScanBlocks: laid · ScanParts: laid · ScanFlagged: laid · ScanKnown: laid.
  DERIVED. THE GIVEN ROWS OF THIS SEAT. 9 by the template 'for every input the law returns true; each argument reads behind the call as it read before'; 0 by the template 'total and deterministic' (their statements: YtpenkemabeonaaaDoorTotals.lean).
  GIVEN WITH THE SEED: the statements are not yours to turn. If you find one false, say at which input.
  Laid BY PROGRAM, IN A SANDBOX (cutbox-rows.mjs): the forced cells as the released guide's own fill.sh prints them over the translation e75cdd4888a69520… (all of the seat's roots in one cut). By AI agents, Wed Nov 11 2026. No macro, syntax, notation, axiom, sorry.
-/
import Derived.Test.YtpenkemabeonaaaDoorChecked
import GoSem.Claim
import GoSem.ClaimJoined
import GoSem.ClaimMapViews
import Derived.JoinedTies
import Derived.KernelRfl
namespace Go.Proofs.YtpenkemabeonaaaDoor
/- THE CELL 'sum', in the pinned program and in every row, IS THE sha256 OF THE DUMP (.gsa) THAT YtpenkemabeonaaaDoorProg.lean LOADS. Nothing in Lean hashes anything: it is a label: what it is worth is what the hold of that sum in a sandbox is worth. -/
noncomputable def Tryd.pinned : Pinned := { name := "ytpenkemabeonaaadoor", sum := "e75cdd4888a695205b5fc3e2e4add420c964cf469ea9648bade762073cfd2df4", checked := Tryd.checked }
namespace Rows
def none {H : Type} : Left H := { results := [], args := [] }

/- WHAT THE LISTED PACKAGE-LEVEL VARIABLES READ AS WHEN THE CALL BEGINS. Each datum BY PROGRAM (the guide's laid-datum.mjs) off the statement by which the dump's own 'gosem.cut.vars' lays the variable. In a bare row this is a premise. The card (YtpenkemabeonaaaDoorCards.lean) ties it to the program's text. -/
def laid_sheafworks_word_deeds {H : Type} : DataW H := .iface "func table" (.agg [.iface "func" (.lit (.string [40, 115, 104, 101, 97, 102, 119, 111, 114, 107, 115, 47, 119, 111, 114, 100, 46, 112, 97, 105, 114, 41, 46, 97, 100, 100])), .iface "func" (.lit (.string [40, 115, 104, 101, 97, 102, 119, 111, 114, 107, 115, 47, 119, 111, 114, 100, 46, 112, 97, 105, 114, 41, 46, 115, 117, 98])), .iface "func" (.lit (.string [40, 115, 104, 101, 97, 102, 119, 111, 114, 107, 115, 47, 119, 111, 114, 100, 46, 112, 97, 105, 114, 41, 46, 109, 117, 108])), .iface "func" (.lit (.string [40, 115, 104, 101, 97, 102, 119, 111, 114, 107, 115, 47, 119, 111, 114, 100, 46, 112, 97, 105, 114, 41, 46, 100, 105, 118])), .iface "func" (.lit (.string [40, 115, 104, 101, 97, 102, 119, 111, 114, 107, 115, 47, 119, 111, 114, 100, 46, 112, 97, 105, 114, 41, 46, 109, 111, 100])), .iface "func" (.lit (.string [40, 115, 104, 101, 97, 102, 119, 111, 114, 107, 115, 47, 119, 111, 114, 100, 46, 112, 97, 105, 114, 41, 46, 108, 101, 115, 115])), .iface "func" (.lit (.string [40, 115, 104, 101, 97, 102, 119, 111, 114, 107, 115, 47, 119, 111, 114, 100, 46, 112, 97, 105, 114, 41, 46, 115, 97, 109, 101])), .iface "func" (.lit (.string [40, 115, 104, 101, 97, 102, 119, 111, 114, 107, 115, 47, 119, 111, 114, 100, 46, 112, 97, 105, 114, 41, 46, 109, 105, 110])), .iface "func" (.lit (.string [40, 115, 104, 101, 97, 102, 119, 111, 114, 107, 115, 47, 119, 111, 114, 100, 46, 112, 97, 105, 114, 41, 46, 109, 97, 120])), .iface "func" (.lit (.string [40, 115, 104, 101, 97, 102, 119, 111, 114, 107, 115, 47, 119, 111, 114, 100, 46, 112, 97, 105, 114, 41, 46, 97, 110, 100])), .iface "func" (.lit (.string [40, 115, 104, 101, 97, 102, 119, 111, 114, 107, 115, 47, 119, 111, 114, 100, 46, 112, 97, 105, 114, 41, 46, 111, 114])), .iface "func" (.lit (.string [40, 115, 104, 101, 97, 102, 119, 111, 114, 107, 115, 47, 119, 111, 114, 100, 46, 112, 97, 105, 114, 41, 46, 120, 111, 114]))])
def laid_sheafworks_word_laws {H : Type} : DataW H := .agg [.agg [.lit (.bool true), .lit (.bool true), .lit (.bool false)], .agg [.lit (.bool false), .lit (.bool false), .lit (.bool false)], .agg [.lit (.bool true), .lit (.bool true), .lit (.bool false)], .agg [.lit (.bool false), .lit (.bool false), .lit (.bool false)], .agg [.lit (.bool false), .lit (.bool false), .lit (.bool false)], .agg [.lit (.bool false), .lit (.bool false), .lit (.bool false)], .agg [.lit (.bool false), .lit (.bool true), .lit (.bool false)], .agg [.lit (.bool true), .lit (.bool true), .lit (.bool true)], .agg [.lit (.bool true), .lit (.bool true), .lit (.bool true)], .agg [.lit (.bool true), .lit (.bool true), .lit (.bool true)], .agg [.lit (.bool true), .lit (.bool true), .lit (.bool true)], .agg [.lit (.bool true), .lit (.bool true), .lit (.bool false)]]
def laid_sheafworks_word_neutrals {H : Type} : DataW H := .agg [.lit (.int .i64 0), .lit (.int .i64 0), .lit (.int .i64 1), .lit (.int .i64 0), .lit (.int .i64 0), .lit (.int .i64 0), .lit (.int .i64 0), .lit (.int .i64 2147483647), .lit (.int .i64 (-2147483648)), .lit (.int .i64 (-1)), .lit (.int .i64 0), .lit (.int .i64 0)]

/-- 'sheafworkslaw05.ScanFolds': WHATEVER THE INPUT: true; the input reads as it did. -/
def scanFoldsSpec : ChangeSpec := { name := "scanFolds", fn := fun _ => fun
  | [d1, d2, d3] => { results := [.lit (.bool true)], args := [d1, d2, d3] }
  | _ => none }
def scanFoldsRow : OpenClaim := { program := "ytpenkemabeonaaadoor", sum := "e75cdd4888a695205b5fc3e2e4add420c964cf469ea9648bade762073cfd2df4", func := "sheafworks/sheafworkslaw05.ScanFolds", spec := "scanFolds", unfollowed := true, recurses := true, named := ["sheafworks/word.neutrals", "sheafworks/word.laws", "sheafworks/word.deeds"], apart := false, laid := [("sheafworks/word.deeds", laid_sheafworks_word_deeds), ("sheafworks/word.laws", laid_sheafworks_word_laws), ("sheafworks/word.neutrals", laid_sheafworks_word_neutrals)] }
def ScanFoldsSaid : Prop := scanFoldsRow.holds Tryd.pinned (OpenSpec.ofChange scanFoldsSpec)

/-- ITS FALSE NEIGHBOUR: 'it returns false'. Refute it at one input. -/
def scanFoldsWrong : ChangeSpec := { name := "scanFolds", fn := fun _ => fun
  | [d1, d2, d3] => { results := [.lit (.bool false)], args := [d1, d2, d3] }
  | _ => none }
def ScanFoldsWrongFalsely : Prop := scanFoldsRow.holds Tryd.pinned (OpenSpec.ofChange scanFoldsWrong)

/-- 'sheafworkslaw05.ScanTrees': WHATEVER THE INPUT: true; the input reads as it did. -/
def scanTreesSpec : ChangeSpec := { name := "scanTrees", fn := fun _ => fun
  | [d1, d2, d3, d4] => { results := [.lit (.bool true)], args := [d1, d2, d3, d4] }
  | _ => none }
def scanTreesRow : OpenClaim := { program := "ytpenkemabeonaaadoor", sum := "e75cdd4888a695205b5fc3e2e4add420c964cf469ea9648bade762073cfd2df4", func := "sheafworks/sheafworkslaw05.ScanTrees", spec := "scanTrees", unfollowed := true, recurses := true, named := ["sheafworks/word.neutrals", "sheafworks/word.laws", "sheafworks/word.deeds"], apart := false, laid := [("sheafworks/word.deeds", laid_sheafworks_word_deeds), ("sheafworks/word.laws", laid_sheafworks_word_laws), ("sheafworks/word.neutrals", laid_sheafworks_word_neutrals)] }
def ScanTreesSaid : Prop := scanTreesRow.holds Tryd.pinned (OpenSpec.ofChange scanTreesSpec)

/-- ITS FALSE NEIGHBOUR: 'it returns false'. Refute it at one input. -/
def scanTreesWrong : ChangeSpec := { name := "scanTrees", fn := fun _ => fun
  | [d1, d2, d3, d4] => { results := [.lit (.bool false)], args := [d1, d2, d3, d4] }
  | _ => none }
def ScanTreesWrongFalsely : Prop := scanTreesRow.holds Tryd.pinned (OpenSpec.ofChange scanTreesWrong)

/-- 'sheafworkslaw05.ScanDowns': WHATEVER THE INPUT: true; the input reads as it did. -/
def scanDownsSpec : ChangeSpec := { name := "scanDowns", fn := fun _ => fun
  | [d1, d2, d3] => { results := [.lit (.bool true)], args := [d1, d2, d3] }
  | _ => none }
def scanDownsRow : OpenClaim := { program := "ytpenkemabeonaaadoor", sum := "e75cdd4888a695205b5fc3e2e4add420c964cf469ea9648bade762073cfd2df4", func := "sheafworks/sheafworkslaw05.ScanDowns", spec := "scanDowns", unfollowed := true, recurses := true, named := ["sheafworks/word.neutrals", "sheafworks/word.laws", "sheafworks/word.deeds"], apart := false, laid := [("sheafworks/word.deeds", laid_sheafworks_word_deeds), ("sheafworks/word.laws", laid_sheafworks_word_laws), ("sheafworks/word.neutrals", laid_sheafworks_word_neutrals)] }
def ScanDownsSaid : Prop := scanDownsRow.holds Tryd.pinned (OpenSpec.ofChange scanDownsSpec)

/-- ITS FALSE NEIGHBOUR: 'it returns false'. Refute it at one input. -/
def scanDownsWrong : ChangeSpec := { name := "scanDowns", fn := fun _ => fun
  | [d1, d2, d3] => { results := [.lit (.bool false)], args := [d1, d2, d3] }
  | _ => none }
def ScanDownsWrongFalsely : Prop := scanDownsRow.holds Tryd.pinned (OpenSpec.ofChange scanDownsWrong)

/-- 'sheafworkslaw05.ScanFlags': WHATEVER THE INPUT: true; the input reads as it did. -/
def scanFlagsSpec : ChangeSpec := { name := "scanFlags", fn := fun _ => fun
  | [d1, d2, d3, d4] => { results := [.lit (.bool true)], args := [d1, d2, d3, d4] }
  | _ => none }
def scanFlagsRow : OpenClaim := { program := "ytpenkemabeonaaadoor", sum := "e75cdd4888a695205b5fc3e2e4add420c964cf469ea9648bade762073cfd2df4", func := "sheafworks/sheafworkslaw05.ScanFlags", spec := "scanFlags", unfollowed := true, recurses := true, named := ["sheafworks/word.neutrals", "sheafworks/word.laws", "sheafworks/word.deeds"], apart := false, laid := [("sheafworks/word.deeds", laid_sheafworks_word_deeds), ("sheafworks/word.laws", laid_sheafworks_word_laws), ("sheafworks/word.neutrals", laid_sheafworks_word_neutrals)] }
def ScanFlagsSaid : Prop := scanFlagsRow.holds Tryd.pinned (OpenSpec.ofChange scanFlagsSpec)

/-- ITS FALSE NEIGHBOUR: 'it returns false'. Refute it at one input. -/
def scanFlagsWrong : ChangeSpec := { name := "scanFlags", fn := fun _ => fun
  | [d1, d2, d3, d4] => { results := [.lit (.bool false)], args := [d1, d2, d3, d4] }
  | _ => none }
def ScanFlagsWrongFalsely : Prop := scanFlagsRow.holds Tryd.pinned (OpenSpec.ofChange scanFlagsWrong)

/-- 'sheafworkslaw05.ScanShapes': WHATEVER THE INPUT: true; the input reads as it did. -/
def scanShapesSpec : ChangeSpec := { name := "scanShapes", fn := fun _ => fun
  | [d1, d2, d3, d4] => { results := [.lit (.bool true)], args := [d1, d2, d3, d4] }
  | _ => none }
def scanShapesRow : OpenClaim := { program := "ytpenkemabeonaaadoor", sum := "e75cdd4888a695205b5fc3e2e4add420c964cf469ea9648bade762073cfd2df4", func := "sheafworks/sheafworkslaw05.ScanShapes", spec := "scanShapes", unfollowed := true, recurses := true, named := ["sheafworks/word.neutrals", "sheafworks/word.laws", "sheafworks/word.deeds"], apart := false, laid := [("sheafworks/word.deeds", laid_sheafworks_word_deeds), ("sheafworks/word.laws", laid_sheafworks_word_laws), ("sheafworks/word.neutrals", laid_sheafworks_word_neutrals)] }
def ScanShapesSaid : Prop := scanShapesRow.holds Tryd.pinned (OpenSpec.ofChange scanShapesSpec)

/-- ITS FALSE NEIGHBOUR: 'it returns false'. Refute it at one input. -/
def scanShapesWrong : ChangeSpec := { name := "scanShapes", fn := fun _ => fun
  | [d1, d2, d3, d4] => { results := [.lit (.bool false)], args := [d1, d2, d3, d4] }
  | _ => none }
def ScanShapesWrongFalsely : Prop := scanShapesRow.holds Tryd.pinned (OpenSpec.ofChange scanShapesWrong)

/-- 'sheafworkslaw05.ScanBlocks': WHATEVER THE INPUT: true; the input reads as it did. -/
def scanBlocksSpec : ChangeSpec := { name := "scanBlocks", fn := fun _ => fun
  | [d1, d2, d3] => { results := [.lit (.bool true)], args := [d1, d2, d3] }
  | _ => none }
def scanBlocksRow : OpenClaim := { program := "ytpenkemabeonaaadoor", sum := "e75cdd4888a695205b5fc3e2e4add420c964cf469ea9648bade762073cfd2df4", func := "sheafworks/sheafworkslaw05.ScanBlocks", spec := "scanBlocks", unfollowed := true, recurses := true, named := ["sheafworks/word.neutrals", "sheafworks/word.laws", "sheafworks/word.deeds"], apart := false, laid := [("sheafworks/word.deeds", laid_sheafworks_word_deeds), ("sheafworks/word.laws", laid_sheafworks_word_laws), ("sheafworks/word.neutrals", laid_sheafworks_word_neutrals)] }
def ScanBlocksSaid : Prop := scanBlocksRow.holds Tryd.pinned (OpenSpec.ofChange scanBlocksSpec)

/-- ITS FALSE NEIGHBOUR: 'it returns false'. Refute it at one input. -/
def scanBlocksWrong : ChangeSpec := { name := "scanBlocks", fn := fun _ => fun
  | [d1, d2, d3] => { results := [.lit (.bool false)], args := [d1, d2, d3] }
  | _ => none }
def ScanBlocksWrongFalsely : Prop := scanBlocksRow.holds Tryd.pinned (OpenSpec.ofChange scanBlocksWrong)

/-- 'sheafworkslaw05.ScanParts': WHATEVER THE INPUT: true; the input reads as it did. -/
def scanPartsSpec : ChangeSpec := { name := "scanParts", fn := fun _ => fun
  | [d1, d2, d3, d4] => { results := [.lit (.bool true)], args := [d1, d2, d3, d4] }
  | _ => none }
def scanPartsRow : OpenClaim := { program := "ytpenkemabeonaaadoor", sum := "e75cdd4888a695205b5fc3e2e4add420c964cf469ea9648bade762073cfd2df4", func := "sheafworks/sheafworkslaw05.ScanParts", spec := "scanParts", unfollowed := true, recurses := true, named := ["sheafworks/word.neutrals", "sheafworks/word.laws", "sheafworks/word.deeds"], apart := false, laid := [("sheafworks/word.deeds", laid_sheafworks_word_deeds), ("sheafworks/word.laws", laid_sheafworks_word_laws), ("sheafworks/word.neutrals", laid_sheafworks_word_neutrals)] }
def ScanPartsSaid : Prop := scanPartsRow.holds Tryd.pinned (OpenSpec.ofChange scanPartsSpec)

/-- ITS FALSE NEIGHBOUR: 'it returns false'. Refute it at one input. -/
def scanPartsWrong : ChangeSpec := { name := "scanParts", fn := fun _ => fun
  | [d1, d2, d3, d4] => { results := [.lit (.bool false)], args := [d1, d2, d3, d4] }
  | _ => none }
def ScanPartsWrongFalsely : Prop := scanPartsRow.holds Tryd.pinned (OpenSpec.ofChange scanPartsWrong)

/-- 'sheafworkslaw05.ScanFlagged': WHATEVER THE INPUT: true; the input reads as it did. -/
def scanFlaggedSpec : ChangeSpec := { name := "scanFlagged", fn := fun _ => fun
  | [d1, d2, d3, d4] => { results := [.lit (.bool true)], args := [d1, d2, d3, d4] }
  | _ => none }
def scanFlaggedRow : OpenClaim := { program := "ytpenkemabeonaaadoor", sum := "e75cdd4888a695205b5fc3e2e4add420c964cf469ea9648bade762073cfd2df4", func := "sheafworks/sheafworkslaw05.ScanFlagged", spec := "scanFlagged", unfollowed := true, recurses := true, named := ["sheafworks/word.neutrals", "sheafworks/word.laws", "sheafworks/word.deeds"], apart := false, laid := [("sheafworks/word.deeds", laid_sheafworks_word_deeds), ("sheafworks/word.laws", laid_sheafworks_word_laws), ("sheafworks/word.neutrals", laid_sheafworks_word_neutrals)] }
def ScanFlaggedSaid : Prop := scanFlaggedRow.holds Tryd.pinned (OpenSpec.ofChange scanFlaggedSpec)

/-- ITS FALSE NEIGHBOUR: 'it returns false'. Refute it at one input. -/
def scanFlaggedWrong : ChangeSpec := { name := "scanFlagged", fn := fun _ => fun
  | [d1, d2, d3, d4] => { results := [.lit (.bool false)], args := [d1, d2, d3, d4] }
  | _ => none }
def ScanFlaggedWrongFalsely : Prop := scanFlaggedRow.holds Tryd.pinned (OpenSpec.ofChange scanFlaggedWrong)

/-- 'sheafworkslaw05.ScanKnown': WHATEVER THE INPUT: true; the input reads as it did. -/
def scanKnownSpec : ChangeSpec := { name := "scanKnown", fn := fun _ => fun
  | [] => { results := [.lit (.bool true)], args := [] }
  | _ => none }
def scanKnownRow : OpenClaim := { program := "ytpenkemabeonaaadoor", sum := "e75cdd4888a695205b5fc3e2e4add420c964cf469ea9648bade762073cfd2df4", func := "sheafworks/sheafworkslaw05.ScanKnown", spec := "scanKnown", unfollowed := true, recurses := true, named := ["sheafworks/word.neutrals", "sheafworks/word.laws", "sheafworks/word.deeds"], apart := false, laid := [("sheafworks/word.deeds", laid_sheafworks_word_deeds), ("sheafworks/word.laws", laid_sheafworks_word_laws), ("sheafworks/word.neutrals", laid_sheafworks_word_neutrals)] }
def ScanKnownSaid : Prop := scanKnownRow.holds Tryd.pinned (OpenSpec.ofChange scanKnownSpec)

/-- ITS FALSE NEIGHBOUR: 'it returns false'. Refute it at one input. -/
def scanKnownWrong : ChangeSpec := { name := "scanKnown", fn := fun _ => fun
  | [] => { results := [.lit (.bool false)], args := [] }
  | _ => none }
def ScanKnownWrongFalsely : Prop := scanKnownRow.holds Tryd.pinned (OpenSpec.ofChange scanKnownWrong)

/- THE SECOND FORM. 'bulk': how many values and letters a reading holds, each counted each time it is reached (what is shared counts as often as it is met; a slice's spare places count too). A statement '..UptoSaid' is the law's where the arguments, and the package variables that the reading takes, are together of bulk at most 1048576: NARROWER than '..Said'. Prove '..Said' where nothing that the law and all that it calls make is longer than what came in: it says more and counts as full. Else prove '..UptoSaid'. A law counts once. -/
mutual
def uptoBulk {H : Type} : DataW H → Nat
  | .lit (.string bytes) => bytes.length + 1
  | .lit _ => 1
  | .nil => 1
  | .ptr d => uptoBulk d + 1
  | .slice elems spare => uptoBulkAll elems + uptoBulkAll spare + 1
  | .agg parts => uptoBulkAll parts + 1
  | .iface _ d => uptoBulk d + 1
  | .map entries => uptoBulkEntries entries + 1
  | .held _ => 1
def uptoBulkAll {H : Type} : List (DataW H) → Nat
  | [] => 0
  | d :: r => uptoBulk d + uptoBulkAll r
def uptoBulkEntries {H : Type} : List (Lit × DataW H) → Nat
  | [] => 0
  | x :: r => uptoBulkEntry x + uptoBulkEntries r
def uptoBulkEntry {H : Type} : Lit × DataW H → Nat
  | (.string bytes, d) => bytes.length + uptoBulk d + 1
  | (_, d) => uptoBulk d + 1
 end
def uptoSmall : (H : Type) → List (DataW H) → Bool := fun _ ds => decide (uptoBulkAll ds ≤ 1048576)
def OpenSpec.upto (s : _root_.Go.ChangeSpec) : _root_.Go.OpenSpec := { _root_.Go.OpenSpec.ofChange s with cond := some uptoSmall }

/-- 'sheafworkslaw05.ScanFolds', WHERE WHAT IT READS IS OF BULK AT MOST 1048576: true; the input reads as it did. -/
def scanFoldsUptoRow : OpenClaim := { program := "ytpenkemabeonaaadoor", sum := "e75cdd4888a695205b5fc3e2e4add420c964cf469ea9648bade762073cfd2df4", func := "sheafworks/sheafworkslaw05.ScanFolds", spec := "scanFolds", unfollowed := true, recurses := true, named := ["sheafworks/word.neutrals", "sheafworks/word.laws", "sheafworks/word.deeds"], apart := false, laid := [("sheafworks/word.deeds", laid_sheafworks_word_deeds), ("sheafworks/word.laws", laid_sheafworks_word_laws), ("sheafworks/word.neutrals", laid_sheafworks_word_neutrals)], narrowed := true }
def ScanFoldsUptoSaid : Prop := scanFoldsUptoRow.holds Tryd.pinned (OpenSpec.upto scanFoldsSpec)

/-- 'sheafworkslaw05.ScanTrees', WHERE WHAT IT READS IS OF BULK AT MOST 1048576: true; the input reads as it did. -/
def scanTreesUptoRow : OpenClaim := { program := "ytpenkemabeonaaadoor", sum := "e75cdd4888a695205b5fc3e2e4add420c964cf469ea9648bade762073cfd2df4", func := "sheafworks/sheafworkslaw05.ScanTrees", spec := "scanTrees", unfollowed := true, recurses := true, named := ["sheafworks/word.neutrals", "sheafworks/word.laws", "sheafworks/word.deeds"], apart := false, laid := [("sheafworks/word.deeds", laid_sheafworks_word_deeds), ("sheafworks/word.laws", laid_sheafworks_word_laws), ("sheafworks/word.neutrals", laid_sheafworks_word_neutrals)], narrowed := true }
def ScanTreesUptoSaid : Prop := scanTreesUptoRow.holds Tryd.pinned (OpenSpec.upto scanTreesSpec)

/-- 'sheafworkslaw05.ScanDowns', WHERE WHAT IT READS IS OF BULK AT MOST 1048576: true; the input reads as it did. -/
def scanDownsUptoRow : OpenClaim := { program := "ytpenkemabeonaaadoor", sum := "e75cdd4888a695205b5fc3e2e4add420c964cf469ea9648bade762073cfd2df4", func := "sheafworks/sheafworkslaw05.ScanDowns", spec := "scanDowns", unfollowed := true, recurses := true, named := ["sheafworks/word.neutrals", "sheafworks/word.laws", "sheafworks/word.deeds"], apart := false, laid := [("sheafworks/word.deeds", laid_sheafworks_word_deeds), ("sheafworks/word.laws", laid_sheafworks_word_laws), ("sheafworks/word.neutrals", laid_sheafworks_word_neutrals)], narrowed := true }
def ScanDownsUptoSaid : Prop := scanDownsUptoRow.holds Tryd.pinned (OpenSpec.upto scanDownsSpec)

/-- 'sheafworkslaw05.ScanFlags', WHERE WHAT IT READS IS OF BULK AT MOST 1048576: true; the input reads as it did. -/
def scanFlagsUptoRow : OpenClaim := { program := "ytpenkemabeonaaadoor", sum := "e75cdd4888a695205b5fc3e2e4add420c964cf469ea9648bade762073cfd2df4", func := "sheafworks/sheafworkslaw05.ScanFlags", spec := "scanFlags", unfollowed := true, recurses := true, named := ["sheafworks/word.neutrals", "sheafworks/word.laws", "sheafworks/word.deeds"], apart := false, laid := [("sheafworks/word.deeds", laid_sheafworks_word_deeds), ("sheafworks/word.laws", laid_sheafworks_word_laws), ("sheafworks/word.neutrals", laid_sheafworks_word_neutrals)], narrowed := true }
def ScanFlagsUptoSaid : Prop := scanFlagsUptoRow.holds Tryd.pinned (OpenSpec.upto scanFlagsSpec)

/-- 'sheafworkslaw05.ScanShapes', WHERE WHAT IT READS IS OF BULK AT MOST 1048576: true; the input reads as it did. -/
def scanShapesUptoRow : OpenClaim := { program := "ytpenkemabeonaaadoor", sum := "e75cdd4888a695205b5fc3e2e4add420c964cf469ea9648bade762073cfd2df4", func := "sheafworks/sheafworkslaw05.ScanShapes", spec := "scanShapes", unfollowed := true, recurses := true, named := ["sheafworks/word.neutrals", "sheafworks/word.laws", "sheafworks/word.deeds"], apart := false, laid := [("sheafworks/word.deeds", laid_sheafworks_word_deeds), ("sheafworks/word.laws", laid_sheafworks_word_laws), ("sheafworks/word.neutrals", laid_sheafworks_word_neutrals)], narrowed := true }
def ScanShapesUptoSaid : Prop := scanShapesUptoRow.holds Tryd.pinned (OpenSpec.upto scanShapesSpec)

/-- 'sheafworkslaw05.ScanBlocks', WHERE WHAT IT READS IS OF BULK AT MOST 1048576: true; the input reads as it did. -/
def scanBlocksUptoRow : OpenClaim := { program := "ytpenkemabeonaaadoor", sum := "e75cdd4888a695205b5fc3e2e4add420c964cf469ea9648bade762073cfd2df4", func := "sheafworks/sheafworkslaw05.ScanBlocks", spec := "scanBlocks", unfollowed := true, recurses := true, named := ["sheafworks/word.neutrals", "sheafworks/word.laws", "sheafworks/word.deeds"], apart := false, laid := [("sheafworks/word.deeds", laid_sheafworks_word_deeds), ("sheafworks/word.laws", laid_sheafworks_word_laws), ("sheafworks/word.neutrals", laid_sheafworks_word_neutrals)], narrowed := true }
def ScanBlocksUptoSaid : Prop := scanBlocksUptoRow.holds Tryd.pinned (OpenSpec.upto scanBlocksSpec)

/-- 'sheafworkslaw05.ScanParts', WHERE WHAT IT READS IS OF BULK AT MOST 1048576: true; the input reads as it did. -/
def scanPartsUptoRow : OpenClaim := { program := "ytpenkemabeonaaadoor", sum := "e75cdd4888a695205b5fc3e2e4add420c964cf469ea9648bade762073cfd2df4", func := "sheafworks/sheafworkslaw05.ScanParts", spec := "scanParts", unfollowed := true, recurses := true, named := ["sheafworks/word.neutrals", "sheafworks/word.laws", "sheafworks/word.deeds"], apart := false, laid := [("sheafworks/word.deeds", laid_sheafworks_word_deeds), ("sheafworks/word.laws", laid_sheafworks_word_laws), ("sheafworks/word.neutrals", laid_sheafworks_word_neutrals)], narrowed := true }
def ScanPartsUptoSaid : Prop := scanPartsUptoRow.holds Tryd.pinned (OpenSpec.upto scanPartsSpec)

/-- 'sheafworkslaw05.ScanFlagged', WHERE WHAT IT READS IS OF BULK AT MOST 1048576: true; the input reads as it did. -/
def scanFlaggedUptoRow : OpenClaim := { program := "ytpenkemabeonaaadoor", sum := "e75cdd4888a695205b5fc3e2e4add420c964cf469ea9648bade762073cfd2df4", func := "sheafworks/sheafworkslaw05.ScanFlagged", spec := "scanFlagged", unfollowed := true, recurses := true, named := ["sheafworks/word.neutrals", "sheafworks/word.laws", "sheafworks/word.deeds"], apart := false, laid := [("sheafworks/word.deeds", laid_sheafworks_word_deeds), ("sheafworks/word.laws", laid_sheafworks_word_laws), ("sheafworks/word.neutrals", laid_sheafworks_word_neutrals)], narrowed := true }
def ScanFlaggedUptoSaid : Prop := scanFlaggedUptoRow.holds Tryd.pinned (OpenSpec.upto scanFlaggedSpec)

/-- 'sheafworkslaw05.ScanKnown', WHERE WHAT IT READS IS OF BULK AT MOST 1048576: true; the input reads as it did. -/
def scanKnownUptoRow : OpenClaim := { program := "ytpenkemabeonaaadoor", sum := "e75cdd4888a695205b5fc3e2e4add420c964cf469ea9648bade762073cfd2df4", func := "sheafworks/sheafworkslaw05.ScanKnown", spec := "scanKnown", unfollowed := true, recurses := true, named := ["sheafworks/word.neutrals", "sheafworks/word.laws", "sheafworks/word.deeds"], apart := false, laid := [("sheafworks/word.deeds", laid_sheafworks_word_deeds), ("sheafworks/word.laws", laid_sheafworks_word_laws), ("sheafworks/word.neutrals", laid_sheafworks_word_neutrals)], narrowed := true }
def ScanKnownUptoSaid : Prop := scanKnownUptoRow.holds Tryd.pinned (OpenSpec.upto scanKnownSpec)

end Rows
end Go.Proofs.YtpenkemabeonaaaDoor
