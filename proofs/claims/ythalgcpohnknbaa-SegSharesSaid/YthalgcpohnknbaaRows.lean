/-
  No cell of these rows narrows 'for every input' (looked for: loops, veiled, ifaces, maps, wideKeys, modest, calm, conditions, laid).
  DERIVED. THE GIVEN ROWS OF THIS SEAT. 9 by the template 'for every input the law returns true; each argument reads behind the call as it read before'; 0 by the template 'total and deterministic' (their statements: YthalgcpohnknbaaTotals.lean).
  GIVEN WITH THE SEED: the statements are not yours to turn. If you find one false, say at which input.
  Laid BY PROGRAM, IN A SANDBOX (cutbox-rows.mjs): the forced cells as the released guide's own fill.sh prints them over the translation 3bfd40dd06f797d9… (all of the seat's roots in one cut). By AI agents, Wed Nov 11 2026. No macro, syntax, notation, axiom, sorry.
-/
import Derived.Test.YthalgcpohnknbaaChecked
import GoSem.Claim
import GoSem.ClaimJoined
import GoSem.ClaimMapViews
import Derived.JoinedTies
import Derived.KernelRfl
namespace Go.Proofs.Ythalgcpohnknbaa
/- THE CELL 'sum', in the pinned program and in every row, IS THE sha256 OF THE DUMP (.gsa) THAT YthalgcpohnknbaaProg.lean LOADS. Nothing in Lean hashes anything: it is a label: what it is worth is what the hold of that sum in a sandbox is worth. -/
noncomputable def Try.pinned : Pinned := { name := "ythalgcpohnknbaa", sum := "3bfd40dd06f797d989d586374d42ebe2a57d5caa9a16cff432221437e3bfa3ca", checked := Try.checked }
namespace Rows
def none {H : Type} : Left H := { results := [], args := [] }

/-- 'sheafworkslaw02.SegLengths': WHATEVER THE INPUT: true; the input reads as it did. -/
def segLengthsSpec : ChangeSpec := { name := "segLengths", fn := fun _ => fun
  | [d] => { results := [.lit (.bool true)], args := [d] }
  | _ => none }
def segLengthsRow : OpenClaim := { program := "ythalgcpohnknbaa", sum := "3bfd40dd06f797d989d586374d42ebe2a57d5caa9a16cff432221437e3bfa3ca", func := "sheafworks/sheafworkslaw02.SegLengths", spec := "segLengths", unfollowed := true, recurses := true, apart := false }
def SegLengthsSaid : Prop := segLengthsRow.holds Try.pinned (OpenSpec.ofChange segLengthsSpec)

/-- ITS FALSE NEIGHBOUR: 'it returns false'. Refute it at one input. -/
def segLengthsWrong : ChangeSpec := { name := "segLengths", fn := fun _ => fun
  | [d] => { results := [.lit (.bool false)], args := [d] }
  | _ => none }
def SegLengthsWrongFalsely : Prop := segLengthsRow.holds Try.pinned (OpenSpec.ofChange segLengthsWrong)

/-- 'sheafworkslaw02.SegBack': WHATEVER THE INPUT: true; the input reads as it did. -/
def segBackSpec : ChangeSpec := { name := "segBack", fn := fun _ => fun
  | [d1, d2] => { results := [.lit (.bool true)], args := [d1, d2] }
  | _ => none }
def segBackRow : OpenClaim := { program := "ythalgcpohnknbaa", sum := "3bfd40dd06f797d989d586374d42ebe2a57d5caa9a16cff432221437e3bfa3ca", func := "sheafworks/sheafworkslaw02.SegBack", spec := "segBack", unfollowed := true, recurses := true, apart := false }
def SegBackSaid : Prop := segBackRow.holds Try.pinned (OpenSpec.ofChange segBackSpec)

/-- ITS FALSE NEIGHBOUR: 'it returns false'. Refute it at one input. -/
def segBackWrong : ChangeSpec := { name := "segBack", fn := fun _ => fun
  | [d1, d2] => { results := [.lit (.bool false)], args := [d1, d2] }
  | _ => none }
def SegBackWrongFalsely : Prop := segBackRow.holds Try.pinned (OpenSpec.ofChange segBackWrong)

/-- 'sheafworkslaw02.SegNests': WHATEVER THE INPUT: true; the input reads as it did. -/
def segNestsSpec : ChangeSpec := { name := "segNests", fn := fun _ => fun
  | [d1, d2, d3] => { results := [.lit (.bool true)], args := [d1, d2, d3] }
  | _ => none }
def segNestsRow : OpenClaim := { program := "ythalgcpohnknbaa", sum := "3bfd40dd06f797d989d586374d42ebe2a57d5caa9a16cff432221437e3bfa3ca", func := "sheafworks/sheafworkslaw02.SegNests", spec := "segNests", unfollowed := true, recurses := true, apart := false }
def SegNestsSaid : Prop := segNestsRow.holds Try.pinned (OpenSpec.ofChange segNestsSpec)

/-- ITS FALSE NEIGHBOUR: 'it returns false'. Refute it at one input. -/
def segNestsWrong : ChangeSpec := { name := "segNests", fn := fun _ => fun
  | [d1, d2, d3] => { results := [.lit (.bool false)], args := [d1, d2, d3] }
  | _ => none }
def SegNestsWrongFalsely : Prop := segNestsRow.holds Try.pinned (OpenSpec.ofChange segNestsWrong)

/-- 'sheafworkslaw02.SegShares': WHATEVER THE INPUT: true; the input reads as it did. -/
def segSharesSpec : ChangeSpec := { name := "segShares", fn := fun _ => fun
  | [d1, d2, d3] => { results := [.lit (.bool true)], args := [d1, d2, d3] }
  | _ => none }
def segSharesRow : OpenClaim := { program := "ythalgcpohnknbaa", sum := "3bfd40dd06f797d989d586374d42ebe2a57d5caa9a16cff432221437e3bfa3ca", func := "sheafworks/sheafworkslaw02.SegShares", spec := "segShares", unfollowed := true, recurses := true, apart := false }
def SegSharesSaid : Prop := segSharesRow.holds Try.pinned (OpenSpec.ofChange segSharesSpec)

/-- ITS FALSE NEIGHBOUR: 'it returns false'. Refute it at one input. -/
def segSharesWrong : ChangeSpec := { name := "segShares", fn := fun _ => fun
  | [d1, d2, d3] => { results := [.lit (.bool false)], args := [d1, d2, d3] }
  | _ => none }
def SegSharesWrongFalsely : Prop := segSharesRow.holds Try.pinned (OpenSpec.ofChange segSharesWrong)

/-- 'sheafworkslaw02.SegThere': WHATEVER THE INPUT: true; the input reads as it did. -/
def segThereSpec : ChangeSpec := { name := "segThere", fn := fun _ => fun
  | [d] => { results := [.lit (.bool true)], args := [d] }
  | _ => none }
def segThereRow : OpenClaim := { program := "ythalgcpohnknbaa", sum := "3bfd40dd06f797d989d586374d42ebe2a57d5caa9a16cff432221437e3bfa3ca", func := "sheafworks/sheafworkslaw02.SegThere", spec := "segThere", unfollowed := true, recurses := true, apart := false }
def SegThereSaid : Prop := segThereRow.holds Try.pinned (OpenSpec.ofChange segThereSpec)

/-- ITS FALSE NEIGHBOUR: 'it returns false'. Refute it at one input. -/
def segThereWrong : ChangeSpec := { name := "segThere", fn := fun _ => fun
  | [d] => { results := [.lit (.bool false)], args := [d] }
  | _ => none }
def SegThereWrongFalsely : Prop := segThereRow.holds Try.pinned (OpenSpec.ofChange segThereWrong)

/-- 'sheafworkslaw02.SegPieces': WHATEVER THE INPUT: true; the input reads as it did. -/
def segPiecesSpec : ChangeSpec := { name := "segPieces", fn := fun _ => fun
  | [d1, d2] => { results := [.lit (.bool true)], args := [d1, d2] }
  | _ => none }
def segPiecesRow : OpenClaim := { program := "ythalgcpohnknbaa", sum := "3bfd40dd06f797d989d586374d42ebe2a57d5caa9a16cff432221437e3bfa3ca", func := "sheafworks/sheafworkslaw02.SegPieces", spec := "segPieces", unfollowed := true, recurses := true, apart := false }
def SegPiecesSaid : Prop := segPiecesRow.holds Try.pinned (OpenSpec.ofChange segPiecesSpec)

/-- ITS FALSE NEIGHBOUR: 'it returns false'. Refute it at one input. -/
def segPiecesWrong : ChangeSpec := { name := "segPieces", fn := fun _ => fun
  | [d1, d2] => { results := [.lit (.bool false)], args := [d1, d2] }
  | _ => none }
def SegPiecesWrongFalsely : Prop := segPiecesRow.holds Try.pinned (OpenSpec.ofChange segPiecesWrong)

/-- 'sheafworkslaw02.SegShared': WHATEVER THE INPUT: true; the input reads as it did. -/
def segSharedSpec : ChangeSpec := { name := "segShared", fn := fun _ => fun
  | [d1, d2] => { results := [.lit (.bool true)], args := [d1, d2] }
  | _ => none }
def segSharedRow : OpenClaim := { program := "ythalgcpohnknbaa", sum := "3bfd40dd06f797d989d586374d42ebe2a57d5caa9a16cff432221437e3bfa3ca", func := "sheafworks/sheafworkslaw02.SegShared", spec := "segShared", unfollowed := true, recurses := true, apart := false }
def SegSharedSaid : Prop := segSharedRow.holds Try.pinned (OpenSpec.ofChange segSharedSpec)

/-- ITS FALSE NEIGHBOUR: 'it returns false'. Refute it at one input. -/
def segSharedWrong : ChangeSpec := { name := "segShared", fn := fun _ => fun
  | [d1, d2] => { results := [.lit (.bool false)], args := [d1, d2] }
  | _ => none }
def SegSharedWrongFalsely : Prop := segSharedRow.holds Try.pinned (OpenSpec.ofChange segSharedWrong)

/-- 'sheafworkslaw02.SegAlone': WHATEVER THE INPUT: true; the input reads as it did. -/
def segAloneSpec : ChangeSpec := { name := "segAlone", fn := fun _ => fun
  | [d] => { results := [.lit (.bool true)], args := [d] }
  | _ => none }
def segAloneRow : OpenClaim := { program := "ythalgcpohnknbaa", sum := "3bfd40dd06f797d989d586374d42ebe2a57d5caa9a16cff432221437e3bfa3ca", func := "sheafworks/sheafworkslaw02.SegAlone", spec := "segAlone", unfollowed := true, recurses := true, apart := false }
def SegAloneSaid : Prop := segAloneRow.holds Try.pinned (OpenSpec.ofChange segAloneSpec)

/-- ITS FALSE NEIGHBOUR: 'it returns false'. Refute it at one input. -/
def segAloneWrong : ChangeSpec := { name := "segAlone", fn := fun _ => fun
  | [d] => { results := [.lit (.bool false)], args := [d] }
  | _ => none }
def SegAloneWrongFalsely : Prop := segAloneRow.holds Try.pinned (OpenSpec.ofChange segAloneWrong)

/-- 'sheafworkslaw02.SegKnown': WHATEVER THE INPUT: true; the input reads as it did. -/
def segKnownSpec : ChangeSpec := { name := "segKnown", fn := fun _ => fun
  | [] => { results := [.lit (.bool true)], args := [] }
  | _ => none }
def segKnownRow : OpenClaim := { program := "ythalgcpohnknbaa", sum := "3bfd40dd06f797d989d586374d42ebe2a57d5caa9a16cff432221437e3bfa3ca", func := "sheafworks/sheafworkslaw02.SegKnown", spec := "segKnown", unfollowed := true, recurses := true, apart := false }
def SegKnownSaid : Prop := segKnownRow.holds Try.pinned (OpenSpec.ofChange segKnownSpec)

/-- ITS FALSE NEIGHBOUR: 'it returns false'. Refute it at one input. -/
def segKnownWrong : ChangeSpec := { name := "segKnown", fn := fun _ => fun
  | [] => { results := [.lit (.bool false)], args := [] }
  | _ => none }
def SegKnownWrongFalsely : Prop := segKnownRow.holds Try.pinned (OpenSpec.ofChange segKnownWrong)

/- THE SECOND FORM. 'bulk': how many values and letters a reading holds, each counted each time it is reached (what is shared counts as often as it is met; a slice's spare places count too). A statement '..UptoSaid' is the law's where the arguments, and the package variables that the reading takes, are together of bulk at most 1048576: NARROWER than '..Said'. Prove '..Said' where nothing that the law and all that it calls make is longer than what came in: it says more and counts as full. Else prove '..UptoSaid'. A law counts once. -/
mutual
def uptoBulk {H : Type} : DataW H → Nat
  | .lit (.string bytes) => bytes.length + 1
  | .lit _ => 1
  | .nil => 1
  | .ptr d => uptoBulk d + 1
  | .slice elems spare => uptoBulkAll elems + uptoBulkAll spare + 1
  | .agg parts => uptoBulkAll parts + 1
  | .iface _ d => uptoBulk d + 1
  | .map entries => uptoBulkEntries entries + 1
  | .held _ => 1
def uptoBulkAll {H : Type} : List (DataW H) → Nat
  | [] => 0
  | d :: r => uptoBulk d + uptoBulkAll r
def uptoBulkEntries {H : Type} : List (Lit × DataW H) → Nat
  | [] => 0
  | x :: r => uptoBulkEntry x + uptoBulkEntries r
def uptoBulkEntry {H : Type} : Lit × DataW H → Nat
  | (.string bytes, d) => bytes.length + uptoBulk d + 1
  | (_, d) => uptoBulk d + 1
 end
def uptoSmall : (H : Type) → List (DataW H) → Bool := fun _ ds => decide (uptoBulkAll ds ≤ 1048576)
def OpenSpec.upto (s : _root_.Go.ChangeSpec) : _root_.Go.OpenSpec := { _root_.Go.OpenSpec.ofChange s with cond := some uptoSmall }

/-- 'sheafworkslaw02.SegLengths', WHERE WHAT IT READS IS OF BULK AT MOST 1048576: true; the input reads as it did. -/
def segLengthsUptoRow : OpenClaim := { program := "ythalgcpohnknbaa", sum := "3bfd40dd06f797d989d586374d42ebe2a57d5caa9a16cff432221437e3bfa3ca", func := "sheafworks/sheafworkslaw02.SegLengths", spec := "segLengths", unfollowed := true, recurses := true, apart := false, narrowed := true }
def SegLengthsUptoSaid : Prop := segLengthsUptoRow.holds Try.pinned (OpenSpec.upto segLengthsSpec)

/-- 'sheafworkslaw02.SegBack', WHERE WHAT IT READS IS OF BULK AT MOST 1048576: true; the input reads as it did. -/
def segBackUptoRow : OpenClaim := { program := "ythalgcpohnknbaa", sum := "3bfd40dd06f797d989d586374d42ebe2a57d5caa9a16cff432221437e3bfa3ca", func := "sheafworks/sheafworkslaw02.SegBack", spec := "segBack", unfollowed := true, recurses := true, apart := false, narrowed := true }
def SegBackUptoSaid : Prop := segBackUptoRow.holds Try.pinned (OpenSpec.upto segBackSpec)

/-- 'sheafworkslaw02.SegNests', WHERE WHAT IT READS IS OF BULK AT MOST 1048576: true; the input reads as it did. -/
def segNestsUptoRow : OpenClaim := { program := "ythalgcpohnknbaa", sum := "3bfd40dd06f797d989d586374d42ebe2a57d5caa9a16cff432221437e3bfa3ca", func := "sheafworks/sheafworkslaw02.SegNests", spec := "segNests", unfollowed := true, recurses := true, apart := false, narrowed := true }
def SegNestsUptoSaid : Prop := segNestsUptoRow.holds Try.pinned (OpenSpec.upto segNestsSpec)

/-- 'sheafworkslaw02.SegShares', WHERE WHAT IT READS IS OF BULK AT MOST 1048576: true; the input reads as it did. -/
def segSharesUptoRow : OpenClaim := { program := "ythalgcpohnknbaa", sum := "3bfd40dd06f797d989d586374d42ebe2a57d5caa9a16cff432221437e3bfa3ca", func := "sheafworks/sheafworkslaw02.SegShares", spec := "segShares", unfollowed := true, recurses := true, apart := false, narrowed := true }
def SegSharesUptoSaid : Prop := segSharesUptoRow.holds Try.pinned (OpenSpec.upto segSharesSpec)

/-- 'sheafworkslaw02.SegThere', WHERE WHAT IT READS IS OF BULK AT MOST 1048576: true; the input reads as it did. -/
def segThereUptoRow : OpenClaim := { program := "ythalgcpohnknbaa", sum := "3bfd40dd06f797d989d586374d42ebe2a57d5caa9a16cff432221437e3bfa3ca", func := "sheafworks/sheafworkslaw02.SegThere", spec := "segThere", unfollowed := true, recurses := true, apart := false, narrowed := true }
def SegThereUptoSaid : Prop := segThereUptoRow.holds Try.pinned (OpenSpec.upto segThereSpec)

/-- 'sheafworkslaw02.SegPieces', WHERE WHAT IT READS IS OF BULK AT MOST 1048576: true; the input reads as it did. -/
def segPiecesUptoRow : OpenClaim := { program := "ythalgcpohnknbaa", sum := "3bfd40dd06f797d989d586374d42ebe2a57d5caa9a16cff432221437e3bfa3ca", func := "sheafworks/sheafworkslaw02.SegPieces", spec := "segPieces", unfollowed := true, recurses := true, apart := false, narrowed := true }
def SegPiecesUptoSaid : Prop := segPiecesUptoRow.holds Try.pinned (OpenSpec.upto segPiecesSpec)

/-- 'sheafworkslaw02.SegShared', WHERE WHAT IT READS IS OF BULK AT MOST 1048576: true; the input reads as it did. -/
def segSharedUptoRow : OpenClaim := { program := "ythalgcpohnknbaa", sum := "3bfd40dd06f797d989d586374d42ebe2a57d5caa9a16cff432221437e3bfa3ca", func := "sheafworks/sheafworkslaw02.SegShared", spec := "segShared", unfollowed := true, recurses := true, apart := false, narrowed := true }
def SegSharedUptoSaid : Prop := segSharedUptoRow.holds Try.pinned (OpenSpec.upto segSharedSpec)

/-- 'sheafworkslaw02.SegAlone', WHERE WHAT IT READS IS OF BULK AT MOST 1048576: true; the input reads as it did. -/
def segAloneUptoRow : OpenClaim := { program := "ythalgcpohnknbaa", sum := "3bfd40dd06f797d989d586374d42ebe2a57d5caa9a16cff432221437e3bfa3ca", func := "sheafworks/sheafworkslaw02.SegAlone", spec := "segAlone", unfollowed := true, recurses := true, apart := false, narrowed := true }
def SegAloneUptoSaid : Prop := segAloneUptoRow.holds Try.pinned (OpenSpec.upto segAloneSpec)

/-- 'sheafworkslaw02.SegKnown', WHERE WHAT IT READS IS OF BULK AT MOST 1048576: true; the input reads as it did. -/
def segKnownUptoRow : OpenClaim := { program := "ythalgcpohnknbaa", sum := "3bfd40dd06f797d989d586374d42ebe2a57d5caa9a16cff432221437e3bfa3ca", func := "sheafworks/sheafworkslaw02.SegKnown", spec := "segKnown", unfollowed := true, recurses := true, apart := false, narrowed := true }
def SegKnownUptoSaid : Prop := segKnownUptoRow.holds Try.pinned (OpenSpec.upto segKnownSpec)

end Rows
end Go.Proofs.Ythalgcpohnknbaa
