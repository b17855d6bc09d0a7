/-
  No cell of these rows narrows 'for every input' (looked for: loops, veiled, ifaces, maps, wideKeys, modest, calm, conditions, laid).
  DERIVED. THE GIVEN ROWS OF THIS SEAT. 10 by the template 'for every input the law returns true; each argument reads behind the call as it read before'; 0 by the template 'total and deterministic' (their statements: YtnkepaenpoadpaaTotals.lean).
  GIVEN WITH THE SEED: the statements are not yours to turn. If you find one false, say at which input.
  Laid BY PROGRAM, IN A SANDBOX (cutbox-rows.mjs): the forced cells as the released guide's own fill.sh prints them over the translation 5f9f99e5762a9f7a… (all of the seat's roots in one cut). By AI agents, Wed Nov 11 2026. No macro, syntax, notation, axiom, sorry.
-/
import Derived.Test.YtnkepaenpoadpaaChecked
import GoSem.Claim
import GoSem.ClaimJoined
import GoSem.ClaimMapViews
import Derived.JoinedTies
import Derived.KernelRfl
namespace Go.Proofs.Ytnkepaenpoadpaa
/- THE CELL 'sum', in the pinned program and in every row, IS THE sha256 OF THE DUMP (.gsa) THAT YtnkepaenpoadpaaProg.lean LOADS. Nothing in Lean hashes anything: it is a label: what it is worth is what the hold of that sum in a sandbox is worth. -/
noncomputable def Try.pinned : Pinned := { name := "ytnkepaenpoadpaa", sum := "5f9f99e5762a9f7a224c3e1a5d300221a30c3994860a86304a10cee85f3d355d", checked := Try.checked }
namespace Rows
def none {H : Type} : Left H := { results := [], args := [] }

/-- 'sheafworkslaw07.RankPlaces': WHATEVER THE INPUT: true; the input reads as it did. -/
def rankPlacesSpec : ChangeSpec := { name := "rankPlaces", fn := fun _ => fun
  | [d1, d2] => { results := [.lit (.bool true)], args := [d1, d2] }
  | _ => none }
def rankPlacesRow : OpenClaim := { program := "ytnkepaenpoadpaa", sum := "5f9f99e5762a9f7a224c3e1a5d300221a30c3994860a86304a10cee85f3d355d", func := "sheafworks/sheafworkslaw07.RankPlaces", spec := "rankPlaces", unfollowed := true, recurses := true, apart := false }
def RankPlacesSaid : Prop := rankPlacesRow.holds Try.pinned (OpenSpec.ofChange rankPlacesSpec)

/-- ITS FALSE NEIGHBOUR: 'it returns false'. Refute it at one input. -/
def rankPlacesWrong : ChangeSpec := { name := "rankPlaces", fn := fun _ => fun
  | [d1, d2] => { results := [.lit (.bool false)], args := [d1, d2] }
  | _ => none }
def RankPlacesWrongFalsely : Prop := rankPlacesRow.holds Try.pinned (OpenSpec.ofChange rankPlacesWrong)

/-- 'sheafworkslaw07.RankSorts': WHATEVER THE INPUT: true; the input reads as it did. -/
def rankSortsSpec : ChangeSpec := { name := "rankSorts", fn := fun _ => fun
  | [d1, d2, d3] => { results := [.lit (.bool true)], args := [d1, d2, d3] }
  | _ => none }
def rankSortsRow : OpenClaim := { program := "ytnkepaenpoadpaa", sum := "5f9f99e5762a9f7a224c3e1a5d300221a30c3994860a86304a10cee85f3d355d", func := "sheafworks/sheafworkslaw07.RankSorts", spec := "rankSorts", unfollowed := true, recurses := true, apart := false }
def RankSortsSaid : Prop := rankSortsRow.holds Try.pinned (OpenSpec.ofChange rankSortsSpec)

/-- ITS FALSE NEIGHBOUR: 'it returns false'. Refute it at one input. -/
def rankSortsWrong : ChangeSpec := { name := "rankSorts", fn := fun _ => fun
  | [d1, d2, d3] => { results := [.lit (.bool false)], args := [d1, d2, d3] }
  | _ => none }
def RankSortsWrongFalsely : Prop := rankSortsRow.holds Try.pinned (OpenSpec.ofChange rankSortsWrong)

/-- 'sheafworkslaw07.RankMerges': WHATEVER THE INPUT: true; the input reads as it did. -/
def rankMergesSpec : ChangeSpec := { name := "rankMerges", fn := fun _ => fun
  | [d1, d2] => { results := [.lit (.bool true)], args := [d1, d2] }
  | _ => none }
def rankMergesRow : OpenClaim := { program := "ytnkepaenpoadpaa", sum := "5f9f99e5762a9f7a224c3e1a5d300221a30c3994860a86304a10cee85f3d355d", func := "sheafworks/sheafworkslaw07.RankMerges", spec := "rankMerges", unfollowed := true, recurses := true, apart := false }
def RankMergesSaid : Prop := rankMergesRow.holds Try.pinned (OpenSpec.ofChange rankMergesSpec)

/-- ITS FALSE NEIGHBOUR: 'it returns false'. Refute it at one input. -/
def rankMergesWrong : ChangeSpec := { name := "rankMerges", fn := fun _ => fun
  | [d1, d2] => { results := [.lit (.bool false)], args := [d1, d2] }
  | _ => none }
def RankMergesWrongFalsely : Prop := rankMergesRow.holds Try.pinned (OpenSpec.ofChange rankMergesWrong)

/-- 'sheafworkslaw07.RankFirsts': WHATEVER THE INPUT: true; the input reads as it did. -/
def rankFirstsSpec : ChangeSpec := { name := "rankFirsts", fn := fun _ => fun
  | [d1, d2] => { results := [.lit (.bool true)], args := [d1, d2] }
  | _ => none }
def rankFirstsRow : OpenClaim := { program := "ytnkepaenpoadpaa", sum := "5f9f99e5762a9f7a224c3e1a5d300221a30c3994860a86304a10cee85f3d355d", func := "sheafworks/sheafworkslaw07.RankFirsts", spec := "rankFirsts", unfollowed := true, recurses := true, apart := false }
def RankFirstsSaid : Prop := rankFirstsRow.holds Try.pinned (OpenSpec.ofChange rankFirstsSpec)

/-- ITS FALSE NEIGHBOUR: 'it returns false'. Refute it at one input. -/
def rankFirstsWrong : ChangeSpec := { name := "rankFirsts", fn := fun _ => fun
  | [d1, d2] => { results := [.lit (.bool false)], args := [d1, d2] }
  | _ => none }
def RankFirstsWrongFalsely : Prop := rankFirstsRow.holds Try.pinned (OpenSpec.ofChange rankFirstsWrong)

/-- 'sheafworkslaw07.RankBack': WHATEVER THE INPUT: true; the input reads as it did. -/
def rankBackSpec : ChangeSpec := { name := "rankBack", fn := fun _ => fun
  | [d1, d2, d3, d4] => { results := [.lit (.bool true)], args := [d1, d2, d3, d4] }
  | _ => none }
def rankBackRow : OpenClaim := { program := "ytnkepaenpoadpaa", sum := "5f9f99e5762a9f7a224c3e1a5d300221a30c3994860a86304a10cee85f3d355d", func := "sheafworks/sheafworkslaw07.RankBack", spec := "rankBack", unfollowed := true, recurses := true, apart := false }
def RankBackSaid : Prop := rankBackRow.holds Try.pinned (OpenSpec.ofChange rankBackSpec)

/-- ITS FALSE NEIGHBOUR: 'it returns false'. Refute it at one input. -/
def rankBackWrong : ChangeSpec := { name := "rankBack", fn := fun _ => fun
  | [d1, d2, d3, d4] => { results := [.lit (.bool false)], args := [d1, d2, d3, d4] }
  | _ => none }
def RankBackWrongFalsely : Prop := rankBackRow.holds Try.pinned (OpenSpec.ofChange rankBackWrong)

/-- 'sheafworkslaw07.RankStable': WHATEVER THE INPUT: true; the input reads as it did. -/
def rankStableSpec : ChangeSpec := { name := "rankStable", fn := fun _ => fun
  | [d1, d2] => { results := [.lit (.bool true)], args := [d1, d2] }
  | _ => none }
def rankStableRow : OpenClaim := { program := "ytnkepaenpoadpaa", sum := "5f9f99e5762a9f7a224c3e1a5d300221a30c3994860a86304a10cee85f3d355d", func := "sheafworks/sheafworkslaw07.RankStable", spec := "rankStable", unfollowed := true, recurses := true, apart := false }
def RankStableSaid : Prop := rankStableRow.holds Try.pinned (OpenSpec.ofChange rankStableSpec)

/-- ITS FALSE NEIGHBOUR: 'it returns false'. Refute it at one input. -/
def rankStableWrong : ChangeSpec := { name := "rankStable", fn := fun _ => fun
  | [d1, d2] => { results := [.lit (.bool false)], args := [d1, d2] }
  | _ => none }
def RankStableWrongFalsely : Prop := rankStableRow.holds Try.pinned (OpenSpec.ofChange rankStableWrong)

/-- 'sheafworkslaw07.RankSplits': WHATEVER THE INPUT: true; the input reads as it did. -/
def rankSplitsSpec : ChangeSpec := { name := "rankSplits", fn := fun _ => fun
  | [d1, d2, d3] => { results := [.lit (.bool true)], args := [d1, d2, d3] }
  | _ => none }
def rankSplitsRow : OpenClaim := { program := "ytnkepaenpoadpaa", sum := "5f9f99e5762a9f7a224c3e1a5d300221a30c3994860a86304a10cee85f3d355d", func := "sheafworks/sheafworkslaw07.RankSplits", spec := "rankSplits", unfollowed := true, recurses := true, apart := false }
def RankSplitsSaid : Prop := rankSplitsRow.holds Try.pinned (OpenSpec.ofChange rankSplitsSpec)

/-- ITS FALSE NEIGHBOUR: 'it returns false'. Refute it at one input. -/
def rankSplitsWrong : ChangeSpec := { name := "rankSplits", fn := fun _ => fun
  | [d1, d2, d3] => { results := [.lit (.bool false)], args := [d1, d2, d3] }
  | _ => none }
def RankSplitsWrongFalsely : Prop := rankSplitsRow.holds Try.pinned (OpenSpec.ofChange rankSplitsWrong)

/-- 'sheafworkslaw07.RankMerged': WHATEVER THE INPUT: true; the input reads as it did. -/
def rankMergedSpec : ChangeSpec := { name := "rankMerged", fn := fun _ => fun
  | [d1, d2] => { results := [.lit (.bool true)], args := [d1, d2] }
  | _ => none }
def rankMergedRow : OpenClaim := { program := "ytnkepaenpoadpaa", sum := "5f9f99e5762a9f7a224c3e1a5d300221a30c3994860a86304a10cee85f3d355d", func := "sheafworks/sheafworkslaw07.RankMerged", spec := "rankMerged", unfollowed := true, recurses := true, apart := false }
def RankMergedSaid : Prop := rankMergedRow.holds Try.pinned (OpenSpec.ofChange rankMergedSpec)

/-- ITS FALSE NEIGHBOUR: 'it returns false'. Refute it at one input. -/
def rankMergedWrong : ChangeSpec := { name := "rankMerged", fn := fun _ => fun
  | [d1, d2] => { results := [.lit (.bool false)], args := [d1, d2] }
  | _ => none }
def RankMergedWrongFalsely : Prop := rankMergedRow.holds Try.pinned (OpenSpec.ofChange rankMergedWrong)

/-- 'sheafworkslaw07.RankRanks': WHATEVER THE INPUT: true; the input reads as it did. -/
def rankRanksSpec : ChangeSpec := { name := "rankRanks", fn := fun _ => fun
  | [d1, d2, d3] => { results := [.lit (.bool true)], args := [d1, d2, d3] }
  | _ => none }
def rankRanksRow : OpenClaim := { program := "ytnkepaenpoadpaa", sum := "5f9f99e5762a9f7a224c3e1a5d300221a30c3994860a86304a10cee85f3d355d", func := "sheafworks/sheafworkslaw07.RankRanks", spec := "rankRanks", unfollowed := true, recurses := true, apart := false }
def RankRanksSaid : Prop := rankRanksRow.holds Try.pinned (OpenSpec.ofChange rankRanksSpec)

/-- ITS FALSE NEIGHBOUR: 'it returns false'. Refute it at one input. -/
def rankRanksWrong : ChangeSpec := { name := "rankRanks", fn := fun _ => fun
  | [d1, d2, d3] => { results := [.lit (.bool false)], args := [d1, d2, d3] }
  | _ => none }
def RankRanksWrongFalsely : Prop := rankRanksRow.holds Try.pinned (OpenSpec.ofChange rankRanksWrong)

/-- 'sheafworkslaw07.RankKnown': WHATEVER THE INPUT: true; the input reads as it did. -/
def rankKnownSpec : ChangeSpec := { name := "rankKnown", fn := fun _ => fun
  | [] => { results := [.lit (.bool true)], args := [] }
  | _ => none }
def rankKnownRow : OpenClaim := { program := "ytnkepaenpoadpaa", sum := "5f9f99e5762a9f7a224c3e1a5d300221a30c3994860a86304a10cee85f3d355d", func := "sheafworks/sheafworkslaw07.RankKnown", spec := "rankKnown", unfollowed := true, recurses := true, apart := false }
def RankKnownSaid : Prop := rankKnownRow.holds Try.pinned (OpenSpec.ofChange rankKnownSpec)

/-- ITS FALSE NEIGHBOUR: 'it returns false'. Refute it at one input. -/
def rankKnownWrong : ChangeSpec := { name := "rankKnown", fn := fun _ => fun
  | [] => { results := [.lit (.bool false)], args := [] }
  | _ => none }
def RankKnownWrongFalsely : Prop := rankKnownRow.holds Try.pinned (OpenSpec.ofChange rankKnownWrong)

/- THE SECOND FORM. 'bulk': how many values and letters a reading holds, each counted each time it is reached (what is shared counts as often as it is met; a slice's spare places count too). A statement '..UptoSaid' is the law's where the arguments, and the package variables that the reading takes, are together of bulk at most 1048576: NARROWER than '..Said'. Prove '..Said' where nothing that the law and all that it calls make is longer than what came in: it says more and counts as full. Else prove '..UptoSaid'. A law counts once. -/
mutual
def uptoBulk {H : Type} : DataW H → Nat
  | .lit (.string bytes) => bytes.length + 1
  | .lit _ => 1
  | .nil => 1
  | .ptr d => uptoBulk d + 1
  | .slice elems spare => uptoBulkAll elems + uptoBulkAll spare + 1
  | .agg parts => uptoBulkAll parts + 1
  | .iface _ d => uptoBulk d + 1
  | .map entries => uptoBulkEntries entries + 1
  | .held _ => 1
def uptoBulkAll {H : Type} : List (DataW H) → Nat
  | [] => 0
  | d :: r => uptoBulk d + uptoBulkAll r
def uptoBulkEntries {H : Type} : List (Lit × DataW H) → Nat
  | [] => 0
  | x :: r => uptoBulkEntry x + uptoBulkEntries r
def uptoBulkEntry {H : Type} : Lit × DataW H → Nat
  | (.string bytes, d) => bytes.length + uptoBulk d + 1
  | (_, d) => uptoBulk d + 1
 end
def uptoSmall : (H : Type) → List (DataW H) → Bool := fun _ ds => decide (uptoBulkAll ds ≤ 1048576)
def OpenSpec.upto (s : _root_.Go.ChangeSpec) : _root_.Go.OpenSpec := { _root_.Go.OpenSpec.ofChange s with cond := some uptoSmall }

/-- 'sheafworkslaw07.RankPlaces', WHERE WHAT IT READS IS OF BULK AT MOST 1048576: true; the input reads as it did. -/
def rankPlacesUptoRow : OpenClaim := { program := "ytnkepaenpoadpaa", sum := "5f9f99e5762a9f7a224c3e1a5d300221a30c3994860a86304a10cee85f3d355d", func := "sheafworks/sheafworkslaw07.RankPlaces", spec := "rankPlaces", unfollowed := true, recurses := true, apart := false, narrowed := true }
def RankPlacesUptoSaid : Prop := rankPlacesUptoRow.holds Try.pinned (OpenSpec.upto rankPlacesSpec)

/-- 'sheafworkslaw07.RankSorts', WHERE WHAT IT READS IS OF BULK AT MOST 1048576: true; the input reads as it did. -/
def rankSortsUptoRow : OpenClaim := { program := "ytnkepaenpoadpaa", sum := "5f9f99e5762a9f7a224c3e1a5d300221a30c3994860a86304a10cee85f3d355d", func := "sheafworks/sheafworkslaw07.RankSorts", spec := "rankSorts", unfollowed := true, recurses := true, apart := false, narrowed := true }
def RankSortsUptoSaid : Prop := rankSortsUptoRow.holds Try.pinned (OpenSpec.upto rankSortsSpec)

/-- 'sheafworkslaw07.RankMerges', WHERE WHAT IT READS IS OF BULK AT MOST 1048576: true; the input reads as it did. -/
def rankMergesUptoRow : OpenClaim := { program := "ytnkepaenpoadpaa", sum := "5f9f99e5762a9f7a224c3e1a5d300221a30c3994860a86304a10cee85f3d355d", func := "sheafworks/sheafworkslaw07.RankMerges", spec := "rankMerges", unfollowed := true, recurses := true, apart := false, narrowed := true }
def RankMergesUptoSaid : Prop := rankMergesUptoRow.holds Try.pinned (OpenSpec.upto rankMergesSpec)

/-- 'sheafworkslaw07.RankFirsts', WHERE WHAT IT READS IS OF BULK AT MOST 1048576: true; the input reads as it did. -/
def rankFirstsUptoRow : OpenClaim := { program := "ytnkepaenpoadpaa", sum := "5f9f99e5762a9f7a224c3e1a5d300221a30c3994860a86304a10cee85f3d355d", func := "sheafworks/sheafworkslaw07.RankFirsts", spec := "rankFirsts", unfollowed := true, recurses := true, apart := false, narrowed := true }
def RankFirstsUptoSaid : Prop := rankFirstsUptoRow.holds Try.pinned (OpenSpec.upto rankFirstsSpec)

/-- 'sheafworkslaw07.RankBack', WHERE WHAT IT READS IS OF BULK AT MOST 1048576: true; the input reads as it did. -/
def rankBackUptoRow : OpenClaim := { program := "ytnkepaenpoadpaa", sum := "5f9f99e5762a9f7a224c3e1a5d300221a30c3994860a86304a10cee85f3d355d", func := "sheafworks/sheafworkslaw07.RankBack", spec := "rankBack", unfollowed := true, recurses := true, apart := false, narrowed := true }
def RankBackUptoSaid : Prop := rankBackUptoRow.holds Try.pinned (OpenSpec.upto rankBackSpec)

/-- 'sheafworkslaw07.RankStable', WHERE WHAT IT READS IS OF BULK AT MOST 1048576: true; the input reads as it did. -/
def rankStableUptoRow : OpenClaim := { program := "ytnkepaenpoadpaa", sum := "5f9f99e5762a9f7a224c3e1a5d300221a30c3994860a86304a10cee85f3d355d", func := "sheafworks/sheafworkslaw07.RankStable", spec := "rankStable", unfollowed := true, recurses := true, apart := false, narrowed := true }
def RankStableUptoSaid : Prop := rankStableUptoRow.holds Try.pinned (OpenSpec.upto rankStableSpec)

/-- 'sheafworkslaw07.RankSplits', WHERE WHAT IT READS IS OF BULK AT MOST 1048576: true; the input reads as it did. -/
def rankSplitsUptoRow : OpenClaim := { program := "ytnkepaenpoadpaa", sum := "5f9f99e5762a9f7a224c3e1a5d300221a30c3994860a86304a10cee85f3d355d", func := "sheafworks/sheafworkslaw07.RankSplits", spec := "rankSplits", unfollowed := true, recurses := true, apart := false, narrowed := true }
def RankSplitsUptoSaid : Prop := rankSplitsUptoRow.holds Try.pinned (OpenSpec.upto rankSplitsSpec)

/-- 'sheafworkslaw07.RankMerged', WHERE WHAT IT READS IS OF BULK AT MOST 1048576: true; the input reads as it did. -/
def rankMergedUptoRow : OpenClaim := { program := "ytnkepaenpoadpaa", sum := "5f9f99e5762a9f7a224c3e1a5d300221a30c3994860a86304a10cee85f3d355d", func := "sheafworks/sheafworkslaw07.RankMerged", spec := "rankMerged", unfollowed := true, recurses := true, apart := false, narrowed := true }
def RankMergedUptoSaid : Prop := rankMergedUptoRow.holds Try.pinned (OpenSpec.upto rankMergedSpec)

/-- 'sheafworkslaw07.RankRanks', WHERE WHAT IT READS IS OF BULK AT MOST 1048576: true; the input reads as it did. -/
def rankRanksUptoRow : OpenClaim := { program := "ytnkepaenpoadpaa", sum := "5f9f99e5762a9f7a224c3e1a5d300221a30c3994860a86304a10cee85f3d355d", func := "sheafworks/sheafworkslaw07.RankRanks", spec := "rankRanks", unfollowed := true, recurses := true, apart := false, narrowed := true }
def RankRanksUptoSaid : Prop := rankRanksUptoRow.holds Try.pinned (OpenSpec.upto rankRanksSpec)

/-- 'sheafworkslaw07.RankKnown', WHERE WHAT IT READS IS OF BULK AT MOST 1048576: true; the input reads as it did. -/
def rankKnownUptoRow : OpenClaim := { program := "ytnkepaenpoadpaa", sum := "5f9f99e5762a9f7a224c3e1a5d300221a30c3994860a86304a10cee85f3d355d", func := "sheafworks/sheafworkslaw07.RankKnown", spec := "rankKnown", unfollowed := true, recurses := true, apart := false, narrowed := true }
def RankKnownUptoSaid : Prop := rankKnownUptoRow.holds Try.pinned (OpenSpec.upto rankKnownSpec)

end Rows
end Go.Proofs.Ytnkepaenpoadpaa
