-- Text of this session's own program (wip/tools: mkprint.py, pr.py) over hand-proved contracts. Not trusted: Lean checks it.
import Derived.Test.YtnkepaenpoadpaaProg
import Derived.Below
import Derived.Deep.Draws
import Derived.Deep.AppendLies
import Derived.Maps.AppendAt
import Derived.OwnWalk
import Derived.Laws.BytesArg
import Derived.Laws.MakeOwn
import Derived.Laws.OwnMore
import Derived.Deep.OwnRows
import Derived.Tactics
import Derived.Lib.ConvBytes
import Derived.Laws.Slices
import Derived.WalkKit
import Derived.KernelRfl
import Derived.RowKit3
import Derived.Deep.LoopGhost
import Derived.Deep.QuietTactic
import Derived.BigQuiet
import Derived.WideLaws
import Derived.Deep.DeepCutAuto
import Derived.Deep.CutBlock
import Derived.Deep.RegionHeld3
import Derived.Laws.Rows
import Derived.Lib.AppendStr
import Derived.ArgAppend
import Derived.Laws.IdiomCopy
import Derived.OrdersHeld
import Derived.Laws.BitsLemmas
import Derived.RowKit
import Derived.Test.YtnkepaenpoadpaaK5
import Derived.Test.YtnkepaenpoadpaaWWords
import Derived.Test.YtnkepaenpoadpaaWLast
import Derived.Test.YtnkepaenpoadpaaWTab
import Derived.Test.YtnkepaenpoadpaaWFour
import Derived.Test.YtnkepaenpoadpaaWQPut
import Derived.Test.YtnkepaenpoadpaaWApart
import Derived.Test.YtnkepaenpoadpaaWArr
import Derived.Test.YtnkepaenpoadpaaWZeros
import Derived.Test.YtnkepaenpoadpaaWFoot
import Derived.Test.YtnkepaenpoadpaaWKept
import Derived.Test.YtnkepaenpoadpaaWShare
import Derived.Test.YtnkepaenpoadpaaWN
import Derived.Test.YtnkepaenpoadpaaWFootNe
import Derived.Test.YtnkepaenpoadpaaWAt
import Derived.Test.YtnkepaenpoadpaaWEqStruct
import Derived.Test.YtnkepaenpoadpaaWRepsOne
import Derived.Test.YtnkepaenpoadpaaWInv
import Derived.Test.YtnkepaenpoadpaaWInvWords
import Derived.Test.YtnkepaenpoadpaaWGuard
import Derived.Test.YtnkepaenpoadpaaWNEv
import Derived.Test.YtnkepaenpoadpaaWMore
namespace Go.Proofs.Ytnkepaenpoadpaa.PRankRanks
open Go.RowKit Go.Proofs.YtnkepaenpoadpaaW.PrintWords Go.Proofs.YtnkepaenpoadpaaW.PrintLast Go.Proofs.YtnkepaenpoadpaaW.PrintMore
attribute [local go_sem] max2_int min2_int max_two min_two max_three min_three max_four min_four   -- for this text's walks alone
set_option linter.unusedVariables false
set_option linter.unusedSimpArgs false



def errW : Option Int → Value
  | none => .nilIface
  | some c => .iface 0 (.int .i64 c)
theorem errW_none : errW none = .nilIface := rfl
theorem errW_some (c : Int) : errW (some c) = .iface 0 (.int .i64 c) := rfl

theorem info3 : (Try.prog.info? 3).map (fun i => (i.zero, i.size, i.bytes)) = some (some (.int .i64 0), 1, 8) := by kernel_rfl
-- the values' own types

end Go.Proofs.Ytnkepaenpoadpaa.PRankRanks
