-- Text of this session's own program (wip/tools: mkprint.py, pr.py) over hand-proved contracts. Not trusted: Lean checks it.
import Derived.Test.YtpimackoadfcmaaDoorProg
import Derived.Below
import Derived.Deep.Draws
import Derived.Deep.AppendLies
import Derived.Maps.AppendAt
import Derived.OwnWalk
import Derived.Laws.BytesArg
import Derived.Laws.MakeOwn
import Derived.Laws.OwnMore
import Derived.Deep.OwnRows
import Derived.Tactics
import Derived.Lib.ConvBytes
import Derived.Laws.Slices
import Derived.WalkKit
import Derived.KernelRfl
import Derived.RowKit3
import Derived.Deep.LoopGhost
import Derived.Deep.QuietTactic
import Derived.BigQuiet
import Derived.WideLaws
import Derived.Deep.DeepCutAuto
import Derived.Deep.CutBlock
import Derived.Deep.RegionHeld3
import Derived.Laws.Rows
import Derived.Lib.AppendStr
import Derived.ArgAppend
import Derived.Laws.IdiomCopy
import Derived.OrdersHeld
import Derived.Laws.BitsLemmas
import Derived.RowKit
import Derived.Test.YtpimackoadfcmaaDoorHcalls
import Derived.Test.YtpimackoadfcmaaDoorWWords
import Derived.Test.YtpimackoadfcmaaDoorWLast
import Derived.Test.YtpimackoadfcmaaDoorWTab
import Derived.Test.YtpimackoadfcmaaDoorWFour
import Derived.Test.YtpimackoadfcmaaDoorWQPut
import Derived.Test.YtpimackoadfcmaaDoorWApart
import Derived.Test.YtpimackoadfcmaaDoorWArr
import Derived.Test.YtpimackoadfcmaaDoorWZeros
import Derived.Test.YtpimackoadfcmaaDoorWFoot
import Derived.Test.YtpimackoadfcmaaDoorWKept
import Derived.Test.YtpimackoadfcmaaDoorWShare
import Derived.Test.YtpimackoadfcmaaDoorWN
import Derived.Test.YtpimackoadfcmaaDoorWFootNe
import Derived.Test.YtpimackoadfcmaaDoorWAt
import Derived.Test.YtpimackoadfcmaaDoorWEqStruct
import Derived.Test.YtpimackoadfcmaaDoorWRepsOne
import Derived.Test.YtpimackoadfcmaaDoorWInv
import Derived.Test.YtpimackoadfcmaaDoorWInvWords
import Derived.Test.YtpimackoadfcmaaDoorWGuard
import Derived.Test.YtpimackoadfcmaaDoorWNEv
import Derived.Test.YtpimackoadfcmaaDoorWMore
namespace Go.Proofs.YtpimackoadfcmaaDoor.PPrimAlike
open Go.RowKit Go.Proofs.YtpimackoadfcmaaDoorW.PrintWords Go.Proofs.YtpimackoadfcmaaDoorW.PrintLast Go.Proofs.YtpimackoadfcmaaDoorW.PrintMore
attribute [local go_sem] max2_int min2_int max_two min_two max_three min_three max_four min_four   -- for this text's walks alone
set_option linter.unusedVariables false
set_option linter.unusedSimpArgs false



def errW : Option Int → Value
  | none => .nilIface
  | some c => .iface 0 (.int .i64 c)
theorem errW_none : errW none = .nilIface := rfl
theorem errW_some (c : Int) : errW (some c) = .iface 0 (.int .i64 c) := rfl

theorem info3 : (Tryd.prog.info? 3).map (fun i => (i.zero, i.size, i.bytes)) = some (some (.int .i64 0), 1, 8) := by kernel_rfl
-- the values' own types

end Go.Proofs.YtpimackoadfcmaaDoor.PPrimAlike
