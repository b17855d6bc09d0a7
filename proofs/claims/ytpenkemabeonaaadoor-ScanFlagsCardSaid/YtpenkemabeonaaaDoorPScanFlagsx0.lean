-- Text of this session's own program (wip/tools: mkprint.py, pr.py) over hand-proved contracts. Not trusted: Lean checks it.
import Derived.Test.YtpenkemabeonaaaDoorProg
import Derived.Below
import Derived.Deep.Draws
import Derived.Deep.AppendLies
import Derived.Maps.AppendAt
import Derived.OwnWalk
import Derived.Laws.BytesArg
import Derived.Laws.MakeOwn
import Derived.Laws.OwnMore
import Derived.Deep.OwnRows
import Derived.Tactics
import Derived.Lib.ConvBytes
import Derived.Laws.Slices
import Derived.WalkKit
import Derived.KernelRfl
import Derived.RowKit3
import Derived.Deep.LoopGhost
import Derived.Deep.QuietTactic
import Derived.BigQuiet
import Derived.WideLaws
import Derived.Deep.DeepCutAuto
import Derived.Deep.CutBlock
import Derived.Deep.RegionHeld3
import Derived.Laws.Rows
import Derived.Lib.AppendStr
import Derived.ArgAppend
import Derived.Laws.IdiomCopy
import Derived.OrdersHeld
import Derived.Laws.BitsLemmas
import Derived.RowKit
import Derived.Test.YtpenkemabeonaaaDoorSflag
import Derived.Test.YtpenkemabeonaaaDoorWWords
import Derived.Test.YtpenkemabeonaaaDoorWLast
import Derived.Test.YtpenkemabeonaaaDoorWTab
import Derived.Test.YtpenkemabeonaaaDoorWFour
import Derived.Test.YtpenkemabeonaaaDoorWQPut
import Derived.Test.YtpenkemabeonaaaDoorWApart
import Derived.Test.YtpenkemabeonaaaDoorWArr
import Derived.Test.YtpenkemabeonaaaDoorWZeros
import Derived.Test.YtpenkemabeonaaaDoorWFoot
import Derived.Test.YtpenkemabeonaaaDoorWKept
import Derived.Test.YtpenkemabeonaaaDoorWShare
import Derived.Test.YtpenkemabeonaaaDoorWN
import Derived.Test.YtpenkemabeonaaaDoorWFootNe
import Derived.Test.YtpenkemabeonaaaDoorWAt
import Derived.Test.YtpenkemabeonaaaDoorWEqStruct
import Derived.Test.YtpenkemabeonaaaDoorWRepsOne
import Derived.Test.YtpenkemabeonaaaDoorWInv
import Derived.Test.YtpenkemabeonaaaDoorWInvWords
import Derived.Test.YtpenkemabeonaaaDoorWGuard
import Derived.Test.YtpenkemabeonaaaDoorWNEv
import Derived.Test.YtpenkemabeonaaaDoorWMore
namespace Go.Proofs.YtpenkemabeonaaaDoor.PScanFlags
open Go.Proofs.YtpenkemabeonaaaDoor.Hand (S41 z41 k41 k41_open k41_openM k41_mk k41_mkM rd_T41 at_T41)
open Go.RowKit Go.Proofs.YtpenkemabeonaaaDoorW.PrintWords Go.Proofs.YtpenkemabeonaaaDoorW.PrintLast Go.Proofs.YtpenkemabeonaaaDoorW.PrintMore
attribute [local go_sem] max2_int min2_int max_two min_two max_three min_three max_four min_four   -- for this text's walks alone
set_option linter.unusedVariables false
set_option linter.unusedSimpArgs false



def errW : Option Int → Value
  | none => .nilIface
  | some c => .iface 0 (.int .i64 c)
theorem errW_none : errW none = .nilIface := rfl
theorem errW_some (c : Int) : errW (some c) = .iface 0 (.int .i64 c) := rfl

theorem info41 : (Tryd.prog.info? 41).map (fun i => (i.zero, i.size, i.bytes)) = some (some (.agg #[(.bool false), (.int .i64 0)]), 2, 16) := by kernel_rfl
-- the values' own types


end Go.Proofs.YtpenkemabeonaaaDoor.PScanFlags
