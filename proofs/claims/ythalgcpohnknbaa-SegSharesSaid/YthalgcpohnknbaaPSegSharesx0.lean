-- Text of this session's own program (wip/tools: mkprint.py, pr.py) over hand-proved contracts. Not trusted: Lean checks it.
import Derived.Test.YthalgcpohnknbaaProg
import Derived.Below
import Derived.Deep.Draws
import Derived.Deep.AppendLies
import Derived.Maps.AppendAt
import Derived.OwnWalk
import Derived.Laws.BytesArg
import Derived.Laws.MakeOwn
import Derived.Laws.OwnMore
import Derived.Deep.OwnRows
import Derived.Tactics
import Derived.Lib.ConvBytes
import Derived.Laws.Slices
import Derived.WalkKit
import Derived.KernelRfl
import Derived.RowKit3
import Derived.Deep.LoopGhost
import Derived.Deep.QuietTactic
import Derived.BigQuiet
import Derived.WideLaws
import Derived.Deep.DeepCutAuto
import Derived.Deep.CutBlock
import Derived.Deep.RegionHeld3
import Derived.Laws.Rows
import Derived.Lib.AppendStr
import Derived.ArgAppend
import Derived.Laws.IdiomCopy
import Derived.OrdersHeld
import Derived.Laws.BitsLemmas
import Derived.RowKit
import Derived.Test.YthalgcpohnknbaaVspan
import Derived.Test.YthalgcpohnknbaaWWords
import Derived.Test.YthalgcpohnknbaaWLast
import Derived.Test.YthalgcpohnknbaaWTab
import Derived.Test.YthalgcpohnknbaaWFour
import Derived.Test.YthalgcpohnknbaaWQPut
import Derived.Test.YthalgcpohnknbaaWApart
import Derived.Test.YthalgcpohnknbaaWArr
import Derived.Test.YthalgcpohnknbaaWZeros
import Derived.Test.YthalgcpohnknbaaWFoot
import Derived.Test.YthalgcpohnknbaaWKept
import Derived.Test.YthalgcpohnknbaaWShare
import Derived.Test.YthalgcpohnknbaaWN
import Derived.Test.YthalgcpohnknbaaWFootNe
import Derived.Test.YthalgcpohnknbaaWAt
import Derived.Test.YthalgcpohnknbaaWEqStruct
import Derived.Test.YthalgcpohnknbaaWRepsOne
import Derived.Test.YthalgcpohnknbaaWInv
import Derived.Test.YthalgcpohnknbaaWInvWords
import Derived.Test.YthalgcpohnknbaaWGuard
import Derived.Test.YthalgcpohnknbaaWNEv
import Derived.Test.YthalgcpohnknbaaWMore
namespace Go.Proofs.Ythalgcpohnknbaa.PSegShares
open Go.Proofs.Ythalgcpohnknbaa.Hand (S52 z52 k52 k52_open k52_openM k52_mk k52_mkM rd_T52 at_T52)
open Go.RowKit Go.Proofs.YthalgcpohnknbaaW.PrintWords Go.Proofs.YthalgcpohnknbaaW.PrintLast Go.Proofs.YthalgcpohnknbaaW.PrintMore
attribute [local go_sem] max2_int min2_int max_two min_two max_three min_three max_four min_four   -- for this text's walks alone
set_option linter.unusedVariables false
set_option linter.unusedSimpArgs false



def errW : Option Int → Value
  | none => .nilIface
  | some c => .iface 0 (.int .i64 c)
theorem errW_none : errW none = .nilIface := rfl
theorem errW_some (c : Int) : errW (some c) = .iface 0 (.int .i64 c) := rfl

theorem info3 : (Try.prog.info? 3).map (fun i => (i.zero, i.size, i.bytes)) = some (some (.int .i64 0), 1, 8) := by kernel_rfl
theorem info52 : (Try.prog.info? 52).map (fun i => (i.zero, i.size, i.bytes)) = some (some (.agg #[(.int .i64 0), (.int .i64 0)]), 2, 16) := by kernel_rfl
-- the values' own types


end Go.Proofs.Ythalgcpohnknbaa.PSegShares
