-- Text of this session's own program (wip/tools: mkprint.py, pr.py) over hand-proved contracts. Not trusted: Lean checks it.
import Derived.Test.YthalgcpohnknbaaPSegPiecesx0
import Derived.Test.YthalgcpohnknbaaPSegPiecesx1
import Derived.Test.YthalgcpohnknbaaPSegPiecesx2
namespace Go.Proofs.Ythalgcpohnknbaa.PSegPieces
open Go.RowKit Go.Proofs.YthalgcpohnknbaaW.PrintWords Go.Proofs.YthalgcpohnknbaaW.PrintLast Go.Proofs.YthalgcpohnknbaaW.PrintMore
attribute [local go_sem] max2_int min2_int max_two min_two max_three min_three max_four min_four   -- for this text's walks alone
set_option linter.unusedVariables false
set_option linter.unusedSimpArgs false

end Go.Proofs.Ythalgcpohnknbaa.PSegPieces
