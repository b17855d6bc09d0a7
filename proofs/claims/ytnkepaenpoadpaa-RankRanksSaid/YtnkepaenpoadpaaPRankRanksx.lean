-- Text of this session's own program (wip/tools: mkprint.py, pr.py) over hand-proved contracts. Not trusted: Lean checks it.
import Derived.Test.YtnkepaenpoadpaaPRankRanksx0
import Derived.Test.YtnkepaenpoadpaaPRankRanksx1
import Derived.Test.YtnkepaenpoadpaaPRankRanksx2
import Derived.Test.YtnkepaenpoadpaaPRankRanksx3
import Derived.Test.YtnkepaenpoadpaaPRankRanksx4
namespace Go.Proofs.Ytnkepaenpoadpaa.PRankRanks
open Go.RowKit Go.Proofs.YtnkepaenpoadpaaW.PrintWords Go.Proofs.YtnkepaenpoadpaaW.PrintLast Go.Proofs.YtnkepaenpoadpaaW.PrintMore
attribute [local go_sem] max2_int min2_int max_two min_two max_three min_three max_four min_four   -- for this text's walks alone
set_option linter.unusedVariables false
set_option linter.unusedSimpArgs false

end Go.Proofs.Ytnkepaenpoadpaa.PRankRanks
