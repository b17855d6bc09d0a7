-- Text of this session's own program (wip/tools: mkprint.py, pr.py) over hand-proved contracts. Not trusted: Lean checks it.
import Derived.Test.YthalgcpohnknbaaPSegSharesx0
import Derived.Test.YthalgcpohnknbaaPSegSharesx1
import Derived.Test.YthalgcpohnknbaaPSegSharesx2
import Derived.Test.YthalgcpohnknbaaPSegSharesx3
import Derived.Test.YthalgcpohnknbaaPSegSharesx4
import Derived.Test.YthalgcpohnknbaaPSegSharesx5
import Derived.Test.YthalgcpohnknbaaPSegSharesx6
namespace Go.Proofs.Ythalgcpohnknbaa.PSegShares
open Go.Proofs.Ythalgcpohnknbaa.Hand (S52 z52 k52 k52_open k52_openM k52_mk k52_mkM rd_T52 at_T52)
open Go.RowKit Go.Proofs.YthalgcpohnknbaaW.PrintWords Go.Proofs.YthalgcpohnknbaaW.PrintLast Go.Proofs.YthalgcpohnknbaaW.PrintMore
attribute [local go_sem] max2_int min2_int max_two min_two max_three min_three max_four min_four   -- for this text's walks alone
set_option linter.unusedVariables false
set_option linter.unusedSimpArgs false

end Go.Proofs.Ythalgcpohnknbaa.PSegShares
