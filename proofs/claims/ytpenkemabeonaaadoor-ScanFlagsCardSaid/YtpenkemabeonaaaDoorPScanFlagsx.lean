-- Text of this session's own program (wip/tools: mkprint.py, pr.py) over hand-proved contracts. Not trusted: Lean checks it.
import Derived.Test.YtpenkemabeonaaaDoorPScanFlagsx0
import Derived.Test.YtpenkemabeonaaaDoorPScanFlagsx1
import Derived.Test.YtpenkemabeonaaaDoorPScanFlagsx2
import Derived.Test.YtpenkemabeonaaaDoorPScanFlagsx3
namespace Go.Proofs.YtpenkemabeonaaaDoor.PScanFlags
open Go.Proofs.YtpenkemabeonaaaDoor.Hand (S41 z41 k41 k41_open k41_openM k41_mk k41_mkM rd_T41 at_T41)
open Go.RowKit Go.Proofs.YtpenkemabeonaaaDoorW.PrintWords Go.Proofs.YtpenkemabeonaaaDoorW.PrintLast Go.Proofs.YtpenkemabeonaaaDoorW.PrintMore
attribute [local go_sem] max2_int min2_int max_two min_two max_three min_three max_four min_four   -- for this text's walks alone
set_option linter.unusedVariables false
set_option linter.unusedSimpArgs false

end Go.Proofs.YtpenkemabeonaaaDoor.PScanFlags
