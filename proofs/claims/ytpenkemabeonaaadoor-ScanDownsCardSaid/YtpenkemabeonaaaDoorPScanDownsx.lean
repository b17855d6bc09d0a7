-- Text of this session's own program (wip/tools: mkprint.py, pr.py) over hand-proved contracts. Not trusted: Lean checks it.
import Derived.Test.YtpenkemabeonaaaDoorPScanDownsx0
import Derived.Test.YtpenkemabeonaaaDoorPScanDownsx1
import Derived.Test.YtpenkemabeonaaaDoorPScanDownsx2
import Derived.Test.YtpenkemabeonaaaDoorPScanDownsx3
namespace Go.Proofs.YtpenkemabeonaaaDoor.PScanDowns
open Go.RowKit Go.Proofs.YtpenkemabeonaaaDoorW.PrintWords Go.Proofs.YtpenkemabeonaaaDoorW.PrintLast Go.Proofs.YtpenkemabeonaaaDoorW.PrintMore
attribute [local go_sem] max2_int min2_int max_two min_two max_three min_three max_four min_four   -- for this text's walks alone
set_option linter.unusedVariables false
set_option linter.unusedSimpArgs false

end Go.Proofs.YtpenkemabeonaaaDoor.PScanDowns
