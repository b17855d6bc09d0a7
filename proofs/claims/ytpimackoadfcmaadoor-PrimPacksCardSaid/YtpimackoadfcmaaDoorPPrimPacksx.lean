-- Text of this session's own program (wip/tools: mkprint.py, pr.py) over hand-proved contracts. Not trusted: Lean checks it.
import Derived.Test.YtpimackoadfcmaaDoorPPrimPacksx0
import Derived.Test.YtpimackoadfcmaaDoorPPrimPacksx1
import Derived.Test.YtpimackoadfcmaaDoorPPrimPacksx2
import Derived.Test.YtpimackoadfcmaaDoorPPrimPacksx3
namespace Go.Proofs.YtpimackoadfcmaaDoor.PPrimPacks
open Go.RowKit Go.Proofs.YtpimackoadfcmaaDoorW.PrintWords Go.Proofs.YtpimackoadfcmaaDoorW.PrintLast Go.Proofs.YtpimackoadfcmaaDoorW.PrintMore
attribute [local go_sem] max2_int min2_int max_two min_two max_three min_three max_four min_four   -- for this text's walks alone
set_option linter.unusedVariables false
set_option linter.unusedSimpArgs false

end Go.Proofs.YtpimackoadfcmaaDoor.PPrimPacks
