-- Written by this claim's own program (xprint.py). Not trusted: Lean checks it.
import Derived.Test.YtpanmmpkdbhofaaDoorX02x0
import Derived.Test.YtpanmmpkdbhofaaDoorX02x1
import Derived.Test.YtpanmmpkdbhofaaDoorX02x2
import Derived.Test.YtpanmmpkdbhofaaDoorX02x3
import Derived.Test.YtpanmmpkdbhofaaDoorX02x4
import Derived.Test.YtpanmmpkdbhofaaDoorX02x5
import Derived.Test.YtpanmmpkdbhofaaDoorX02x6
import Derived.Test.YtpanmmpkdbhofaaDoorX02x7
import Derived.Test.YtpanmmpkdbhofaaDoorX02x8
namespace Go.Proofs.YtpanmmpkdbhofaaDoor.P02
open Go.RowKit Go.Proofs.YtpanmmpkdbhofaaDoorE Go.Proofs.YtpanmmpkdbhofaaDoorW.PrintWords Go.Proofs.YtpanmmpkdbhofaaDoorW.PrintLast Go.Proofs.YtpanmmpkdbhofaaDoorW.PrintMore
attribute [local go_sem] max2_int min2_int max_two min_two max_three min_three max_four min_four   -- for this text's walks alone
set_option linter.unusedVariables false
set_option linter.unusedSimpArgs false

end Go.Proofs.YtpanmmpkdbhofaaDoor.P02
