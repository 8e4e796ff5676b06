-- Written by this claim's own program (xprint.py). Not trusted: Lean checks it.
import Derived.Test.YtfpijjjmgggfkaaX01x0
import Derived.Test.YtfpijjjmgggfkaaX01x1
import Derived.Test.YtfpijjjmgggfkaaX01x2
import Derived.Test.YtfpijjjmgggfkaaX01x3
import Derived.Test.YtfpijjjmgggfkaaX01x4
import Derived.Test.YtfpijjjmgggfkaaX01x5
import Derived.Test.YtfpijjjmgggfkaaX01x6
namespace Go.Proofs.Ytfpijjjmgggfkaa.P01
open Go.RowKit Go.Proofs.YtfpijjjmgggfkaaW.PrintWords Go.Proofs.YtfpijjjmgggfkaaW.PrintLast Go.Proofs.YtfpijjjmgggfkaaW.PrintMore
attribute [local go_sem] max2_int min2_int max_two min_two max_three min_three max_four min_four   -- for this text's walks alone
set_option linter.unusedVariables false
set_option linter.unusedSimpArgs false

end Go.Proofs.Ytfpijjjmgggfkaa.P01
