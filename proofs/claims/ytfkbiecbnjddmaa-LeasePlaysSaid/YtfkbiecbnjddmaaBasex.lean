/- Written by a program of the session (pg.py) out of the translation, over contracts that were proved by hand. -/
import Derived.Test.YtfkbiecbnjddmaaBasex0
import Derived.Test.YtfkbiecbnjddmaaBasex1
import Derived.Test.YtfkbiecbnjddmaaBasex2
import Derived.Test.YtfkbiecbnjddmaaBasex3
namespace Go.Proofs.Ytfkbiecbnjddmaa
open Go.RowKit Go.Proofs.YtfkbiecbnjddmaaW.PrintWords Go.Proofs.YtfkbiecbnjddmaaW.PrintLast Go.Proofs.YtfkbiecbnjddmaaW.PrintMore
attribute [local go_sem] max2_int min2_int max_two min_two max_three min_three max_four min_four   -- for this text's walks alone
set_option linter.unusedVariables false
set_option linter.unusedSimpArgs false

end Go.Proofs.Ytfkbiecbnjddmaa
