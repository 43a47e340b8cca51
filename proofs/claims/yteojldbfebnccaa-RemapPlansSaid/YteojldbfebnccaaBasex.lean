/- Written by a program of the session (pg.py) out of the translation, over contracts that were proved by hand. -/
import Derived.Test.YteojldbfebnccaaBasex0
import Derived.Test.YteojldbfebnccaaBasex1
import Derived.Test.YteojldbfebnccaaBasex2
import Derived.Test.YteojldbfebnccaaBasex3
import Derived.Test.YteojldbfebnccaaBasex4
import Derived.Test.YteojldbfebnccaaBasex5
import Derived.Test.YteojldbfebnccaaBasex6
import Derived.Test.YteojldbfebnccaaBasex7
namespace Go.Proofs.Yteojldbfebnccaa
open Go.RowKit Go.Proofs.YteojldbfebnccaaW.PrintWords Go.Proofs.YteojldbfebnccaaW.PrintLast Go.Proofs.YteojldbfebnccaaW.PrintMore
attribute [local go_sem] max2_int min2_int max_two min_two max_three min_three max_four min_four   -- for this text's walks alone
set_option linter.unusedVariables false
set_option linter.unusedSimpArgs false

end Go.Proofs.Yteojldbfebnccaa
