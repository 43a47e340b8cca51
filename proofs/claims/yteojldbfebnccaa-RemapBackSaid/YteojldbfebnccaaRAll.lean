/- All functions of remap and hall that were walked by hand. -/
import Derived.Test.YteojldbfebnccaaRBack
import Derived.Test.YteojldbfebnccaaRChk
import Derived.Test.YteojldbfebnccaaRWo
import Derived.Test.YteojldbfebnccaaRIdx
import Derived.Test.YteojldbfebnccaaRHas
