-- Words printed by the kit's print.sh; this session struck those that none of its texts uses.
import Derived.Test.YteojldbfebnccaaWInv
import Derived.Test.YteojldbfebnccaaWFootNe
namespace Go.Proofs.YteojldbfebnccaaW.PrintWords
open Go.RowKit
end Go.Proofs.YteojldbfebnccaaW.PrintWords
namespace Go.Proofs.YteojldbfebnccaaW.PrintLast
section
variable {ops : Array Oper} {a : Act} {o og : Oper} {g : Nat} {t : Tmp} {u : Bool}
end
end Go.Proofs.YteojldbfebnccaaW.PrintLast
