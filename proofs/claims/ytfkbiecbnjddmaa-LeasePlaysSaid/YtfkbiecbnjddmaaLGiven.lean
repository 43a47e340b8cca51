/- works() in the printed form. -/
import Derived.Test.YtfkbiecbnjddmaaLWorks
namespace Go.Proofs.Ytfkbiecbnjddmaa
open Go.RowKit Go.Proofs.YtfkbiecbnjddmaaW.PrintWords
def foyerlaw26_works.f : Option Bool := some true
theorem foyerlaw26_works.calls (r : Bool) (w : World) (h : foyerlaw26_works.f = some r) : Calls Try.prog 15 #[] w fun e w' => e = .returned (.bool r) ∧ Below w.heap.size w w' := by
  obtain rfl : true = r := by simpa [foyerlaw26_works.f] using h
  exact works_calls
end Go.Proofs.Ytfkbiecbnjddmaa
