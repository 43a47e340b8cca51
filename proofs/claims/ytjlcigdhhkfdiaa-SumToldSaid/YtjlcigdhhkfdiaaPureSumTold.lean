/- The plain statement behind SumTold: of any text, doubled, and any number, the program's sums are the reference's. -/
import Derived.Test.YtjlcigdhhkfdiaaPSumToldx1
import Derived.Test.YtjlcigdhhkfdiaaSumRefs
namespace Go.Proofs.Ytjlcigdhhkfdiaa.Pure
open Go.RowKit Go.Proofs.Ytjlcigdhhkfdiaa.PSumTold Go.Proofs.YtjlcigdhhkfdiaaW.PrintWords Go.Proofs.YtjlcigdhhkfdiaaW.PrintLast

theorem u8_bd {a : Int} (h : (Lit.int .u8 a).wf = true) : 0 ≤ a ∧ a ≤ 255 := by simpa [Lit.wf, IntKind.min, IntKind.max, IntKind.signed, IntKind.bits] using h
theorem u32_bd {a : Int} (h : (Lit.int .u32 a).wf = true) : 0 ≤ a ∧ a < 4294967296 := by
  have : 0 ≤ a ∧ a ≤ 4294967295 := by simpa [Lit.wf, IntKind.min, IntKind.max, IntKind.signed, IntKind.bits] using h
  omega

theorem SumTold : foyerlaw03_SumTold.Pure := by
  intro a0 a1 a2 _ h1 h2
  obtain ⟨t, ht, hsz⟩ := long_some a0 a1 (u8_bd h1).1 40000 (by omega)
  have b2 := u32_bd h2
  refine ⟨40000, ?_⟩
  have r1 := refMore_eq 1 (by omega) (by omega) t (by omega) 40000 (by omega)
  have r2 := refMore_eq a2 b2.1 b2.2 t (by omega) 40000 (by omega)
  have m1 : sum_Of.f t = some (moreV 1 t.data.toList) := by rw [sum_Of.f, sum_More.f, if_pos (by omega)]
  have m2 : sum_More.f a2 t = some (moreV a2 t.data.toList) := by rw [sum_More.f, if_pos (by omega)]
  unfold foyerlaw03_SumTold.f foyerref03_Of.f
  rw [ht]
  simp only [Option.bind_some]
  rw [m1, r1]
  simp only [Option.bind_some, if_true]
  rw [m2, r2]
  simp [foyerlaw03_works.f]
end Go.Proofs.Ytjlcigdhhkfdiaa.Pure
