/- A rotation of two neighbouring ranges; the comparison of two moves. -/
import Derived.Test.YteojldbfebnccaaRSwr
namespace Go.Proofs.Yteojldbfebnccaa
open Go.RowKit Go.Proofs.YteojldbfebnccaaW Go.Proofs.YteojldbfebnccaaW.PrintWords
set_option linter.unusedVariables false
set_option linter.unusedSimpArgs false
set_option maxRecDepth 100000
variable {SZ : Nat}
set_option maxHeartbeats 4000000 in
theorem rot_calls {W : World} {B n cap : Nat} {g : Nat → S49} (h : MRow SZ W B n g) (hn : n ≤ 100000) {a m b : Nat} (h1 : a < m) (h2 : m < b) (h3 : b ≤ n) (fv : Value) :
    Calls Try.prog 62 #[.slice (some ⟨B, 0, none⟩) n cap, .int .i64 a, .int .i64 m, .int .i64 b, fv] W fun e w' => (∃ v, e = .returned v) ∧ MRow SZ w' B n (rotF g a m b) ∧ W.grownBy w' (some B) := by
  have HM := Lib.hid h
  clear h
  obtain ⟨i0, hi0⟩ : ∃ i0, m - a = i0 := ⟨_, rfl⟩
  obtain ⟨j0, hj0⟩ : ∃ j0, b - m = j0 := ⟨_, rfl⟩
  have HR0 := Lib.hid (show rotF g (m - i0) m (m + j0) = rotF g a m b by rw [show m - i0 = a by omega, show m + j0 = b by omega])
  have e0 : IntKind.i64.wrap ((m : Int) - (a : Int)) = (i0 : Int) := by rw [IntWalk.i64_in _ (by omega)]; omega
  have e1 : IntKind.i64.wrap ((b : Int) - (m : Int)) = (j0 : Int) := by rw [IntWalk.i64_in _ (by omega)]; omega
  have e0' : (m : Int) - (a : Int) = (i0 : Int) := by omega
  have e1' : (b : Int) - (m : Int) = (j0 : Int) := by omega
  have HIJ := Lib.hid (show 1 ≤ i0 ∧ 1 ≤ j0 ∧ i0 ≤ m ∧ m + j0 ≤ n by omega)
  have hm : (m : Int) ≤ 100000 := by omega
  have ha : (a : Int) ≤ 100000 := by omega
  have hb : (b : Int) ≤ 100000 := by omega
  clear hi0 hj0
  go_enter Try.func62, Try.ntmps62
  go_wp2_with fail
  clear e0 e1 e0' e1'
  go_loopg [10, 11] (i0 + j0) (fun kq v10 v11 wr => ∃ (i j : Nat) (h : Nat → S49), kq = i + j ∧ v10 = .int .i64 i ∧ v11 = .int .i64 j ∧ Hid (1 ≤ i ∧ 1 ≤ j ∧ i ≤ m ∧ m + j ≤ n) ∧ Hid (MRow SZ wr B n h) ∧ Hid (rotF h (m - i) m (m + j) = rotF g a m b) ∧ Hid (W.grownBy wr (some B)))
  case atStart => exact ⟨i0, j0, g, rfl, rfl, rfl, HIJ, HM, HR0, Lib.hid (grownR _ _)⟩
  case round =>
    clear HM HR0 HIJ
    obtain ⟨i, j, h, hkq, rfl, rfl, HIJ, HM, HR, HG⟩ := hrel
    obtain ⟨hi1, hj1, him, hjn⟩ := HIJ.out
    obtain ⟨q, hq⟩ : ∃ q, m - i = q := ⟨_, rfl⟩
    have HQ := Lib.hid hq
    have s0 : IntKind.i64.wrap ((m : Int) - (i : Int)) = (q : Int) := by rw [IntWalk.i64_in _ (by omega)]; omega
    have s1 : (m : Int) - (i : Int) = (q : Int) := by omega
    have s2 : (i : Int) ≤ 100000 := by omega
    have s3 : (j : Int) ≤ 100000 := by omega
    clear hq
    rcases Nat.lt_trichotomy i j with hc | hc | hc
    · have b0 : ((i : Int) != (j : Int)) = true := bne_iff_ne.2 (by omega)
      have b1 : decide ((j : Int) < (i : Int)) = false := decide_eq_false (by omega)
      have b2 : (i != j) = true := bne_iff_ne.2 (by omega)
      have b3 : decide (j < i) = false := decide_eq_false (by omega)
      obtain ⟨r, hr⟩ : ∃ r, m + j - i = r := ⟨_, rfl⟩
      obtain ⟨t, ht⟩ : ∃ t, j - i = t := ⟨_, rfl⟩
      have s4 : IntKind.i64.wrap (IntKind.i64.wrap ((m : Int) + (j : Int)) - (i : Int)) = (r : Int) := by rw [show IntKind.i64.wrap ((m : Int) + (j : Int)) = (m : Int) + (j : Int) from IntWalk.i64_in _ (by omega), IntWalk.i64_in _ (by omega)]; omega
      have s5 : (m : Int) + (j : Int) - (i : Int) = (r : Int) := by omega
      have s6 : (j : Int) - (i : Int) = (t : Int) := by omega
      have HRR := Lib.hid hr
      have HTT := Lib.hid ht
      clear hr ht
      go_wp2_with fail
      refine (swr_calls HM.out hn (a := q) (b := r) (k := i) (by have := HQ.out; have := HRR.out; omega) (by have := HRR.out; omega) fv).mono ?_
      rintro e w2 ⟨⟨v, rfl⟩, hm2, hg2⟩
      have HM2 := Lib.hid hm2
      have HG2 := Lib.hid (grownT HG.out hg2)
      have HR2 := Lib.hid (show rotF (swr h q r i) (m - i) m (m + t) = rotF g a m b by
        rw [← HQ.out, ← HRR.out, ← HTT.out, rot_step2 h hc him]; exact HR.out)
      clear hm2 hg2
      go_wp2_with fail
      go_roundg (i + t)
      case measure => have := HTT.out; omega
      case rel => exact ⟨i, t, _, rfl, rfl, rfl, Lib.hid (by have := HTT.out; omega), HM2, HR2, HG2⟩
    · subst hc
      have b0 : ((i : Int) != (i : Int)) = false := bne_self_eq_false _
      go_wp2_with fail
      refine (swr_calls HM.out hn (a := q) (b := m) (k := i) (by have := HQ.out; omega) (by omega) fv).mono ?_
      rintro e w2 ⟨⟨v, rfl⟩, hm2, hg2⟩
      have HM2 := Lib.hid hm2
      have HG2 := Lib.hid (grownT HG.out hg2)
      clear hm2 hg2
      go_wp2_with fail
      go_end0
      refine ⟨⟨_, rfl⟩, ?_, HG2.out⟩
      have := HM2.out
      rw [← HQ.out, rot_last h him, HR.out] at this
      exact this
    · have b0 : ((i : Int) != (j : Int)) = true := bne_iff_ne.2 (by omega)
      have b1 : decide ((j : Int) < (i : Int)) = true := decide_eq_true (by omega)
      have b2 : (i != j) = true := bne_iff_ne.2 (by omega)
      have b3 : decide (j < i) = true := decide_eq_true (by omega)
      obtain ⟨t, ht⟩ : ∃ t, i - j = t := ⟨_, rfl⟩
      have s6 : (i : Int) - (j : Int) = (t : Int) := by omega
      have HTT := Lib.hid ht
      clear ht
      go_wp2_with fail
      refine (swr_calls HM.out hn (a := q) (b := m) (k := j) (by have := HQ.out; omega) (by omega) fv).mono ?_
      rintro e w2 ⟨⟨v, rfl⟩, hm2, hg2⟩
      have HM2 := Lib.hid hm2
      have HG2 := Lib.hid (grownT HG.out hg2)
      have HR2 := Lib.hid (show rotF (swr h q m j) (m - t) m (m + j) = rotF g a m b by
        rw [← HQ.out, ← HTT.out, rot_step1 h hc him]; exact HR.out)
      clear hm2 hg2
      go_wp2_with fail
      go_roundg (t + j)
      case measure => have := HTT.out; omega
      case rel => exact ⟨t, j, _, rfl, rfl, rfl, Lib.hid (by have := HTT.out; omega), HM2, HR2, HG2⟩
end Go.Proofs.Yteojldbfebnccaa
