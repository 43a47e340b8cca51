/- Was a seat led to? It is now. -/
import Derived.Test.YteojldbfebnccaaRPlan
namespace Go.Proofs.Yteojldbfebnccaa
open Go.RowKit Go.Proofs.YteojldbfebnccaaW Go.Proofs.YteojldbfebnccaaW.PrintWords
set_option linter.unusedVariables false
set_option linter.unusedSimpArgs false
set_option maxRecDepth 100000
def mark (f : Nat → Bool) (j : Nat) : Nat → Bool := fun k => if k = j then true else f k
theorem pcells_set (va vb vl : Value) (i : Nat) (f : Nat → Bool) (j : Nat) : (pcells va vb vl i f).setIfInBounds (4 + j) (.bool true) = pcells va vb vl i (mark f j) := by
  unfold pcells mark
  rw [Array.setIfInBounds_append_right (by simp)]
  simp [bcells_set]
section
variable {W : World} {p : Nat} {A : Option Addr} {ca : Nat} {ra : List S61} {B : Option Addr} {cb : Nat} {rb : List S61} {L : Option Addr} {cl : Nat} {l : List S49} {i : Nat} {f : Nat → Bool}
set_option maxHeartbeats 2000000 in
theorem once_calls (h : PlanAt W p A ca ra B cb rb L cl l i f) {x : S49} (hx : l[i]? = some x) {j : Nat} (hj : x.f1 = (j : Int)) (hj64 : j < 64) :
    Calls Try.prog 32 #[.pointer (some ⟨p, 0, none⟩)] W fun e w' => e = .returned (.bool (!f j)) ∧ W.grownBy w' (some p) ∧ w'.heap[p]? = some (.cells (pcells (.slice A ra.length ca) (.slice B rb.length cb) (.slice L l.length cl) i (mark f j)) 65 (0, 0)) := by
  obtain ⟨ad, rfl, x0, x1⟩ := h.move hx
  rw [hj] at x1
  have p0 : (0 : Int) ≤ (i : Int) := by omega
  have q0 : (i : Int) < (l.length : Int) := by have := h.lt; omega
  have p1 : (0 : Int) ≤ (j : Int) := by omega
  have q1 : (j : Int) < 64 := by omega
  have hmx := Kd.C_max h.hl
  have c2 := h.c2
  have c3 := h.c3
  have c4 := h.c4 hj64
  have f4 : W.frozen? ⟨p, 4 + j, none⟩ = false := blk_free h.blk (4 + j)
  have HB := Lib.hid h.blk
  clear hx hj h
  go_enter Try.func32, Try.ntmps32
  go_wp2_with fail
  go_quiet (fail)
  go_wp2_with fail
  go_ret
  refine ⟨rfl, grown_trans (b := W.drewN _) ⟨rfl, rfl, rfl, Nat.le_refl _, fun _ _ _ => rfl⟩ (grown_set _ _ _ _), ?_⟩
  rw [← pcells_set]
  exact blk_set (blk_drewN HB.out _) (4 + j) (.bool true)
end
end Go.Proofs.Yteojldbfebnccaa
