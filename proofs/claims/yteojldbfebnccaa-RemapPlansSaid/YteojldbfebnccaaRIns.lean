/- Insertion of moves, stable. (Printed by gen_ins.py.) -/
import Derived.Test.YteojldbfebnccaaRRot
import Derived.Test.YteojldbfebnccaaBasex
import Derived.Deep.QuietTactic
import Derived.BigQuiet
import Derived.Deep.RegionHeld3
namespace Go.Proofs.Yteojldbfebnccaa
open Go.RowKit Go.Proofs.YteojldbfebnccaaW Go.Proofs.YteojldbfebnccaaW.PrintWords
set_option linter.unusedVariables false
set_option linter.unusedSimpArgs false
set_option maxRecDepth 100000
variable {SZ : Nat}
def cmpI (a b : Int) : Int := if a < b then -1 else if a > b then 1 else 0
theorem cmpI_eq (a b : Int) : cmp_Compare_int.f a b = some (cmpI a b) := by
  unfold cmp_Compare_int.f cmp_isNaN_int.f cmpI
  simp
  split
  · rfl
  · split <;> rfl
theorem cmpI_neg (a b : Int) : decide (cmpI a b < 0) = decide (a < b) := by
  unfold cmpI
  split
  · rename_i h; simp [h]
  · rename_i h
    split
    · simp [h]
    · simp [h]
theorem cmp_calls (x y : S49) (W : World) : Calls Try.prog 35 #[.agg #[.int .i64 x.f0, .int .i64 x.f1], .agg #[.int .i64 y.f0, .int .i64 y.f1]] W fun e W' => e = .returned (.int .i64 (cmpI x.f0 y.f0)) ∧ Below W.heap.size W W' := by
  go_enter Try.func35, Try.ntmps35
  go_wp2_with fail
  refine (cmp_Compare_int.calls x.f0 y.f0 _ _ (cmpI_eq _ _)).mono ?_
  rintro e w2 ⟨rfl, hb⟩
  have HB := Lib.hid hb
  clear hb
  go_wp2_with fail
  go_ret
  exact ⟨rfl, below_then (below_alloc (below_alloc (Below.refl _ _) _) _) (by simp; omega) HB.out.below⟩
theorem Up.one (g : Nat → S49) (a : Nat) : Up g a (a + 1) := fun p q x y z => by
  obtain rfl : p = q := by omega
  exact Int.le_refl _
/-- the function value that is handed in -/
abbrev fcmp : Value := .func (.func 35) #[] #[]
set_option maxHeartbeats 8000000 in
theorem ins_calls {W : World} {B n cap : Nat} {g : Nat → S49} (h : MRow SZ W B n g) (hn : n ≤ 100000) {a b : Nat} (h1 : a ≤ b) (h2 : b ≤ n) :
    Calls Try.prog 59 #[.slice (some ⟨B, 0, none⟩) n cap, .int .i64 a, .int .i64 b, fcmp] W fun e w' => (∃ v, e = .returned v) ∧ ∃ g', MRow SZ w' B n g' ∧ Stb g g' a b ∧ Up g' a b ∧ W.grownBy w' (some B) := by
  have HM := Lib.hid h
  clear h
  have ha : (a : Int) ≤ 100000 := by omega
  have hb : (b : Int) ≤ 100000 := by omega
  go_enter Try.func59, Try.ntmps59
  go_wp2_with fail
  go_loopg [8] (b - (a + 1)) (fun kq v8 wr => ∃ (i : Nat) (h : Nat → S49), kq = b - i ∧ v8 = .int .i64 i ∧ a + 1 ≤ i ∧ (i ≤ b ∨ i = a + 1) ∧ Hid (MRow SZ wr B n h) ∧ Hid (Stb g h a b) ∧ Hid (Up h a i) ∧ Hid (W.grownBy wr (some B)))
  case atStart => exact ⟨a + 1, g, rfl, by go_num, Nat.le_refl _, .inr rfl, HM, Lib.hid (Stb.refl _ _ _), Lib.hid (Up.one g a), Lib.hid (grownR _ _)⟩
  case round =>
    clear HM
    obtain ⟨i, h, hkq, rfl, hi1, hi2, HM, HS, HU, HG⟩ := hrel
    by_cases hlt : i < b
    · have d0 : decide ((i : Int) < (b : Int)) = true := decide_eq_true (by omega)
      have HI := Lib.hid (InsAt.start HU.out)
      clear HU
      go_wp2_with fail
      obtain ⟨wo, hwo⟩ : ∃ wo : World, wo = wr := ⟨_, rfl⟩
      clear hwo
      go_loopg [9] i (fun kq v9 wx => ∃ (j : Nat) (h : Nat → S49), kq = j ∧ v9 = .int .i64 j ∧ a ≤ j ∧ j ≤ i ∧ Hid (MRow SZ wx B n h) ∧ Hid (Stb g h a b) ∧ Hid (InsAt h a i j) ∧ Hid (W.grownBy wx (some B)))
      case atStart => exact ⟨i, h, rfl, rfl, by omega, Nat.le_refl _, HM, HS, HI, HG⟩
      case round =>
        clear HM HS HI HG
        obtain ⟨j, h, hkq2, rfl, hj1, hj2, HM, HS, HI, HG⟩ := hrel
        by_cases hja : j = a
        · have g0 : decide ((a : Int) < (j : Int)) = false := decide_eq_false (by omega)
          have g1 : decide (a < j) = false := decide_eq_false (by omega)
          have HUP := Lib.hid (HI.out.stop hj1 hj2 (.inl hja))
          clear hja
          go_wp2_with fail
          go_quiet (fail)
          generalize hw4 : World.drewN _ _ = w4
          have HM4 := Lib.hid (show MRow SZ w4 B n h from HM.out.block (by rw [← hw4]; rfl))
          have HG4 := Lib.hid (show W.grownBy w4 (some B) by rw [← hw4]; exact grownT HG.out (grownB (pw_below_drewN (Below.refl _ _) _) _))
          clear hw4
          go_wp2_with fail
          go_roundg (b - (i + 1))
          case measure => omega
          case rel => exact ⟨i + 1, h, rfl, by go_num, by omega, by omega, HM4, HS, Lib.hid HUP.out, HG4⟩
        · obtain ⟨jm, hjm⟩ : ∃ jm, j = jm + 1 := ⟨j - 1, by omega⟩
          have g0 : decide ((a : Int) < (j : Int)) = true := decide_eq_true (by omega)
          have g1 : decide (a < j) = true := decide_eq_true (by omega)
          obtain ⟨x, hx⟩ : ∃ x, h j = x := ⟨_, rfl⟩
          obtain ⟨y, hy⟩ : ∃ y, h jm = y := ⟨_, rfl⟩
          have x0 := HM.out.c0 (p := j) (by omega)
          have x1 := HM.out.c1 (p := j) (by omega)
          have y0 := HM.out.c0 (p := jm) (by omega)
          have y1 := HM.out.c1 (p := jm) (by omega)
          rw [hx] at x0 x1
          rw [hy] at y0 y1
          have HX := Lib.hid hx
          have HY := Lib.hid hy
          have HJM := Lib.hid hjm
          have HAJ := Lib.hid (show a < j by omega)
          have s0 : IntKind.i64.wrap ((j : Int) - 1) = (jm : Int) := by rw [IntWalk.i64_in _ (by omega)]; omega
          have s2 : (0 : Int) ≤ (jm : Int) := by omega
          have s3 : (jm : Int) < (n : Int) := by omega
          have s4 : (0 : Int) ≤ (j : Int) := by omega
          have s5 : (j : Int) < (n : Int) := by omega
          have KB := Lib.hid (show ∀ w w', Below w.heap.size w w' → (fun W' => W'.cell? ⟨B, j * 2, none⟩ = some (.int .i64 x.f0) ∧ W'.cell? ⟨B, j * 2 + 1, none⟩ = some (.int .i64 x.f1) ∧ W'.cell? ⟨B, jm * 2, none⟩ = some (.int .i64 y.f0) ∧ W'.cell? ⟨B, jm * 2 + 1, none⟩ = some (.int .i64 y.f1) ∧ Hid (MRow SZ W' B n h ∧ W.grownBy W' (some B))) w → (fun W' => W'.cell? ⟨B, j * 2, none⟩ = some (.int .i64 x.f0) ∧ W'.cell? ⟨B, j * 2 + 1, none⟩ = some (.int .i64 x.f1) ∧ W'.cell? ⟨B, jm * 2, none⟩ = some (.int .i64 y.f0) ∧ W'.cell? ⟨B, jm * 2 + 1, none⟩ = some (.int .i64 y.f1) ∧ Hid (MRow SZ W' B n h ∧ W.grownBy W' (some B))) w' from by
            rintro w w' hb ⟨a1, a2, a3, a4, a5⟩
            exact ⟨pw_cell_below hb a1, pw_cell_below hb a2, pw_cell_below hb a3, pw_cell_below hb a4, Lib.hid ⟨a5.out.1.below hb, grownT a5.out.2 (grownB hb _)⟩⟩)
          have SH := KB.out wr wr.drew (Below.drew (Below.refl _ _)) ⟨x0, x1, y0, y1, Lib.hid ⟨HM.out, HG.out⟩⟩
          clear hx hy hjm hja x0 x1 y0 y1
          go_wp2_with fail
          go_region_held3 (fun W' => W'.cell? ⟨B, j * 2, none⟩ = some (.int .i64 x.f0) ∧ W'.cell? ⟨B, j * 2 + 1, none⟩ = some (.int .i64 x.f1) ∧ W'.cell? ⟨B, jm * 2, none⟩ = some (.int .i64 y.f0) ∧ W'.cell? ⟨B, jm * 2 + 1, none⟩ = some (.int .i64 y.f1) ∧ Hid (MRow SZ W' B n h ∧ W.grownBy W' (some B))) (first | assumption | exact KB.out _ _ (by assumption) (by assumption))
            ((go_at_call 35; refine (cmp_calls x y _).mono ?_; rintro e w' ⟨rfl, hd⟩))
          rename_i hH
          obtain ⟨x0, x1, y0, y1, hh⟩ := hH
          have HM4 := Lib.hid hh.out.1
          have HG4 := Lib.hid hh.out.2
          clear hh SH KB
          have s1 : (j : Int) - 1 = (jm : Int) := by have := HJM.out; have := HAJ.out; omega
          have hcmp := cmpI_neg x.f0 y.f0
          obtain ⟨cv, hcv⟩ : ∃ cv, cmpI x.f0 y.f0 = cv := ⟨_, rfl⟩
          rw [hcv] at hcmp ⊢
          clear hcv
          by_cases hlt2 : x.f0 < y.f0
          · rw [decide_eq_true hlt2] at hcmp
            have hcp : cv < 0 := of_decide_eq_true hcmp
            have HI2 := Lib.hid (show InsAt (swp h j jm) a i jm by
              have := HI.out
              rw [HJM.out] at this ⊢
              exact this.step (by have := HJM.out; have := HAJ.out; omega) (by have := HJM.out; have := HAJ.out; omega) (by rw [← HJM.out, HX.out, HY.out]; exact hlt2))
            have HS2 := Lib.hid (show Stb g (swp h j jm) a b by
              refine HS.out.trans ?_
              rw [swp_comm, HJM.out]
              exact Stb.swap (by have := HJM.out; have := HAJ.out; omega) (by have := HJM.out; have := HAJ.out; omega) (by rw [← HJM.out, HX.out, HY.out]; omega))
            have HM2 := Lib.hid (show MRow SZ (swpW w' B j jm x y) B n (swp h j jm) by
              have := HM4.out.exch (i := j) (k := jm) (by omega) (by omega) (by have := HJM.out; have := HAJ.out; omega)
              rw [HX.out, HY.out] at this
              exact this)
            have HG2 := Lib.hid (grownT HG4.out (grownW w' B j jm x y))
            have f := HM4.out.fr
            have n0 : ¬ jm = j := by have := HJM.out; have := HAJ.out; omega
            have n1 : ¬ j = jm := by have := HJM.out; have := HAJ.out; omega
            have n2 : ¬ jm * 2 = j * 2 := by have := HJM.out; have := HAJ.out; omega
            have n3 : ¬ jm * 2 = j * 2 + 1 := by have := HJM.out; have := HAJ.out; omega
            have n4 : ¬ jm * 2 + 1 = j * 2 := by have := HJM.out; have := HAJ.out; omega
            have n5 : ¬ jm * 2 + 1 = j * 2 + 1 := by have := HJM.out; have := HAJ.out; omega
            clear hlt2 HI HS
            go_wp2_with fail
            go_region
            go_wp2_with fail
            go_roundg jm
            case measure => have := HJM.out; have := HAJ.out; omega
            case rel => exact ⟨jm, _, rfl, by go_num, by have := HJM.out; have := HAJ.out; omega, by have := HJM.out; have := HAJ.out; omega, Lib.hid (HM2.out.block rfl), HS2, HI2, Lib.hid (grownT HG2.out (grownB (Below.drew (Below.refl _ _)) _))⟩
          · rw [decide_eq_false hlt2] at hcmp
            have hcp : ¬ cv < 0 := of_decide_eq_false hcmp
            have HUP := Lib.hid (HI.out.stop hj1 hj2 (.inr (by
              rw [show j - 1 = jm by have := HJM.out; have := HAJ.out; omega, HX.out, HY.out]
              omega)))
            clear hlt2 x0 x1 y0 y1
            go_wp2_with fail
            go_roundg (b - (i + 1))
            case measure => omega
            case rel => exact ⟨i + 1, h, rfl, by go_num, by omega, by omega, HM4, HS, Lib.hid HUP.out, HG4⟩
    · have d0 : decide ((i : Int) < (b : Int)) = false := decide_eq_false (by omega)
      go_wp2_with fail
      go_end0
      exact ⟨⟨_, rfl⟩, h, HM.out, HS.out, HU.out.sub (Nat.le_refl _) (by omega), HG.out⟩
end Go.Proofs.Yteojldbfebnccaa
