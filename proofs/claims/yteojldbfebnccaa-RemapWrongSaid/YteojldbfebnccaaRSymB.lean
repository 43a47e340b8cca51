/- The merge of two runs of moves: one element into a run ahead of it. (Printed by gen_sym.py.) -/
import Derived.Test.YteojldbfebnccaaRIns
namespace Go.Proofs.Yteojldbfebnccaa
open Go.RowKit Go.Proofs.YteojldbfebnccaaW Go.Proofs.YteojldbfebnccaaW.PrintWords
set_option linter.unusedVariables false
set_option linter.unusedSimpArgs false
set_option maxRecDepth 100000
variable {SZ : Nat}
set_option maxHeartbeats 8000000 in
theorem symB_calls {W : World} {B n cap : Nat} {g : Nat → S49} (h : MRow SZ W B n g) (hn : n ≤ 100000) {a m : Nat} (h1 : a + 1 < m) (h2 : m + 1 ≤ n) (hu : Up g a m) :
    Calls Try.prog 60 #[.slice (some ⟨B, 0, none⟩) n cap, .int .i64 a, .int .i64 m, .int .i64 ((m + 1 : Nat) : Int), fcmp] W fun e w' => (∃ v, e = .returned v) ∧ ∃ g', MRow SZ w' B n g' ∧ Stb g g' a (m + 1) ∧ Up g' a (m + 1) ∧ W.grownBy w' (some B) := by
  have HM := Lib.hid h
  have HU := Lib.hid hu
  clear h hu
  obtain ⟨b, hm⟩ : ∃ b, m + 1 = b := ⟨_, rfl⟩
  rw [hm] at h2 ⊢
  have HMA := Lib.hid hm
  have ha : (a : Int) ≤ 100000 := by omega
  have hb : (b : Int) ≤ 100000 := by omega
  have hmm : (m : Int) ≤ 100000 := by omega
  have b0 : ((m : Int) - (a : Int) == 1) = false := beq_eq_false_iff_ne.2 (by omega)
  have b1 : (b : Int) - (m : Int) = 1 := by omega
  clear hm
  go_enter Try.func60, Try.ntmps60
  go_wp2_with fail
  go_loopg [14, 15] (m - a) (fun kq v10 v11 wr => ∃ i j : Nat, kq = j - i ∧ v10 = .int .i64 i ∧ v11 = .int .i64 j ∧ a ≤ i ∧ i ≤ j ∧ j ≤ m ∧ Hid (MRow SZ wr B n g) ∧ Hid ((∀ p, a ≤ p → p < i → (g p).f0 ≤ (g m).f0) ∧ (∀ p, j ≤ p → p < m → (g m).f0 < (g p).f0)) ∧ Hid (W.grownBy wr (some B)))
  case atStart => exact ⟨a, m, rfl, rfl, rfl, Nat.le_refl _, by omega, Nat.le_refl _, HM, Lib.hid ⟨fun p x y => by omega, fun p x y => by omega⟩, Lib.hid (grownR _ _)⟩
  case round =>
    clear HM
    obtain ⟨i, j, hkq, rfl, rfl, hi1, hij, hjb, HM, HB, HG⟩ := hrel
    by_cases hlt : i < j
    · have d0 : decide ((i : Int) < (j : Int)) = true := decide_eq_true (by omega)
      have hi3 : (i : Int) ≤ 100000 := by omega
      have hj3 : (j : Int) ≤ 100000 := by omega
      obtain ⟨hh, hhe⟩ : ∃ hh, (i + j) / 2 = hh := ⟨_, rfl⟩
      have s0 : ((i : Int) + (j : Int)) / 2 = (hh : Int) := by omega
      have hh1 : i ≤ hh := by omega
      have hh2 : hh < j := by omega
      clear hhe
      obtain ⟨x, hx⟩ : ∃ x, g hh = x := ⟨_, rfl⟩
      obtain ⟨y, hy⟩ : ∃ y, g m = y := ⟨_, rfl⟩
      have x0 := HM.out.c0 (p := hh) (by omega)
      have x1 := HM.out.c1 (p := hh) (by omega)
      have y0 := HM.out.c0 (p := m) (by omega)
      have y1 := HM.out.c1 (p := m) (by omega)
      rw [hx] at x0 x1
      rw [hy] at y0 y1
      have HX := Lib.hid hx
      have HY := Lib.hid hy
      have s2 : (0 : Int) ≤ (hh : Int) := by omega
      have s3 : (hh : Int) < (n : Int) := by omega
      have s4 : (0 : Int) ≤ (m : Int) := by omega
      have s5 : (m : Int) < (n : Int) := by omega
      have KB := Lib.hid (show ∀ w w', Below w.heap.size w w' → (fun W' => W'.cell? ⟨B, hh * 2, none⟩ = some (.int .i64 x.f0) ∧ W'.cell? ⟨B, hh * 2 + 1, none⟩ = some (.int .i64 x.f1) ∧ W'.cell? ⟨B, m * 2, none⟩ = some (.int .i64 y.f0) ∧ W'.cell? ⟨B, m * 2 + 1, none⟩ = some (.int .i64 y.f1) ∧ Hid (MRow SZ W' B n g ∧ W.grownBy W' (some B))) w → (fun W' => W'.cell? ⟨B, hh * 2, none⟩ = some (.int .i64 x.f0) ∧ W'.cell? ⟨B, hh * 2 + 1, none⟩ = some (.int .i64 x.f1) ∧ W'.cell? ⟨B, m * 2, none⟩ = some (.int .i64 y.f0) ∧ W'.cell? ⟨B, m * 2 + 1, none⟩ = some (.int .i64 y.f1) ∧ Hid (MRow SZ W' B n g ∧ W.grownBy W' (some B))) w' from by
        rintro w w' hb ⟨a1, a2, a3, a4, a5⟩
        exact ⟨pw_cell_below hb a1, pw_cell_below hb a2, pw_cell_below hb a3, pw_cell_below hb a4, Lib.hid ⟨a5.out.1.below hb, grownT a5.out.2 (grownB hb _)⟩⟩)
      have SH := KB.out wr wr.drew (Below.drew (Below.refl _ _)) ⟨x0, x1, y0, y1, Lib.hid ⟨HM.out, HG.out⟩⟩
      clear hx hy x0 x1 y0 y1
      go_wp2_with fail
      go_region_held3 (fun W' => W'.cell? ⟨B, hh * 2, none⟩ = some (.int .i64 x.f0) ∧ W'.cell? ⟨B, hh * 2 + 1, none⟩ = some (.int .i64 x.f1) ∧ W'.cell? ⟨B, m * 2, none⟩ = some (.int .i64 y.f0) ∧ W'.cell? ⟨B, m * 2 + 1, none⟩ = some (.int .i64 y.f1) ∧ Hid (MRow SZ W' B n g ∧ W.grownBy W' (some B))) (first | assumption | exact KB.out _ _ (by assumption) (by assumption))
        ((go_at_call 35; refine (cmp_calls y x _).mono ?_; rintro e w' ⟨rfl, hd⟩))
      rename_i hH
      obtain ⟨x0, x1, y0, y1, hq⟩ := hH
      have HM4 := Lib.hid hq.out.1
      have HG4 := Lib.hid hq.out.2
      clear hq SH KB x0 x1 y0 y1
      have hcmp := cmpI_neg y.f0 x.f0
      obtain ⟨cv, hcv⟩ : ∃ cv, cmpI y.f0 x.f0 = cv := ⟨_, rfl⟩
      rw [hcv] at hcmp ⊢
      clear hcv
      by_cases hlt2 : y.f0 < x.f0
      · rw [decide_eq_true hlt2] at hcmp
        have hcp : cv < 0 := of_decide_eq_true hcmp
        have hcq : decide (0 ≤ cv) = false := decide_eq_false (by omega)
        rw [hcmp, Bool.not_true]
        clear hcmp hcq hcp
        have HB2 := Lib.hid (show (∀ p, a ≤ p → p < i → (g p).f0 ≤ (g m).f0) ∧ (∀ p, hh ≤ p → p < m → (g m).f0 < (g p).f0) from ⟨HB.out.1, fun p x1 x2 => by
          have := HU.out hh p (by omega) x1 x2
          rw [HX.out] at this
          rw [HY.out]; omega⟩)
        clear hlt2
        go_wp2_with fail
        go_roundg (hh - i)
        case measure => omega
        case rel => exact ⟨i, hh, rfl, rfl, rfl, by omega, by omega, by omega, HM4, HB2, HG4⟩
      · rw [decide_eq_false hlt2] at hcmp
        have hcp : ¬ cv < 0 := of_decide_eq_false hcmp
        have hcq : decide (0 ≤ cv) = true := decide_eq_true (by omega)
        rw [hcmp, Bool.not_false]
        clear hcmp hcq hcp
        have HB2 := Lib.hid (show (∀ p, a ≤ p → p < hh + 1 → (g p).f0 ≤ (g m).f0) ∧ (∀ p, j ≤ p → p < m → (g m).f0 < (g p).f0) from ⟨fun p x1 x2 => by
          have := HU.out p hh x1 (by omega) (by omega)
          rw [HX.out] at this
          rw [HY.out]; omega, HB.out.2⟩)
        clear hlt2
        go_wp2_with fail
        go_roundg (j - (hh + 1))
        case measure => omega
        case rel => exact ⟨hh + 1, j, rfl, by go_num, rfl, by omega, by omega, by omega, HM4, HB2, HG4⟩
    · obtain rfl : i = j := by omega
      have d0 : decide ((i : Int) < (i : Int)) = false := by simp
      have HFIN := Lib.hid (merge_b (g := g) (a := a) (m := m) (i := i) hi1 hjb HB.out.1 HB.out.2 HU.out)
      have hi3 : (i : Int) ≤ 100000 := by omega
      rw [HMA.out] at HFIN
      go_wp2_with fail
      obtain ⟨wo, hwo⟩ : ∃ wo : World, wo = wr := ⟨_, rfl⟩
      clear hwo
      go_loopg [17] (m - i) (fun kq v17 wx => ∃ k : Nat, kq = k - i ∧ v17 = .int .i64 k ∧ i ≤ k ∧ k ≤ m ∧ Hid (MRow SZ wx B n (insB g m k)) ∧ Hid (W.grownBy wx (some B)))
      case atStart => exact ⟨m, rfl, rfl, hjb, Nat.le_refl _, by rw [insB_start]; exact HM, HG⟩
      case round =>
        clear HM HG
        obtain ⟨k, hkq2, rfl, hk1, hk2, HM, HG⟩ := hrel
        by_cases hke : i < k
        · have d1 : decide ((i : Int) < (k : Int)) = true := decide_eq_true (by omega)
          obtain ⟨q, hq⟩ : ∃ q, k = q + 1 := ⟨k - 1, by omega⟩
          obtain ⟨x, hx⟩ : ∃ x, insB g m k k = x := ⟨_, rfl⟩
          obtain ⟨y, hy⟩ : ∃ y, insB g m k q = y := ⟨_, rfl⟩
          have x0 := HM.out.c0 (p := k) (by omega)
          have x1 := HM.out.c1 (p := k) (by omega)
          have y0 := HM.out.c0 (p := q) (by omega)
          have y1 := HM.out.c1 (p := q) (by omega)
          rw [hx] at x0 x1
          rw [hy] at y0 y1
          have HM2 := Lib.hid (show MRow SZ (swpW wr B k q x y) B n (insB g m q) by
            have := HM.out.exch (i := k) (k := q) (by omega) (by omega) (by omega)
            rw [hx, hy, hq, insB_step g (by omega), ← hq] at this
            exact this)
          have HG2 := Lib.hid (grownT HG.out (grownW wr B k q x y))
          have f := HM.out.fr
          have t0 : IntKind.i64.wrap ((k : Int) - 1) = (q : Int) := by rw [IntWalk.i64_in _ (by omega)]; omega
          have t1 : (0 : Int) ≤ (k : Int) := by omega
          have t2 : (k : Int) < (n : Int) := by omega
          have t3 : (0 : Int) ≤ (q : Int) := by omega
          have t4 : (q : Int) < (n : Int) := by omega
          have n0 : ¬ q = k := by omega
          have n1 : ¬ k = q := by omega
          have n2 : ¬ q * 2 = k * 2 := by omega
          have n3 : ¬ q * 2 = k * 2 + 1 := by omega
          have n4 : ¬ q * 2 + 1 = k * 2 := by omega
          have n5 : ¬ q * 2 + 1 = k * 2 + 1 := by omega
          have HQ := Lib.hid hq
          clear hx hy hq
          go_wp2_with fail
          go_region
          have t5 : (k : Int) - 1 = (q : Int) := by have := HQ.out; omega
          go_wp2_with fail
          go_roundg (q - i)
          case measure => have := HQ.out; omega
          case rel => exact ⟨q, rfl, rfl, by have := HQ.out; omega, by have := HQ.out; omega, Lib.hid (HM2.out.block rfl), Lib.hid (grownT HG2.out (grownB (Below.drew (Below.refl _ _)) _))⟩
        · have d1 : decide ((i : Int) < (k : Int)) = false := decide_eq_false (by omega)
          obtain rfl : k = i := by omega
          go_wp2_with fail
          refine bodyPost_ret (results_none (by kernel_rfl) _ _ _) rfl ?_
          exact ⟨⟨_, rfl⟩, _, HM.out, HFIN.out.1, HFIN.out.2, HG.out⟩
end Go.Proofs.Yteojldbfebnccaa
