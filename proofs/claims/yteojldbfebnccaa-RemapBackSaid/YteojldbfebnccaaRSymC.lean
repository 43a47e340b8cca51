/- The merge of two runs of moves. (Printed by gen_symc.py.) -/
import Derived.Test.YteojldbfebnccaaRSymA
import Derived.Test.YteojldbfebnccaaRSymB
import Derived.Deep.Cut
import Derived.Deep.CutRange
import Derived.Deep.DeepCutAuto
namespace Go.Proofs.Yteojldbfebnccaa
open Go.RowKit Go.Proofs.YteojldbfebnccaaW Go.Proofs.YteojldbfebnccaaW.PrintWords
set_option linter.unusedVariables false
set_option linter.unusedSimpArgs false
set_option maxRecDepth 100000
variable {SZ : Nat}
def SymOK (SZ N : Nat) : Prop := ∀ (W : World) (B n cap : Nat) (g : Nat → S49) (a m b : Nat), MRow SZ W B n g → n ≤ 100000 → a < m → m < b → b ≤ n → b - a ≤ N → Up g a m → Up g m b →
  Calls Try.prog 60 #[.slice (some ⟨B, 0, none⟩) n cap, .int .i64 a, .int .i64 m, .int .i64 b, fcmp] W fun e w' => (∃ v, e = .returned v) ∧ ∃ g', MRow SZ w' B n g' ∧ Stb g g' a b ∧ Up g' a b ∧ W.grownBy w' (some B)
set_option maxHeartbeats 16000000 in
theorem symC_calls (N : Nat) (ih : SymOK SZ N) {W : World} {B n cap : Nat} {g : Nat → S49} (h : MRow SZ W B n g) (hn : n ≤ 100000) {a m b : Nat} (h1 : a + 1 < m) (h2 : m + 1 < b) (h3 : b ≤ n) (hN : b - a ≤ N + 1) (hu : Up g a m) (hu' : Up g m b) :
    Calls Try.prog 60 #[.slice (some ⟨B, 0, none⟩) n cap, .int .i64 a, .int .i64 m, .int .i64 b, fcmp] W fun e w' => (∃ v, e = .returned v) ∧ ∃ g', MRow SZ w' B n g' ∧ Stb g g' a b ∧ Up g' a b ∧ W.grownBy w' (some B) := by
  have HM := Lib.hid h
  have HU1 := Lib.hid hu
  have HU2' := Lib.hid hu'
  clear h hu hu'
  obtain ⟨mid, hmid⟩ : ∃ mid, (a + b) / 2 = mid := ⟨_, rfl⟩
  obtain ⟨nn, hnn⟩ : ∃ nn, mid + m = nn := ⟨_, rfl⟩
  obtain ⟨pp, hpp⟩ : ∃ pp, nn - 1 = pp := ⟨_, rfl⟩
  have e0 : ((a : Int) + (b : Int)) / 2 = (mid : Int) := by omega
  have e1 : (mid : Int) + (m : Int) = (nn : Int) := by omega
  have e2 : (nn : Int) - 1 = (pp : Int) := by omega
  have HMID := Lib.hid (show a < mid ∧ mid < b ∧ mid + m = nn ∧ a + b ≤ 2 * mid + 1 ∧ 2 * mid ≤ a + b by omega)
  have HPP := Lib.hid hpp
  have ha : (a : Int) ≤ 100000 := by omega
  have hb : (b : Int) ≤ 100000 := by omega
  have hmm : (m : Int) ≤ 100000 := by omega
  have hmi : (mid : Int) ≤ 100000 := by omega
  have hnn3 : (nn : Int) ≤ 200000 := by omega
  have b0 : ((m : Int) - (a : Int) == 1) = false := beq_eq_false_iff_ne.2 (by omega)
  have b1 : ((b : Int) - (m : Int) == 1) = false := beq_eq_false_iff_ne.2 (by omega)
  clear hmid hnn hpp
  by_cases hcase : mid < m
  · have c0 : decide ((mid : Int) < (m : Int)) = true := decide_eq_true (by omega)
    obtain ⟨lo, hlo⟩ : ∃ lo, nn - b = lo := ⟨_, rfl⟩
    have e3 : (nn : Int) - (b : Int) = (lo : Int) := by have := HMID.out; omega
    have HBD := Lib.hid (show (a ≤ lo ∧ lo ≤ mid ∧ mid ≤ m ∧ mid ≤ mid ∧ nn - lo ≤ b ∧ nn - mid ≥ m ∧ nn ≤ 2 * n) ∧ ((mid < m ∧ lo = nn - b ∧ mid = mid) ∨ (m ≤ mid ∧ lo = a ∧ mid = m)) by have := HMID.out; omega)
    have c0' : decide (mid < m) = true := decide_eq_true hcase
    clear hlo
    go_enter Try.func60, Try.ntmps60
    go_wp2_with fail
    go_loopg [20, 21] (mid - lo) (fun kq v20 v21 wr => ∃ s r : Nat, kq = r - s ∧ v20 = .int .i64 s ∧ v21 = .int .i64 r ∧ lo ≤ s ∧ s ≤ r ∧ r ≤ mid ∧ Hid (MRow SZ wr B n g) ∧ Hid ((s = lo ∨ (g (s - 1)).f0 ≤ (g (nn - s)).f0) ∧ (r = mid ∨ (g (nn - 1 - r)).f0 < (g r).f0)) ∧ Hid (W.grownBy wr (some B)))
    case atStart => exact ⟨lo, mid, rfl, rfl, rfl, Nat.le_refl _, by have := HBD.out; omega, Nat.le_refl _, HM, Lib.hid ⟨.inl rfl, .inl rfl⟩, Lib.hid (grownR _ _)⟩
    case round =>
      clear HM
      obtain ⟨s, r, hkq, rfl, rfl, hs1, hsr, hr1, HM, HB, HG⟩ := hrel
      have hs3 : (s : Int) ≤ 100000 := by have := HBD.out; omega
      have hr3 : (r : Int) ≤ 100000 := by have := HBD.out; omega
      by_cases hlt : s < r
      · have d0 : decide ((s : Int) < (r : Int)) = true := decide_eq_true (by omega)
        obtain ⟨c, hc⟩ : ∃ c, (s + r) / 2 = c := ⟨_, rfl⟩
        have t0 : ((s : Int) + (r : Int)) / 2 = (c : Int) := by omega
        have hc1 : s ≤ c := by omega
        have hc2 : c < r := by omega
        obtain ⟨q, hq⟩ : ∃ q, nn - 1 - c = q := ⟨_, rfl⟩
        have t1 : IntKind.i64.wrap ((pp : Int) - (c : Int)) = (q : Int) := by have := HBD.out; have := HPP.out; rw [IntWalk.i64_in _ (by omega)]; omega
        have hqn : q < n := by have := HBD.out; have := HPP.out; omega
        have hcn : c < n := by have := HBD.out; omega
        have HC := Lib.hid hc
        have HQ := Lib.hid hq
        clear hc hq
        obtain ⟨x, hx⟩ : ∃ x, g q = x := ⟨_, rfl⟩
        obtain ⟨y, hy⟩ : ∃ y, g c = y := ⟨_, rfl⟩
        have x0 := HM.out.c0 (p := q) hqn
        have x1 := HM.out.c1 (p := q) hqn
        have y0 := HM.out.c0 (p := c) hcn
        have y1 := HM.out.c1 (p := c) hcn
        rw [hx] at x0 x1
        rw [hy] at y0 y1
        have HX := Lib.hid hx
        have HY := Lib.hid hy
        have t2 : (0 : Int) ≤ (q : Int) := by omega
        have t3 : (q : Int) < (n : Int) := by omega
        have t4 : (0 : Int) ≤ (c : Int) := by omega
        have t5 : (c : Int) < (n : Int) := by omega
        have KB := Lib.hid (show ∀ w w', Below w.heap.size w w' → (fun W' => W'.cell? ⟨B, q * 2, none⟩ = some (.int .i64 x.f0) ∧ W'.cell? ⟨B, q * 2 + 1, none⟩ = some (.int .i64 x.f1) ∧ W'.cell? ⟨B, c * 2, none⟩ = some (.int .i64 y.f0) ∧ W'.cell? ⟨B, c * 2 + 1, none⟩ = some (.int .i64 y.f1) ∧ Hid (MRow SZ W' B n g ∧ W.grownBy W' (some B))) w → (fun W' => W'.cell? ⟨B, q * 2, none⟩ = some (.int .i64 x.f0) ∧ W'.cell? ⟨B, q * 2 + 1, none⟩ = some (.int .i64 x.f1) ∧ W'.cell? ⟨B, c * 2, none⟩ = some (.int .i64 y.f0) ∧ W'.cell? ⟨B, c * 2 + 1, none⟩ = some (.int .i64 y.f1) ∧ Hid (MRow SZ W' B n g ∧ W.grownBy W' (some B))) w' from by
          rintro w w' hb ⟨a1, a2, a3, a4, a5⟩
          exact ⟨pw_cell_below hb a1, pw_cell_below hb a2, pw_cell_below hb a3, pw_cell_below hb a4, Lib.hid ⟨a5.out.1.below hb, grownT a5.out.2 (grownB hb _)⟩⟩)
        have SH := KB.out wr wr.drew (Below.drew (Below.refl _ _)) ⟨x0, x1, y0, y1, Lib.hid ⟨HM.out, HG.out⟩⟩
        clear hx hy x0 x1 y0 y1
        go_wp2_with fail
        go_region_held3 (fun W' => W'.cell? ⟨B, q * 2, none⟩ = some (.int .i64 x.f0) ∧ W'.cell? ⟨B, q * 2 + 1, none⟩ = some (.int .i64 x.f1) ∧ W'.cell? ⟨B, c * 2, none⟩ = some (.int .i64 y.f0) ∧ W'.cell? ⟨B, c * 2 + 1, none⟩ = some (.int .i64 y.f1) ∧ Hid (MRow SZ W' B n g ∧ W.grownBy W' (some B))) (first | assumption | exact KB.out _ _ (by assumption) (by assumption))
          ((go_at_call 35; refine (cmp_calls x y _).mono ?_; rintro e w' ⟨rfl, hd⟩))
        rename_i hH
        obtain ⟨x0, x1, y0, y1, hq⟩ := hH
        have HM4 := Lib.hid hq.out.1
        have HG4 := Lib.hid hq.out.2
        clear hq SH KB x0 x1 y0 y1
        have hcmp := cmpI_neg x.f0 y.f0
        obtain ⟨cv, hcv⟩ : ∃ cv, cmpI x.f0 y.f0 = cv := ⟨_, rfl⟩
        rw [hcv] at hcmp ⊢
        clear hcv
        by_cases hlt2 : x.f0 < y.f0
        · rw [decide_eq_true hlt2] at hcmp
          rw [hcmp, Bool.not_true]
          have HB2 := Lib.hid (show (s = lo ∨ (g (s - 1)).f0 ≤ (g (nn - s)).f0) ∧ (c = mid ∨ (g (nn - 1 - c)).f0 < (g c).f0) from ⟨HB.out.1, .inr (by rw [HQ.out, HX.out, HY.out]; exact hlt2)⟩)
          clear hlt2 hcmp
          go_wp2_with fail
          go_roundg (c - s)
          case measure => omega
          case rel => exact ⟨s, c, rfl, rfl, rfl, by omega, by omega, by omega, HM4, HB2, HG4⟩
        · rw [decide_eq_false hlt2] at hcmp
          rw [hcmp, Bool.not_false]
          have HB2 := Lib.hid (show (c + 1 = lo ∨ (g (c + 1 - 1)).f0 ≤ (g (nn - (c + 1))).f0) ∧ (r = mid ∨ (g (nn - 1 - r)).f0 < (g r).f0) from ⟨.inr (by
            rw [Nat.add_sub_cancel, show nn - (c + 1) = q by have := HQ.out; omega, HX.out, HY.out]
            omega), HB.out.2⟩)
          clear hlt2 hcmp
          go_wp2_with fail
          go_roundg (r - (c + 1))
          case measure => omega
          case rel => exact ⟨c + 1, r, rfl, by go_num, rfl, by omega, by omega, by omega, HM4, HB2, HG4⟩
      · obtain rfl : s = r := by omega
        have d0 : decide ((s : Int) < (s : Int)) = false := by simp
        obtain ⟨e, he⟩ : ∃ e, nn - s = e := ⟨_, rfl⟩
        have t0 : (nn : Int) - (s : Int) = (e : Int) := by have := HBD.out; omega
        have HE := Lib.hid he
        have HSE := Lib.hid (show a ≤ s ∧ s ≤ m ∧ m ≤ e ∧ e ≤ b ∧ s + (e - m) = mid ∧ mid ≤ e ∧ s ≤ mid by have := HBD.out; have := HMID.out; omega)
        have HCUT := Lib.hid (show Cut g (rotF g s m e) a s mid e b from by
          obtain ⟨k1, k2, k3, k4, k5, _, _⟩ := HSE.out
          have hbd := HBD.out
          have hmd := HMID.out
          refine merge_cut k1 k2 k3 k4 k5 HU1.out HU2'.out ?_ ?_
          · rcases HB.out.1 with h | h
            · rcases hbd.2 with ⟨_, h5, _⟩ | ⟨_, h5, _⟩
              · exact .inr (.inl (by omega))
              · exact .inl (by omega)
            · exact .inr (.inr (by rw [he] at h; exact h))
          · rcases HB.out.2 with h | h
            · rcases hbd.2 with ⟨_, _, h5⟩ | ⟨_, _, h5⟩
              · exact .inr (.inl (by omega))
              · exact .inl (by omega)
            · exact .inr (.inr (by rw [show nn - 1 - s = e - 1 by omega] at h; exact h)))
        clear he HB hlt
        clear d0
        obtain ⟨wt, hwt⟩ : ∃ wt, wr = wt := ⟨_, rfl⟩
        rw [hwt] at HM HG
        rw [hwt]
        clear hwt
        go_upto_region 39 with fail
        go_cut [185] from 178 to 185 (fun v wx => v = .bool (decide (s < m) && decide (m < e)) ∧ wt = wx)
        case first =>
          by_cases hz1 : s < m
          · have z1 : decide ((s : Int) < (m : Int)) = true := decide_eq_true (by omega)
            have z1' : decide (s < m) = true := decide_eq_true hz1
            by_cases hz2 : m < e
            · have z2 : decide ((m : Int) < (e : Int)) = true := decide_eq_true (by omega)
              have z2' : decide (m < e) = true := decide_eq_true hz2
              go_wp2_with fail
              go_meet
              exact ⟨by rw [z1', z2']; rfl, rfl⟩
            · have z2 : decide ((m : Int) < (e : Int)) = false := decide_eq_false (by omega)
              have z2' : decide (m < e) = false := decide_eq_false hz2
              go_wp2_with fail
              go_meet
              exact ⟨by rw [z1', z2']; rfl, rfl⟩
          · have z1 : decide ((s : Int) < (m : Int)) = false := decide_eq_false (by omega)
            have z1' : decide (s < m) = false := decide_eq_false hz1
            go_wp2_with fail
            go_meet
            exact ⟨by rw [z1']; rfl, rfl⟩
        case rest =>
          obtain ⟨rfl, rfl⟩ := hcut
          go_upto_if 185 with fail
          go_cut [] from 185 to 191 (fun wx => Hid (MRow SZ wx B n (rotF g s m e)) ∧ Hid (W.grownBy wx (some B)))
          case first =>
            by_cases hrot : s < m ∧ m < e
            · have HROT := Lib.hid hrot
              rw [decide_eq_true hrot.1, decide_eq_true hrot.2, Bool.and_true]
              clear hrot
              go_wp2_with fail
              refine (rot_calls HM.out hn HROT.out.1 HROT.out.2 (by have := HSE.out; omega) fcmp).mono ?_
              rintro e5 w5 ⟨⟨v5, rfl⟩, hm5, hg5⟩
              have HM5 := Lib.hid hm5
              have HG5 := Lib.hid (grownT HG.out hg5)
              clear hm5 hg5
              go_wp2_with fail
              go_meet
              exact ⟨HM5, HG5⟩
            · have hbb : (decide (s < m) && decide (m < e)) = false := by
                rw [Bool.and_eq_false_iff, decide_eq_false_iff_not, decide_eq_false_iff_not]; omega
              rw [hbb]
              have HM5 := Lib.hid (show MRow SZ wt B n (rotF g s m e) by rw [rotF_self g (by have := HSE.out; omega) (by have := HSE.out; omega) (by have := HSE.out; omega)]; exact HM.out)
              clear hrot hbb
              go_wp2_with fail
              go_meet
              exact ⟨HM5, HG⟩
          case rest =>
            obtain ⟨HM5, HG5⟩ := hcut
            obtain ⟨wu, hwu⟩ : ∃ wu, wc = wu := ⟨_, rfl⟩
            rw [hwu] at HM5 HG5
            rw [hwu]
            clear hwu
            go_upto_region 41 with fail
            go_cut [199] from 192 to 199 (fun v wx => v = .bool (decide (a < s) && decide (s < mid)) ∧ wu = wx)
            case first =>
              by_cases hz1 : a < s
              · have z1 : decide ((a : Int) < (s : Int)) = true := decide_eq_true (by omega)
                have z1' : decide (a < s) = true := decide_eq_true hz1
                by_cases hz2 : s < mid
                · have z2 : decide ((s : Int) < (mid : Int)) = true := decide_eq_true (by omega)
                  have z2' : decide (s < mid) = true := decide_eq_true hz2
                  go_wp2_with fail
                  go_meet
                  exact ⟨by rw [z1', z2']; rfl, rfl⟩
                · have z2 : decide ((s : Int) < (mid : Int)) = false := decide_eq_false (by omega)
                  have z2' : decide (s < mid) = false := decide_eq_false hz2
                  go_wp2_with fail
                  go_meet
                  exact ⟨by rw [z1', z2']; rfl, rfl⟩
              · have z1 : decide ((a : Int) < (s : Int)) = false := decide_eq_false (by omega)
                have z1' : decide (a < s) = false := decide_eq_false hz1
                go_wp2_with fail
                go_meet
                exact ⟨by rw [z1']; rfl, rfl⟩
            case rest =>
              obtain ⟨rfl, rfl⟩ := hcut
              go_upto_if 199 with fail
              go_cut [] from 199 to 205 (fun wx => ∃ g2, Hid (MRow SZ wx B n g2) ∧ Hid (Stb (rotF g s m e) g2 a mid) ∧ Hid (Up g2 a mid) ∧ Hid (W.grownBy wx (some B)))
              case first =>
                by_cases hl : a < s ∧ s < mid
                · have HL := Lib.hid hl
                  rw [decide_eq_true hl.1, decide_eq_true hl.2, Bool.and_true]
                  clear hl
                  go_wp2_with fail
                  refine (ih _ B n cap _ a s mid HM5.out hn HL.out.1 HL.out.2 (by have := HMID.out; omega) (by have := HMID.out; omega) HCUT.out.u1 HCUT.out.u2).mono ?_
                  rintro e6 w6 ⟨⟨v6, rfl⟩, g2, hm6, hs6, hu6, hg6⟩
                  have HM6 := Lib.hid hm6
                  have HS2 := Lib.hid hs6
                  have HU2 := Lib.hid hu6
                  have HG6 := Lib.hid (grownT HG5.out hg6)
                  clear hm6 hs6 hu6 hg6
                  go_wp2_with fail
                  go_meet
                  exact ⟨g2, HM6, HS2, HU2, HG6⟩
                · have hbb : (decide (a < s) && decide (s < mid)) = false := by
                    rw [Bool.and_eq_false_iff, decide_eq_false_iff_not, decide_eq_false_iff_not]; omega
                  rw [hbb]
                  have HU2 := Lib.hid (show Up (rotF g s m e) a mid from by
                    have hmd := HMID.out
                    have hsa := HSE.out
                    rcases Nat.lt_or_ge a s with hx | hx
                    · have h9 := HCUT.out.u1
                      have e9 : s = mid := by omega
                      exact fun p q x y z => h9 p q x y (by omega)
                    · have h9 := HCUT.out.u2
                      have e9 : s = a := by omega
                      exact fun p q x y z => h9 p q (by omega) y z)
                  clear hl hbb
                  go_wp2_with fail
                  go_meet
                  exact ⟨_, HM5, Lib.hid (Stb.refl _ _ _), HU2, HG5⟩
              case rest =>
                obtain ⟨g2, HM6, HS2, HU2, HG6⟩ := hcut
                obtain ⟨wv, hwv⟩ : ∃ wv, wc = wv := ⟨_, rfl⟩
                rw [hwv] at HM6 HG6
                rw [hwv]
                clear hwv
                go_upto_region 43 with fail
                go_cut [213] from 206 to 213 (fun v wx => v = .bool (decide (mid < e) && decide (e < b)) ∧ wv = wx)
                case first =>
                  by_cases hz1 : mid < e
                  · have z1 : decide ((mid : Int) < (e : Int)) = true := decide_eq_true (by omega)
                    have z1' : decide (mid < e) = true := decide_eq_true hz1
                    by_cases hz2 : e < b
                    · have z2 : decide ((e : Int) < (b : Int)) = true := decide_eq_true (by omega)
                      have z2' : decide (e < b) = true := decide_eq_true hz2
                      go_wp2_with fail
                      go_meet
                      exact ⟨by rw [z1', z2']; rfl, rfl⟩
                    · have z2 : decide ((e : Int) < (b : Int)) = false := decide_eq_false (by omega)
                      have z2' : decide (e < b) = false := decide_eq_false hz2
                      go_wp2_with fail
                      go_meet
                      exact ⟨by rw [z1', z2']; rfl, rfl⟩
                  · have z1 : decide ((mid : Int) < (e : Int)) = false := decide_eq_false (by omega)
                    have z1' : decide (mid < e) = false := decide_eq_false hz1
                    go_wp2_with fail
                    go_meet
                    exact ⟨by rw [z1']; rfl, rfl⟩
                case rest =>
                  obtain ⟨rfl, rfl⟩ := hcut
                  by_cases hr : mid < e ∧ e < b
                  · have HR := Lib.hid hr
                    rw [decide_eq_true hr.1, decide_eq_true hr.2, Bool.and_true]
                    clear hr
                    go_wp2_with fail
                    refine (ih _ B n cap _ mid e b HM6.out hn HR.out.1 HR.out.2 h3 (by have := HSE.out; have := HMID.out; omega) (HCUT.out.u3.of (fun p x _ => HS2.out.out p (.inr x))) (HCUT.out.u4.of (fun p x _ => HS2.out.out p (.inr (by have := HR.out; omega))))).mono ?_
                    rintro e7 w7 ⟨⟨v7, rfl⟩, g3, hm7, hs7, hu7, hg7⟩
                    have HM7 := Lib.hid hm7
                    have HS3 := Lib.hid hs7
                    have HU3 := Lib.hid hu7
                    have HG7 := Lib.hid (grownT HG6.out hg7)
                    clear hm7 hs7 hu7 hg7
                    have hj := Lib.hid (merge_join (show a ≤ mid by have := HMID.out; omega) (show mid ≤ b by have := HMID.out; omega) HCUT.out HS2.out HU2.out HS3.out HU3.out)
                    go_wp2_with fail
                    go_end0
                    exact ⟨⟨_, rfl⟩, _, HM7.out, hj.out.1, hj.out.2, HG7.out⟩
                  · have hbb : (decide (mid < e) && decide (e < b)) = false := by
                      rw [Bool.and_eq_false_iff, decide_eq_false_iff_not, decide_eq_false_iff_not]; omega
                    rw [hbb]
                    have HU3 := Lib.hid (show Up g2 mid b from by
                      have hmd := HMID.out
                      have hsa := HSE.out
                      rcases Nat.lt_or_ge mid e with hx | hx
                      · have h9 := HCUT.out.u3
                        have e9 : e = b := by omega
                        exact Up.of (g := rotF g s m e) (fun p q x y z => h9 p q x y (by omega)) (fun p x _ => HS2.out.out p (.inr x))
                      · have h9 := HCUT.out.u4
                        have e9 : e = mid := by omega
                        exact Up.of (g := rotF g s m e) (fun p q x y z => h9 p q (by omega) y z) (fun p x _ => HS2.out.out p (.inr x)))
                    clear hr hbb
                    have hj := Lib.hid (merge_join (show a ≤ mid by have := HMID.out; omega) (show mid ≤ b by have := HMID.out; omega) HCUT.out HS2.out HU2.out (Stb.refl _ _ _) HU3.out)
                    go_wp2_with fail
                    go_end0
                    exact ⟨⟨_, rfl⟩, _, HM6.out, hj.out.1, hj.out.2, HG6.out⟩
  · have c0 : decide ((mid : Int) < (m : Int)) = false := decide_eq_false (by omega)
    have HBD := Lib.hid (show (a ≤ a ∧ a ≤ m ∧ m ≤ m ∧ m ≤ mid ∧ nn - a ≤ b ∧ nn - m ≥ m ∧ nn ≤ 2 * n) ∧ ((mid < m ∧ a = nn - b ∧ m = mid) ∨ (m ≤ mid ∧ a = a ∧ m = m)) by have := HMID.out; omega)
    have c0' : decide (mid < m) = false := decide_eq_false hcase
    go_enter Try.func60, Try.ntmps60
    go_wp2_with fail
    go_loopg [20, 21] (m - a) (fun kq v20 v21 wr => ∃ s r : Nat, kq = r - s ∧ v20 = .int .i64 s ∧ v21 = .int .i64 r ∧ a ≤ s ∧ s ≤ r ∧ r ≤ m ∧ Hid (MRow SZ wr B n g) ∧ Hid ((s = a ∨ (g (s - 1)).f0 ≤ (g (nn - s)).f0) ∧ (r = m ∨ (g (nn - 1 - r)).f0 < (g r).f0)) ∧ Hid (W.grownBy wr (some B)))
    case atStart => exact ⟨a, m, rfl, rfl, rfl, Nat.le_refl _, by have := HBD.out; omega, Nat.le_refl _, HM, Lib.hid ⟨.inl rfl, .inl rfl⟩, Lib.hid (grownR _ _)⟩
    case round =>
      clear HM
      obtain ⟨s, r, hkq, rfl, rfl, hs1, hsr, hr1, HM, HB, HG⟩ := hrel
      have hs3 : (s : Int) ≤ 100000 := by have := HBD.out; omega
      have hr3 : (r : Int) ≤ 100000 := by have := HBD.out; omega
      by_cases hlt : s < r
      · have d0 : decide ((s : Int) < (r : Int)) = true := decide_eq_true (by omega)
        obtain ⟨c, hc⟩ : ∃ c, (s + r) / 2 = c := ⟨_, rfl⟩
        have t0 : ((s : Int) + (r : Int)) / 2 = (c : Int) := by omega
        have hc1 : s ≤ c := by omega
        have hc2 : c < r := by omega
        obtain ⟨q, hq⟩ : ∃ q, nn - 1 - c = q := ⟨_, rfl⟩
        have t1 : IntKind.i64.wrap ((pp : Int) - (c : Int)) = (q : Int) := by have := HBD.out; have := HPP.out; rw [IntWalk.i64_in _ (by omega)]; omega
        have hqn : q < n := by have := HBD.out; have := HPP.out; omega
        have hcn : c < n := by have := HBD.out; omega
        have HC := Lib.hid hc
        have HQ := Lib.hid hq
        clear hc hq
        obtain ⟨x, hx⟩ : ∃ x, g q = x := ⟨_, rfl⟩
        obtain ⟨y, hy⟩ : ∃ y, g c = y := ⟨_, rfl⟩
        have x0 := HM.out.c0 (p := q) hqn
        have x1 := HM.out.c1 (p := q) hqn
        have y0 := HM.out.c0 (p := c) hcn
        have y1 := HM.out.c1 (p := c) hcn
        rw [hx] at x0 x1
        rw [hy] at y0 y1
        have HX := Lib.hid hx
        have HY := Lib.hid hy
        have t2 : (0 : Int) ≤ (q : Int) := by omega
        have t3 : (q : Int) < (n : Int) := by omega
        have t4 : (0 : Int) ≤ (c : Int) := by omega
        have t5 : (c : Int) < (n : Int) := by omega
        have KB := Lib.hid (show ∀ w w', Below w.heap.size w w' → (fun W' => W'.cell? ⟨B, q * 2, none⟩ = some (.int .i64 x.f0) ∧ W'.cell? ⟨B, q * 2 + 1, none⟩ = some (.int .i64 x.f1) ∧ W'.cell? ⟨B, c * 2, none⟩ = some (.int .i64 y.f0) ∧ W'.cell? ⟨B, c * 2 + 1, none⟩ = some (.int .i64 y.f1) ∧ Hid (MRow SZ W' B n g ∧ W.grownBy W' (some B))) w → (fun W' => W'.cell? ⟨B, q * 2, none⟩ = some (.int .i64 x.f0) ∧ W'.cell? ⟨B, q * 2 + 1, none⟩ = some (.int .i64 x.f1) ∧ W'.cell? ⟨B, c * 2, none⟩ = some (.int .i64 y.f0) ∧ W'.cell? ⟨B, c * 2 + 1, none⟩ = some (.int .i64 y.f1) ∧ Hid (MRow SZ W' B n g ∧ W.grownBy W' (some B))) w' from by
          rintro w w' hb ⟨a1, a2, a3, a4, a5⟩
          exact ⟨pw_cell_below hb a1, pw_cell_below hb a2, pw_cell_below hb a3, pw_cell_below hb a4, Lib.hid ⟨a5.out.1.below hb, grownT a5.out.2 (grownB hb _)⟩⟩)
        have SH := KB.out wr wr.drew (Below.drew (Below.refl _ _)) ⟨x0, x1, y0, y1, Lib.hid ⟨HM.out, HG.out⟩⟩
        clear hx hy x0 x1 y0 y1
        go_wp2_with fail
        go_region_held3 (fun W' => W'.cell? ⟨B, q * 2, none⟩ = some (.int .i64 x.f0) ∧ W'.cell? ⟨B, q * 2 + 1, none⟩ = some (.int .i64 x.f1) ∧ W'.cell? ⟨B, c * 2, none⟩ = some (.int .i64 y.f0) ∧ W'.cell? ⟨B, c * 2 + 1, none⟩ = some (.int .i64 y.f1) ∧ Hid (MRow SZ W' B n g ∧ W.grownBy W' (some B))) (first | assumption | exact KB.out _ _ (by assumption) (by assumption))
          ((go_at_call 35; refine (cmp_calls x y _).mono ?_; rintro e w' ⟨rfl, hd⟩))
        rename_i hH
        obtain ⟨x0, x1, y0, y1, hq⟩ := hH
        have HM4 := Lib.hid hq.out.1
        have HG4 := Lib.hid hq.out.2
        clear hq SH KB x0 x1 y0 y1
        have hcmp := cmpI_neg x.f0 y.f0
        obtain ⟨cv, hcv⟩ : ∃ cv, cmpI x.f0 y.f0 = cv := ⟨_, rfl⟩
        rw [hcv] at hcmp ⊢
        clear hcv
        by_cases hlt2 : x.f0 < y.f0
        · rw [decide_eq_true hlt2] at hcmp
          rw [hcmp, Bool.not_true]
          have HB2 := Lib.hid (show (s = a ∨ (g (s - 1)).f0 ≤ (g (nn - s)).f0) ∧ (c = m ∨ (g (nn - 1 - c)).f0 < (g c).f0) from ⟨HB.out.1, .inr (by rw [HQ.out, HX.out, HY.out]; exact hlt2)⟩)
          clear hlt2 hcmp
          go_wp2_with fail
          go_roundg (c - s)
          case measure => omega
          case rel => exact ⟨s, c, rfl, rfl, rfl, by omega, by omega, by omega, HM4, HB2, HG4⟩
        · rw [decide_eq_false hlt2] at hcmp
          rw [hcmp, Bool.not_false]
          have HB2 := Lib.hid (show (c + 1 = a ∨ (g (c + 1 - 1)).f0 ≤ (g (nn - (c + 1))).f0) ∧ (r = m ∨ (g (nn - 1 - r)).f0 < (g r).f0) from ⟨.inr (by
            rw [Nat.add_sub_cancel, show nn - (c + 1) = q by have := HQ.out; omega, HX.out, HY.out]
            omega), HB.out.2⟩)
          clear hlt2 hcmp
          go_wp2_with fail
          go_roundg (r - (c + 1))
          case measure => omega
          case rel => exact ⟨c + 1, r, rfl, by go_num, rfl, by omega, by omega, by omega, HM4, HB2, HG4⟩
      · obtain rfl : s = r := by omega
        have d0 : decide ((s : Int) < (s : Int)) = false := by simp
        obtain ⟨e, he⟩ : ∃ e, nn - s = e := ⟨_, rfl⟩
        have t0 : (nn : Int) - (s : Int) = (e : Int) := by have := HBD.out; omega
        have HE := Lib.hid he
        have HSE := Lib.hid (show a ≤ s ∧ s ≤ m ∧ m ≤ e ∧ e ≤ b ∧ s + (e - m) = mid ∧ mid ≤ e ∧ s ≤ mid by have := HBD.out; have := HMID.out; omega)
        have HCUT := Lib.hid (show Cut g (rotF g s m e) a s mid e b from by
          obtain ⟨k1, k2, k3, k4, k5, _, _⟩ := HSE.out
          have hbd := HBD.out
          have hmd := HMID.out
          refine merge_cut k1 k2 k3 k4 k5 HU1.out HU2'.out ?_ ?_
          · rcases HB.out.1 with h | h
            · rcases hbd.2 with ⟨_, h5, _⟩ | ⟨_, h5, _⟩
              · exact .inr (.inl (by omega))
              · exact .inl (by omega)
            · exact .inr (.inr (by rw [he] at h; exact h))
          · rcases HB.out.2 with h | h
            · rcases hbd.2 with ⟨_, _, h5⟩ | ⟨_, _, h5⟩
              · exact .inr (.inl (by omega))
              · exact .inl (by omega)
            · exact .inr (.inr (by rw [show nn - 1 - s = e - 1 by omega] at h; exact h)))
        clear he HB hlt
        clear d0
        obtain ⟨wt, hwt⟩ : ∃ wt, wr = wt := ⟨_, rfl⟩
        rw [hwt] at HM HG
        rw [hwt]
        clear hwt
        go_upto_region 39 with fail
        go_cut [185] from 178 to 185 (fun v wx => v = .bool (decide (s < m) && decide (m < e)) ∧ wt = wx)
        case first =>
          by_cases hz1 : s < m
          · have z1 : decide ((s : Int) < (m : Int)) = true := decide_eq_true (by omega)
            have z1' : decide (s < m) = true := decide_eq_true hz1
            by_cases hz2 : m < e
            · have z2 : decide ((m : Int) < (e : Int)) = true := decide_eq_true (by omega)
              have z2' : decide (m < e) = true := decide_eq_true hz2
              go_wp2_with fail
              go_meet
              exact ⟨by rw [z1', z2']; rfl, rfl⟩
            · have z2 : decide ((m : Int) < (e : Int)) = false := decide_eq_false (by omega)
              have z2' : decide (m < e) = false := decide_eq_false hz2
              go_wp2_with fail
              go_meet
              exact ⟨by rw [z1', z2']; rfl, rfl⟩
          · have z1 : decide ((s : Int) < (m : Int)) = false := decide_eq_false (by omega)
            have z1' : decide (s < m) = false := decide_eq_false hz1
            go_wp2_with fail
            go_meet
            exact ⟨by rw [z1']; rfl, rfl⟩
        case rest =>
          obtain ⟨rfl, rfl⟩ := hcut
          go_upto_if 185 with fail
          go_cut [] from 185 to 191 (fun wx => Hid (MRow SZ wx B n (rotF g s m e)) ∧ Hid (W.grownBy wx (some B)))
          case first =>
            by_cases hrot : s < m ∧ m < e
            · have HROT := Lib.hid hrot
              rw [decide_eq_true hrot.1, decide_eq_true hrot.2, Bool.and_true]
              clear hrot
              go_wp2_with fail
              refine (rot_calls HM.out hn HROT.out.1 HROT.out.2 (by have := HSE.out; omega) fcmp).mono ?_
              rintro e5 w5 ⟨⟨v5, rfl⟩, hm5, hg5⟩
              have HM5 := Lib.hid hm5
              have HG5 := Lib.hid (grownT HG.out hg5)
              clear hm5 hg5
              go_wp2_with fail
              go_meet
              exact ⟨HM5, HG5⟩
            · have hbb : (decide (s < m) && decide (m < e)) = false := by
                rw [Bool.and_eq_false_iff, decide_eq_false_iff_not, decide_eq_false_iff_not]; omega
              rw [hbb]
              have HM5 := Lib.hid (show MRow SZ wt B n (rotF g s m e) by rw [rotF_self g (by have := HSE.out; omega) (by have := HSE.out; omega) (by have := HSE.out; omega)]; exact HM.out)
              clear hrot hbb
              go_wp2_with fail
              go_meet
              exact ⟨HM5, HG⟩
          case rest =>
            obtain ⟨HM5, HG5⟩ := hcut
            obtain ⟨wu, hwu⟩ : ∃ wu, wc = wu := ⟨_, rfl⟩
            rw [hwu] at HM5 HG5
            rw [hwu]
            clear hwu
            go_upto_region 41 with fail
            go_cut [199] from 192 to 199 (fun v wx => v = .bool (decide (a < s) && decide (s < mid)) ∧ wu = wx)
            case first =>
              by_cases hz1 : a < s
              · have z1 : decide ((a : Int) < (s : Int)) = true := decide_eq_true (by omega)
                have z1' : decide (a < s) = true := decide_eq_true hz1
                by_cases hz2 : s < mid
                · have z2 : decide ((s : Int) < (mid : Int)) = true := decide_eq_true (by omega)
                  have z2' : decide (s < mid) = true := decide_eq_true hz2
                  go_wp2_with fail
                  go_meet
                  exact ⟨by rw [z1', z2']; rfl, rfl⟩
                · have z2 : decide ((s : Int) < (mid : Int)) = false := decide_eq_false (by omega)
                  have z2' : decide (s < mid) = false := decide_eq_false hz2
                  go_wp2_with fail
                  go_meet
                  exact ⟨by rw [z1', z2']; rfl, rfl⟩
              · have z1 : decide ((a : Int) < (s : Int)) = false := decide_eq_false (by omega)
                have z1' : decide (a < s) = false := decide_eq_false hz1
                go_wp2_with fail
                go_meet
                exact ⟨by rw [z1']; rfl, rfl⟩
            case rest =>
              obtain ⟨rfl, rfl⟩ := hcut
              go_upto_if 199 with fail
              go_cut [] from 199 to 205 (fun wx => ∃ g2, Hid (MRow SZ wx B n g2) ∧ Hid (Stb (rotF g s m e) g2 a mid) ∧ Hid (Up g2 a mid) ∧ Hid (W.grownBy wx (some B)))
              case first =>
                by_cases hl : a < s ∧ s < mid
                · have HL := Lib.hid hl
                  rw [decide_eq_true hl.1, decide_eq_true hl.2, Bool.and_true]
                  clear hl
                  go_wp2_with fail
                  refine (ih _ B n cap _ a s mid HM5.out hn HL.out.1 HL.out.2 (by have := HMID.out; omega) (by have := HMID.out; omega) HCUT.out.u1 HCUT.out.u2).mono ?_
                  rintro e6 w6 ⟨⟨v6, rfl⟩, g2, hm6, hs6, hu6, hg6⟩
                  have HM6 := Lib.hid hm6
                  have HS2 := Lib.hid hs6
                  have HU2 := Lib.hid hu6
                  have HG6 := Lib.hid (grownT HG5.out hg6)
                  clear hm6 hs6 hu6 hg6
                  go_wp2_with fail
                  go_meet
                  exact ⟨g2, HM6, HS2, HU2, HG6⟩
                · have hbb : (decide (a < s) && decide (s < mid)) = false := by
                    rw [Bool.and_eq_false_iff, decide_eq_false_iff_not, decide_eq_false_iff_not]; omega
                  rw [hbb]
                  have HU2 := Lib.hid (show Up (rotF g s m e) a mid from by
                    have hmd := HMID.out
                    have hsa := HSE.out
                    rcases Nat.lt_or_ge a s with hx | hx
                    · have h9 := HCUT.out.u1
                      have e9 : s = mid := by omega
                      exact fun p q x y z => h9 p q x y (by omega)
                    · have h9 := HCUT.out.u2
                      have e9 : s = a := by omega
                      exact fun p q x y z => h9 p q (by omega) y z)
                  clear hl hbb
                  go_wp2_with fail
                  go_meet
                  exact ⟨_, HM5, Lib.hid (Stb.refl _ _ _), HU2, HG5⟩
              case rest =>
                obtain ⟨g2, HM6, HS2, HU2, HG6⟩ := hcut
                obtain ⟨wv, hwv⟩ : ∃ wv, wc = wv := ⟨_, rfl⟩
                rw [hwv] at HM6 HG6
                rw [hwv]
                clear hwv
                go_upto_region 43 with fail
                go_cut [213] from 206 to 213 (fun v wx => v = .bool (decide (mid < e) && decide (e < b)) ∧ wv = wx)
                case first =>
                  by_cases hz1 : mid < e
                  · have z1 : decide ((mid : Int) < (e : Int)) = true := decide_eq_true (by omega)
                    have z1' : decide (mid < e) = true := decide_eq_true hz1
                    by_cases hz2 : e < b
                    · have z2 : decide ((e : Int) < (b : Int)) = true := decide_eq_true (by omega)
                      have z2' : decide (e < b) = true := decide_eq_true hz2
                      go_wp2_with fail
                      go_meet
                      exact ⟨by rw [z1', z2']; rfl, rfl⟩
                    · have z2 : decide ((e : Int) < (b : Int)) = false := decide_eq_false (by omega)
                      have z2' : decide (e < b) = false := decide_eq_false hz2
                      go_wp2_with fail
                      go_meet
                      exact ⟨by rw [z1', z2']; rfl, rfl⟩
                  · have z1 : decide ((mid : Int) < (e : Int)) = false := decide_eq_false (by omega)
                    have z1' : decide (mid < e) = false := decide_eq_false hz1
                    go_wp2_with fail
                    go_meet
                    exact ⟨by rw [z1']; rfl, rfl⟩
                case rest =>
                  obtain ⟨rfl, rfl⟩ := hcut
                  by_cases hr : mid < e ∧ e < b
                  · have HR := Lib.hid hr
                    rw [decide_eq_true hr.1, decide_eq_true hr.2, Bool.and_true]
                    clear hr
                    go_wp2_with fail
                    refine (ih _ B n cap _ mid e b HM6.out hn HR.out.1 HR.out.2 h3 (by have := HSE.out; have := HMID.out; omega) (HCUT.out.u3.of (fun p x _ => HS2.out.out p (.inr x))) (HCUT.out.u4.of (fun p x _ => HS2.out.out p (.inr (by have := HR.out; omega))))).mono ?_
                    rintro e7 w7 ⟨⟨v7, rfl⟩, g3, hm7, hs7, hu7, hg7⟩
                    have HM7 := Lib.hid hm7
                    have HS3 := Lib.hid hs7
                    have HU3 := Lib.hid hu7
                    have HG7 := Lib.hid (grownT HG6.out hg7)
                    clear hm7 hs7 hu7 hg7
                    have hj := Lib.hid (merge_join (show a ≤ mid by have := HMID.out; omega) (show mid ≤ b by have := HMID.out; omega) HCUT.out HS2.out HU2.out HS3.out HU3.out)
                    go_wp2_with fail
                    go_end0
                    exact ⟨⟨_, rfl⟩, _, HM7.out, hj.out.1, hj.out.2, HG7.out⟩
                  · have hbb : (decide (mid < e) && decide (e < b)) = false := by
                      rw [Bool.and_eq_false_iff, decide_eq_false_iff_not, decide_eq_false_iff_not]; omega
                    rw [hbb]
                    have HU3 := Lib.hid (show Up g2 mid b from by
                      have hmd := HMID.out
                      have hsa := HSE.out
                      rcases Nat.lt_or_ge mid e with hx | hx
                      · have h9 := HCUT.out.u3
                        have e9 : e = b := by omega
                        exact Up.of (g := rotF g s m e) (fun p q x y z => h9 p q x y (by omega)) (fun p x _ => HS2.out.out p (.inr x))
                      · have h9 := HCUT.out.u4
                        have e9 : e = mid := by omega
                        exact Up.of (g := rotF g s m e) (fun p q x y z => h9 p q (by omega) y z) (fun p x _ => HS2.out.out p (.inr x)))
                    clear hr hbb
                    have hj := Lib.hid (merge_join (show a ≤ mid by have := HMID.out; omega) (show mid ≤ b by have := HMID.out; omega) HCUT.out HS2.out HU2.out (Stb.refl _ _ _) HU3.out)
                    go_wp2_with fail
                    go_end0
                    exact ⟨⟨_, rfl⟩, _, HM6.out, hj.out.1, hj.out.2, HG6.out⟩
theorem sym_ok : ∀ N, SymOK SZ N
  | 0 => fun W B n cap g a m b h hn h1 h2 h3 hN hu hu' => by omega
  | N + 1 => fun W B n cap g a m b h hn h1 h2 h3 hN hu hu' => by
    rcases Nat.lt_or_ge (a + 1) m with ha | ha
    · rcases Nat.lt_or_ge (m + 1) b with hb | hb
      · exact symC_calls N (sym_ok N) h hn ha hb h3 hN hu hu'
      · obtain rfl : b = m + 1 := by omega
        exact symB_calls h hn ha h3 hu
    · obtain rfl : m = a + 1 := by omega
      exact symA_calls h hn h2 h3 hu'
theorem sym_calls {W : World} {B n cap : Nat} {g : Nat → S49} (h : MRow SZ W B n g) (hn : n ≤ 100000) {a m b : Nat} (h1 : a < m) (h2 : m < b) (h3 : b ≤ n) (hu : Up g a m) (hu' : Up g m b) :
    Calls Try.prog 60 #[.slice (some ⟨B, 0, none⟩) n cap, .int .i64 a, .int .i64 m, .int .i64 b, fcmp] W fun e w' => (∃ v, e = .returned v) ∧ ∃ g', MRow SZ w' B n g' ∧ Stb g g' a b ∧ Up g' a b ∧ W.grownBy w' (some B) :=
  sym_ok (b - a) W B n cap g a m b h hn h1 h2 h3 (Nat.le_refl _) hu hu'
end Go.Proofs.Yteojldbfebnccaa
