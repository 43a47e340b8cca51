/- The stable sort of moves: blocks are sorted, then merged. -/
import Derived.Test.YteojldbfebnccaaRSymC
namespace Go.Proofs.Yteojldbfebnccaa
open Go.RowKit Go.Proofs.YteojldbfebnccaaW Go.Proofs.YteojldbfebnccaaW.PrintWords
set_option linter.unusedVariables false
set_option linter.unusedSimpArgs false
set_option maxRecDepth 100000
variable {SZ : Nat}
theorem dvd_gap {d s a : Nat} (h1 : d ∣ s) (h2 : d ∣ a) (h : s < a) : s + d ≤ a := by
  obtain ⟨x, rfl⟩ := h1
  obtain ⟨y, rfl⟩ := h2
  have hxy : x < y := Nat.lt_of_mul_lt_mul_left h
  have := Nat.mul_le_mul_left d (show x + 1 ≤ y from hxy)
  rw [Nat.mul_add, Nat.mul_one] at this
  exact this
theorem Up.nil (g : Nat → S49) {a b : Nat} (h : b ≤ a) : Up g a b := fun p q x y z => by omega
/-- runs of d elements -/
def Runs (h : Nat → S49) (d n : Nat) : Prop := ∀ s, d ∣ s → Up h s (min (s + d) n)
/-- the first loop: up to a runs of d are sorted -/
def Some1 (h : Nat → S49) (d a : Nat) : Prop := ∀ s, d ∣ s → s < a → Up h s (s + d)
theorem Some1.step {h h' : Nat → S49} {d a : Nat} (hd : d ∣ a) (H : Some1 h d a) (hs : Stb h h' a (a + d)) (hu : Up h' a (a + d)) : Some1 h' d (a + d) := fun s hs1 hs2 => by
  rcases Nat.lt_trichotomy s a with hl | he | hg
  · have := dvd_gap hs1 hd hl
    exact (H s hs1 hl).of (fun p x y => hs.out p (by omega))
  · subst he; exact hu
  · have := dvd_gap hd hs1 hg; omega
theorem Some1.runs {h h' : Nat → S49} {d a n : Nat} (hd : d ∣ a) (ha : a ≤ n) (hb : n < a + d) (H : Some1 h d a) (hs : Stb h h' a n) (hu : Up h' a n) : Runs h' d n := fun s hs1 => by
  rcases Nat.lt_trichotomy s a with hl | he | hg
  · have := dvd_gap hs1 hd hl
    rw [show min (s + d) n = s + d by omega]
    exact (H s hs1 hl).of (fun p x y => hs.out p (by omega))
  · subst he; rw [show min (s + d) n = n by omega]; exact hu
  · have := dvd_gap hd hs1 hg; exact Up.nil _ (by omega)
/-- the inner loop: up to a the runs are merged in pairs -/
structure Pairs (h : Nat → S49) (d a n : Nat) : Prop where
  done : ∀ s, 2 * d ∣ s → s < a → Up h s (s + 2 * d)
  rest : ∀ s, d ∣ s → a ≤ s → Up h s (min (s + d) n)
theorem dvd_of2 {d a : Nat} (h : 2 * d ∣ a) : d ∣ a := Nat.dvd_trans ⟨2, by omega⟩ h
theorem Pairs.start {h : Nat → S49} {d n : Nat} (H : Runs h d n) : Pairs h d 0 n := ⟨fun s _ hs => by omega, fun s h1 _ => H s h1⟩
theorem Pairs.left {h : Nat → S49} {d a n : Nat} (H : Pairs h d a n) (hd : 2 * d ∣ a) (hb : a + d ≤ n) : Up h a (a + d) := by
  have := H.rest a (dvd_of2 hd) (Nat.le_refl _)
  rwa [show min (a + d) n = a + d by omega] at this
theorem Pairs.right {h : Nat → S49} {d a n : Nat} (H : Pairs h d a n) (hd : 2 * d ∣ a) : Up h (a + d) (min (a + d + d) n) := H.rest (a + d) (Nat.dvd_add (dvd_of2 hd) (Nat.dvd_refl _)) (by omega)
theorem Pairs.step {h h' : Nat → S49} {d a n : Nat} (H : Pairs h d a n) (hd : 2 * d ∣ a) (hs : Stb h h' a (a + 2 * d)) (hu : Up h' a (a + 2 * d)) : Pairs h' d (a + 2 * d) n := by
  refine ⟨fun s h1 h2 => ?_, fun s h1 h2 => (H.rest s h1 (by omega)).of (fun p x y => hs.out p (by omega))⟩
  rcases Nat.lt_trichotomy s a with hl | he | hg
  · have := dvd_gap h1 hd hl
    exact (H.done s h1 hl).of (fun p x y => hs.out p (by omega))
  · subst he; exact hu
  · have := dvd_gap hd h1 hg; omega
theorem Pairs.over {h h' : Nat → S49} {d a n : Nat} (H : Pairs h d a n) (hd : 2 * d ∣ a) (ha : a ≤ n) (hb : n < a + 2 * d) (hs : Stb h h' a n) (hu : Up h' a n) : Runs h' (2 * d) n := fun s h1 => by
  rcases Nat.lt_trichotomy s a with hl | he | hg
  · have := dvd_gap h1 hd hl
    rw [show min (s + 2 * d) n = s + 2 * d by omega]
    exact (H.done s h1 hl).of (fun p x y => hs.out p (by omega))
  · subst he; rw [show min (s + 2 * d) n = n by omega]; exact hu
  · have := dvd_gap hd h1 hg; exact Up.nil _ (by omega)
theorem Stb.all {g g' : Nat → S49} {a b n : Nat} (h : Stb g g' a b) (h1 : a ≤ b) (h2 : b ≤ n) : Stb g g' 0 n := h.wide (by omega) h1 h2
set_option maxHeartbeats 16000000 in
theorem stb_calls {W : World} {B n cap : Nat} {g : Nat → S49} (h : MRow SZ W B n g) (hn : n ≤ 100000) :
    Calls Try.prog 51 #[.slice (some ⟨B, 0, none⟩) n cap, .int .i64 n, fcmp] W fun e w' => (∃ v, e = .returned v) ∧ ∃ g', MRow SZ w' B n g' ∧ Stb g g' 0 n ∧ Up g' 0 n ∧ W.grownBy w' (some B) := by
  have HM := Lib.hid h
  clear h
  have hn3 : (n : Int) ≤ 100000 := by omega
  go_enter Try.func51, Try.ntmps51
  go_wp2_with fail
  go_loopg [7, 8] (n + 20) (fun kq v7 v8 wr => ∃ (a b : Nat) (h : Nat → S49), kq = n + 20 - a ∧ v7 = .int .i64 a ∧ v8 = .int .i64 b ∧ a + 20 = b ∧ a ≤ n ∧ Hid (20 ∣ a) ∧ Hid (MRow SZ wr B n h) ∧ Hid (Stb g h 0 n) ∧ Hid (Some1 h 20 a) ∧ Hid (W.grownBy wr (some B)))
  case atStart => exact ⟨0, 20, g, rfl, rfl, rfl, rfl, Nat.zero_le _, Lib.hid ⟨0, rfl⟩, HM, Lib.hid (Stb.refl _ _ _), Lib.hid (fun s _ hs => by omega), Lib.hid (grownR _ _)⟩
  case round =>
    clear HM
    obtain ⟨a, b, h, hkq, rfl, rfl, hab, han, HD, HM, HS, HO, HG⟩ := hrel
    have HAB := Lib.hid hab
    have hb3 : (b : Int) ≤ 100020 := by omega
    have ha3 : (a : Int) ≤ 100000 := by omega
    clear hab
    by_cases hbn : b ≤ n
    · have d0 : decide ((b : Int) ≤ (n : Int)) = true := decide_eq_true (by omega)
      go_wp2_with fail
      refine (ins_calls HM.out hn (a := a) (b := b) (by have := HAB.out; omega) hbn).mono ?_
      rintro e w2 ⟨⟨v, rfl⟩, h2, hm2, hs2, hu2, hg2⟩
      have HM2 := Lib.hid hm2
      have HS2 := Lib.hid (HS.out.trans (hs2.all (by have := HAB.out; omega) hbn))
      have HO2 := Lib.hid (show Some1 h2 20 b by rw [← HAB.out] at hs2 hu2 ⊢; exact HO.out.step HD.out hs2 hu2)
      have HG2 := Lib.hid (grownT HG.out hg2)
      have HD2 := Lib.hid (show 20 ∣ b by rw [← HAB.out]; exact Nat.dvd_add HD.out (Nat.dvd_refl _))
      clear hm2 hs2 hu2 hg2
      go_wp2_with fail
      go_roundg (n + 20 - b)
      case measure => have := HAB.out; omega
      case rel => exact ⟨b, b + 20, h2, rfl, rfl, by go_num, rfl, hbn, HD2, HM2, HS2, HO2, HG2⟩
    · have d0 : decide ((b : Int) ≤ (n : Int)) = false := decide_eq_false (by omega)
      go_wp2_with fail
      refine (ins_calls HM.out hn (a := a) (b := n) han (Nat.le_refl _)).mono ?_
      rintro e w2 ⟨⟨v, rfl⟩, h2, hm2, hs2, hu2, hg2⟩
      have HM2 := Lib.hid hm2
      have HS2 := Lib.hid (HS.out.trans (hs2.all han (Nat.le_refl _)))
      have HR2 := Lib.hid (show Runs h2 20 n from HO.out.runs HD.out han (by have := HAB.out; omega) hs2 hu2)
      have HG2 := Lib.hid (grownT HG.out hg2)
      clear hm2 hs2 hu2 hg2 HM HS HO HG
      go_wp2_with fail
      obtain ⟨wo, hwo⟩ : ∃ wo : World, wo = wr := ⟨_, rfl⟩
      clear hwo
      go_loopg [6, 7, 8, 9] (n - 20) (fun kq v6 v7 v8 v9 wx => ∃ (d : Nat) (h : Nat → S49), kq = n - d ∧ v6 = .int .i64 d ∧ 20 ≤ d ∧ d ≤ 200020 ∧ Hid (MRow SZ wx B n h) ∧ Hid (Stb g h 0 n) ∧ Hid (Runs h d n) ∧ Hid (W.grownBy wx (some B)))
      case atStart => exact ⟨20, h2, rfl, rfl, by omega, by omega, HM2, HS2, HR2, HG2⟩
      case round =>
        clear HM2 HS2 HR2 HG2
        obtain ⟨d, h3, hkq2, rfl, hd1, hd2, HM, HS, HR, HG⟩ := hrel
        have hd3 : (d : Int) ≤ 200020 := by omega
        have hd4 : (20 : Int) ≤ (d : Int) := by omega
        by_cases hdn : d < n
        · have d1 : decide ((d : Int) < (n : Int)) = true := decide_eq_true (by omega)
          obtain ⟨D, hD⟩ : ∃ D, 2 * d = D := ⟨_, rfl⟩
          have s0 : (2 : Int) * (d : Int) = (D : Int) := by omega
          have s1 : (d : Int) * 2 = (D : Int) := by omega
          have hD3 : (D : Int) ≤ 200000 := by omega
          have HDD := Lib.hid hD
          have HPS := Lib.hid (Pairs.start HR.out)
          clear hD HR
          go_wp2_with fail
          obtain ⟨wo2, hwo⟩ : ∃ wo2 : World, wo2 = wr := ⟨_, rfl⟩
          clear hwo
          go_loopg [7, 8] (n + D) (fun kq v7 v8 wx => ∃ (a b : Nat) (h : Nat → S49), kq = n + D - a ∧ v7 = .int .i64 a ∧ v8 = .int .i64 b ∧ Hid (a + D = b) ∧ a ≤ n ∧ Hid (D ∣ a) ∧ Hid (MRow SZ wx B n h) ∧ Hid (Stb g h 0 n) ∧ Hid (Pairs h d a n) ∧ Hid (W.grownBy wx (some B)))
          case atStart => exact ⟨0, D, h3, rfl, rfl, rfl, Lib.hid (Nat.zero_add _), Nat.zero_le _, Lib.hid ⟨0, rfl⟩, HM, HS, HPS, HG⟩
          case round =>
            clear HM HS HPS HG
            obtain ⟨a, b, h, hkq3, rfl, rfl, HAB, han, HDV, HM, HS, HP, HG⟩ := hrel
            have ha3 : (a : Int) ≤ 100000 := by omega
            have hb3 : (b : Int) ≤ 300000 := by have := HAB.out; omega
            obtain ⟨m, hm⟩ : ∃ m, a + d = m := ⟨_, rfl⟩
            have s2 : (a : Int) + (d : Int) = (m : Int) := by omega
            have hm3 : (m : Int) ≤ 300000 := by omega
            have HMA := Lib.hid hm
            have HDV2 := Lib.hid (show 2 * d ∣ a by rw [HDD.out]; exact HDV.out)
            clear hm
            by_cases hbn : b ≤ n
            · have d2 : decide ((b : Int) ≤ (n : Int)) = true := decide_eq_true (by omega)
              have HUL := Lib.hid (show Up h a m by rw [← HMA.out]; exact HP.out.left HDV2.out (by have := HAB.out; have := HDD.out; omega))
              have HUR := Lib.hid (show Up h m b by
                have := HP.out.right HDV2.out
                rwa [show min (a + d + d) n = b by have := HAB.out; have := HDD.out; omega, HMA.out] at this)
              go_wp2_with fail
              refine (sym_calls HM.out hn (a := a) (m := m) (b := b) (by have := HMA.out; omega) (by have := HMA.out; have := HAB.out; have := HDD.out; omega) hbn HUL.out HUR.out).mono ?_
              rintro e w4 ⟨⟨v, rfl⟩, h4, hm4, hs4, hu4, hg4⟩
              have HM4 := Lib.hid hm4
              have HS4 := Lib.hid (HS.out.trans (hs4.all (by have := HAB.out; omega) hbn))
              have HP4 := Lib.hid (show Pairs h4 d b n by
                have e : a + 2 * d = b := by have := HAB.out; have := HDD.out; omega
                rw [← e] at hs4 hu4 ⊢
                exact HP.out.step HDV2.out hs4 hu4)
              have HG4 := Lib.hid (grownT HG.out hg4)
              have HDV4 := Lib.hid (show D ∣ b by rw [← HAB.out]; exact Nat.dvd_add HDV.out (Nat.dvd_refl _))
              clear hm4 hs4 hu4 hg4 HUL HUR
              go_wp2_with fail
              go_roundg (n + D - b)
              case measure => have := HAB.out; omega
              case rel => exact ⟨b, b + D, h4, rfl, rfl, by go_num, Lib.hid rfl, hbn, HDV4, HM4, HS4, HP4, HG4⟩
            · have d2 : decide ((b : Int) ≤ (n : Int)) = false := decide_eq_false (by omega)
              by_cases hmn : m < n
              · have d3 : decide ((m : Int) < (n : Int)) = true := decide_eq_true (by omega)
                have HUL := Lib.hid (show Up h a m by rw [← HMA.out]; exact HP.out.left HDV2.out (by have := HMA.out; omega))
                have HUR := Lib.hid (show Up h m n by
                  have := HP.out.right HDV2.out
                  rwa [show min (a + d + d) n = n by have := HAB.out; have := HDD.out; omega, HMA.out] at this)
                go_wp2_with fail
                refine (sym_calls HM.out hn (a := a) (m := m) (b := n) (by have := HMA.out; omega) hmn (Nat.le_refl _) HUL.out HUR.out).mono ?_
                rintro e w4 ⟨⟨v, rfl⟩, h4, hm4, hs4, hu4, hg4⟩
                have HM4 := Lib.hid hm4
                have HS4 := Lib.hid (HS.out.trans (hs4.all han (Nat.le_refl _)))
                have HR4 := Lib.hid (show Runs h4 D n by
                  rw [← HDD.out]
                  exact HP.out.over HDV2.out han (by have := HAB.out; have := HDD.out; omega) hs4 hu4)
                have HG4 := Lib.hid (grownT HG.out hg4)
                clear hm4 hs4 hu4 hg4 HUL HUR
                go_wp2_with fail
                go_roundg (n - D)
                case measure => have := HDD.out; omega
                case rel => exact ⟨D, h4, rfl, rfl, by have := HDD.out; omega, by have := HDD.out; omega, HM4, HS4, HR4, HG4⟩
              · have d3 : decide ((m : Int) < (n : Int)) = false := decide_eq_false (by omega)
                have HR4 := Lib.hid (show Runs h D n by
                  rw [← HDD.out]
                  refine HP.out.over HDV2.out han (by have := HAB.out; have := HDD.out; omega) (Stb.refl _ _ _) ?_
                  have := HP.out.rest a (dvd_of2 HDV2.out) (Nat.le_refl _)
                  rwa [show min (a + d) n = n by have := HMA.out; omega] at this)
                go_wp2_with fail
                go_roundg (n - D)
                case measure => have := HDD.out; omega
                case rel => exact ⟨D, h, rfl, rfl, by have := HDD.out; omega, by have := HDD.out; omega, HM, HS, HR4, HG⟩
        · have d1 : decide ((d : Int) < (n : Int)) = false := decide_eq_false (by omega)
          go_wp2_with fail
          go_end0
          refine ⟨⟨_, rfl⟩, h3, HM.out, HS.out, ?_, HG.out⟩
          have := HR.out 0 ⟨0, rfl⟩
          rwa [show min (0 + d) n = n by omega] at this
end Go.Proofs.Yteojldbfebnccaa
