/- heap.down: what it keeps. -/
import Derived.Test.YtfkbiecbnjddmaaLUp
namespace Go.Proofs.Ytfkbiecbnjddmaa
open Go.RowKit Go.MapKept Go.ChangeMaps Go.Proofs.YtfkbiecbnjddmaaW.PrintWords
set_option linter.unusedVariables false
set_option maxHeartbeats 1000000
set_option maxRecDepth 100000
theorem down_calls {W : World} {s : St} {xs : List Lz} (h : Is W s xs) {i n : Nat} (hi : i ≤ 1000) (hn : n ≤ xs.length) (hl : xs.length ≤ 1000) (hu : DownF (ix xs) i i n) :
    Calls Try.prog 36 #[hv s, .int .i64 i, .int .i64 n] W fun e w' => ∃ b, e = .returned (.bool b) ∧ ∃ ys, Is w' s ys ∧ ys.Perm xs ∧ (∀ c, n ≤ c → ix ys c = ix xs c) ∧ (b = true → HeapF (ix ys) n) ∧ (b = false → UpF (ix ys) i n) ∧ Off s.foot W w' := by
  have H0 := Lib.hid (show ∃ ys, Is W s ys ∧ ys.Perm xs ∧ (∀ c, n ≤ c → ix ys c = ix xs c) ∧ DownF (ix ys) i i n ∧ Off s.foot W W from ⟨xs, h, .refl _, fun _ _ => rfl, hu, Off.refl _ _⟩)
  clear h hu
  unfold hv rowPtr
  go_enter Try.func36, Try.ntmps36
  go_wp2_with fail
  go_loopw [7] (fun v1 wr => ∃ c : Nat, v1 = .int .i64 c ∧ i ≤ c ∧ c ≤ 1000 ∧ Hid (∃ ys, Is wr s ys ∧ ys.Perm xs ∧ (∀ c, n ≤ c → ix ys c = ix xs c) ∧ DownF (ix ys) c i n ∧ Off s.foot W wr)) (fun v1 _ => 1000 - (intOf v1).toNat)
  case atStart => exact ⟨i, rfl, Nat.le_refl _, hi, H0⟩
  case round =>
    clear H0
    obtain ⟨c, rfl, hic, hc, HM⟩ := hrel
    obtain ⟨ys, hI, hP, hT, hU, hO⟩ := HM.out
    have hyl : ys.length = xs.length := hP.length_eq
    have HI := Lib.hid hI
    have HP := Lib.hid hP
    have HT := Lib.hid hT
    have HU := Lib.hid hU
    have HO := Lib.hid hO
    clear hI hP hT hU hO HM
    have e1 : IntKind.i64.wrap (2 * (c : Int)) = 2 * (c : Int) := by rw [IntKind.wrap_i64]; omega
    have e2 : IntKind.i64.wrap (2 * (c : Int) + 1) = 2 * (c : Int) + 1 := by rw [IntKind.wrap_i64]; omega
    have e3 : IntKind.i64.wrap (2 * (c : Int) + 1 + 1) = 2 * (c : Int) + 2 := by rw [IntKind.wrap_i64]; omega
    by_cases h1 : n ≤ 2 * c + 1
    · have g1 : decide (2 * (c : Int) + 1 ≥ (n : Int)) = true := decide_eq_true (by omega)
      go_wp2_with fail
      go_ret
      have hs : ∀ x, 0 < x → x < n → (x - 1) / 2 = c → le (ix ys c) (ix ys x) := fun x x0 xn xp => by omega
      refine ⟨_, rfl, ys, HI.out, HP.out, HT.out, ?_, ?_, HO.out⟩
      · intro hb
        have := of_decide_eq_true hb
        exact (HU.out.stop hs).1 (by omega)
      · intro hb
        have := of_decide_eq_false hb
        exact (HU.out.stop hs).2 (by omega)
    · have g1 : decide (2 * (c : Int) + 1 ≥ (n : Int)) = false := decide_eq_false (by omega)
      have g2 : decide (2 * (c : Int) + 1 < 0) = false := decide_eq_false (by omega)
      by_cases h2 : 2 * c + 2 < n
      · have g3 : decide (2 * (c : Int) + 2 < (n : Int)) = true := decide_eq_true (by omega)
        go_wp2_with fail
        rw [m_less]
        go_wp2_with fail
        refine (less_at HI.out (i := 2 * c + 2) (k := 2 * c + 1) (by omega) (by omega) (by omega) (by omega)).mono ?_
        rintro e w0 ⟨rfl, hb0⟩
        have HI0 := Lib.hid (HI.out.below hb0)
        have HO0 := Lib.hid (HO.out.of_below hb0)
        clear HI HO hb0
        have HI := HI0
        have HO := HO0
        clear HI0 HO0
        cases hlc : less (ix ys (2 * c + 2)) (ix ys (2 * c + 1)) with
        | true =>
          have HMIN := Lib.hid (show ∀ x, 0 < x → x < n → (x - 1) / 2 = c → le (ix ys (2 * c + 2)) (ix ys x) from fun x x0 xn xp => by
            rcases (by omega : x = 2 * c + 1 ∨ x = 2 * c + 2) with rfl | rfl
            · exact le_of_less hlc
            · exact le_refl _)
          clear hlc
          go_wp2_with fail
          cases hls : less (ix ys (2 * c + 2)) (ix ys c) with
          | false =>
            rw [m_less]
            go_wp2_with fail
            refine (less_at HI.out (i := 2 * c + 2) (k := c) (by omega) (by omega) (by omega) (by omega)).mono ?_
            rintro e w1 ⟨rfl, hb⟩
            rw [hls]
            have HI1 := Lib.hid (HI.out.below hb)
            have HO1 := Lib.hid (HO.out.of_below hb)
            have HLS := Lib.hid hls
            clear hb hls HI HO
            go_wp2_with fail
            go_ret
            refine ⟨_, rfl, ys, HI1.out, HP.out, HT.out, ?_, ?_, HO1.out⟩
            · intro hb
              have := of_decide_eq_true hb
              exact (HU.out.stop (fun x x0 xn xp => le_trans HLS.out (HMIN.out x x0 xn xp))).1 (by omega)
            · intro hb
              have := of_decide_eq_false hb
              exact (HU.out.stop (fun x x0 xn xp => le_trans HLS.out (HMIN.out x x0 xn xp))).2 (by omega)
          | true =>
            rw [m_less]
            go_wp2_with fail
            refine (less_at HI.out (i := 2 * c + 2) (k := c) (by omega) (by omega) (by omega) (by omega)).mono ?_
            rintro e w1 ⟨rfl, hb⟩
            rw [hls]
            have HI1 := Lib.hid (HI.out.below hb)
            have HO1 := Lib.hid (HO.out.of_below hb)
            have HLS := Lib.hid hls
            clear hb hls HI HO
            go_wp2_with fail
            rw [m_swap]
            go_wp2_with fail
            refine (swap_at' HI1.out (i := c) (k := 2 * c + 2) (by omega) (by omega) (by omega) (by omega)).mono ?_
            rintro e w2 ⟨rfl, hI2, hO2⟩
            have HI2 := Lib.hid hI2
            have HO2 := Lib.hid hO2
            clear hI2 hO2
            go_wp2_with fail
            go_roundw
            case rel =>
              refine ⟨2 * c + 2, by simp, by omega, by omega, swp ys c (2 * c + 2), HI2.out, (swp_perm (by omega) (by omega)).trans HP.out, fun x hx => ?_, ?_, HO1.out.trans HO2.out (fun _ h => .inl h)⟩
              · rw [swp_ix (by omega) (by omega), swap_at (by omega) (by omega)]
                exact HT.out x hx
              · rw [swp_ix (by omega) (by omega)]
                exact HU.out.step (by omega) (by omega) (by omega) (by omega) HLS.out HMIN.out
            case measure => simp [intOf]; omega
        | false =>
          have HMIN := Lib.hid (show ∀ x, 0 < x → x < n → (x - 1) / 2 = c → le (ix ys (2 * c + 1)) (ix ys x) from fun x x0 xn xp => by
            rcases (by omega : x = 2 * c + 1 ∨ x = 2 * c + 2) with rfl | rfl
            · exact le_refl _
            · exact hlc)
          clear hlc
          go_wp2_with fail
          cases hls : less (ix ys (2 * c + 1)) (ix ys c) with
          | false =>
            rw [m_less]
            go_wp2_with fail
            refine (less_at HI.out (i := 2 * c + 1) (k := c) (by omega) (by omega) (by omega) (by omega)).mono ?_
            rintro e w1 ⟨rfl, hb⟩
            rw [hls]
            have HI1 := Lib.hid (HI.out.below hb)
            have HO1 := Lib.hid (HO.out.of_below hb)
            have HLS := Lib.hid hls
            clear hb hls HI HO
            go_wp2_with fail
            go_ret
            refine ⟨_, rfl, ys, HI1.out, HP.out, HT.out, ?_, ?_, HO1.out⟩
            · intro hb
              have := of_decide_eq_true hb
              exact (HU.out.stop (fun x x0 xn xp => le_trans HLS.out (HMIN.out x x0 xn xp))).1 (by omega)
            · intro hb
              have := of_decide_eq_false hb
              exact (HU.out.stop (fun x x0 xn xp => le_trans HLS.out (HMIN.out x x0 xn xp))).2 (by omega)
          | true =>
            rw [m_less]
            go_wp2_with fail
            refine (less_at HI.out (i := 2 * c + 1) (k := c) (by omega) (by omega) (by omega) (by omega)).mono ?_
            rintro e w1 ⟨rfl, hb⟩
            rw [hls]
            have HI1 := Lib.hid (HI.out.below hb)
            have HO1 := Lib.hid (HO.out.of_below hb)
            have HLS := Lib.hid hls
            clear hb hls HI HO
            go_wp2_with fail
            rw [m_swap]
            go_wp2_with fail
            refine (swap_at' HI1.out (i := c) (k := 2 * c + 1) (by omega) (by omega) (by omega) (by omega)).mono ?_
            rintro e w2 ⟨rfl, hI2, hO2⟩
            have HI2 := Lib.hid hI2
            have HO2 := Lib.hid hO2
            clear hI2 hO2
            go_wp2_with fail
            go_roundw
            case rel =>
              refine ⟨2 * c + 1, by simp, by omega, by omega, swp ys c (2 * c + 1), HI2.out, (swp_perm (by omega) (by omega)).trans HP.out, fun x hx => ?_, ?_, HO1.out.trans HO2.out (fun _ h => .inl h)⟩
              · rw [swp_ix (by omega) (by omega), swap_at (by omega) (by omega)]
                exact HT.out x hx
              · rw [swp_ix (by omega) (by omega)]
                exact HU.out.step (by omega) (by omega) (by omega) (by omega) HLS.out HMIN.out
            case measure => simp [intOf]; omega
      · have g3 : decide (2 * (c : Int) + 2 < (n : Int)) = false := decide_eq_false (by omega)
        have HMIN := Lib.hid (show ∀ x, 0 < x → x < n → (x - 1) / 2 = c → le (ix ys (2 * c + 1)) (ix ys x) from fun x x0 xn xp => by
          rcases (by omega : x = 2 * c + 1) with rfl
          exact le_refl _)
        go_wp2_with fail
        cases hls : less (ix ys (2 * c + 1)) (ix ys c) with
        | false =>
          rw [m_less]
          go_wp2_with fail
          refine (less_at HI.out (i := 2 * c + 1) (k := c) (by omega) (by omega) (by omega) (by omega)).mono ?_
          rintro e w1 ⟨rfl, hb⟩
          rw [hls]
          have HI1 := Lib.hid (HI.out.below hb)
          have HO1 := Lib.hid (HO.out.of_below hb)
          have HLS := Lib.hid hls
          clear hb hls HI HO
          go_wp2_with fail
          go_ret
          refine ⟨_, rfl, ys, HI1.out, HP.out, HT.out, ?_, ?_, HO1.out⟩
          · intro hb
            have := of_decide_eq_true hb
            exact (HU.out.stop (fun x x0 xn xp => le_trans HLS.out (HMIN.out x x0 xn xp))).1 (by omega)
          · intro hb
            have := of_decide_eq_false hb
            exact (HU.out.stop (fun x x0 xn xp => le_trans HLS.out (HMIN.out x x0 xn xp))).2 (by omega)
        | true =>
          rw [m_less]
          go_wp2_with fail
          refine (less_at HI.out (i := 2 * c + 1) (k := c) (by omega) (by omega) (by omega) (by omega)).mono ?_
          rintro e w1 ⟨rfl, hb⟩
          rw [hls]
          have HI1 := Lib.hid (HI.out.below hb)
          have HO1 := Lib.hid (HO.out.of_below hb)
          have HLS := Lib.hid hls
          clear hb hls HI HO
          go_wp2_with fail
          rw [m_swap]
          go_wp2_with fail
          refine (swap_at' HI1.out (i := c) (k := 2 * c + 1) (by omega) (by omega) (by omega) (by omega)).mono ?_
          rintro e w2 ⟨rfl, hI2, hO2⟩
          have HI2 := Lib.hid hI2
          have HO2 := Lib.hid hO2
          clear hI2 hO2
          go_wp2_with fail
          go_roundw
          case rel =>
            refine ⟨2 * c + 1, by simp, by omega, by omega, swp ys c (2 * c + 1), HI2.out, (swp_perm (by omega) (by omega)).trans HP.out, fun x hx => ?_, ?_, HO1.out.trans HO2.out (fun _ h => .inl h)⟩
            · rw [swp_ix (by omega) (by omega), swap_at (by omega) (by omega)]
              exact HT.out x hx
            · rw [swp_ix (by omega) (by omega)]
              exact HU.out.step (by omega) (by omega) (by omega) (by omega) HLS.out HMIN.out
          case measure => simp [intOf]; omega
end Go.Proofs.Ytfkbiecbnjddmaa
