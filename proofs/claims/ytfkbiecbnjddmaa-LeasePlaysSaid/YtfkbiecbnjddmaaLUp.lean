import Derived.Test.YtfkbiecbnjddmaaLSwap
import Derived.Test.YtfkbiecbnjddmaaLHeap
namespace Go.Proofs.Ytfkbiecbnjddmaa
open Go.RowKit Go.MapKept Go.ChangeMaps Go.Proofs.YtfkbiecbnjddmaaW.PrintWords
set_option linter.unusedVariables false
theorem m_less (p : Addr) (w : World) : (method 223 78 (.agg #[.pointer (some p)]) "Less").run Try.prog w = .ok (55, .pointer (some p)) w := by kernel_rfl
theorem m_swap (p : Addr) (w : World) : (method 223 78 (.agg #[.pointer (some p)]) "Swap").run Try.prog w = .ok (56, .pointer (some p)) w := by kernel_rfl
theorem m_len (p : Addr) (w : World) : (method 223 78 (.agg #[.pointer (some p)]) "Len").run Try.prog w = .ok (35, .pointer (some p)) w := by kernel_rfl
theorem m_push (p : Addr) (w : World) : (method 223 78 (.agg #[.pointer (some p)]) "Push").run Try.prog w = .ok (65, .agg #[.pointer (some p)]) w := by kernel_rfl
theorem m_pop (p : Addr) (w : World) : (method 223 78 (.agg #[.pointer (some p)]) "Pop").run Try.prog w = .ok (64, .agg #[.pointer (some p)]) w := by kernel_rfl
theorem less_at {W : World} {s : St} {xs : List Lz} (h : Is W s xs) {i k : Nat} {a b : Int} (hi : i < xs.length) (hk : k < xs.length) (ha : a = i) (hb : b = k) :
    Calls Try.prog 55 #[.pointer (some ⟨s.L, 0, none⟩), .int .i64 a, .int .i64 b] W fun e w' => e = .returned (.bool (less (ix xs i) (ix xs k))) ∧ Below W.heap.size W w' := by
  subst ha hb
  exact less_calls h (ix_some hi) (ix_some hk)
def swp (xs : List Lz) (i k : Nat) : List Lz := (xs.set i (ix xs k)).set k (ix xs i)
theorem swp_length (xs : List Lz) (i k : Nat) : (swp xs i k).length = xs.length := by simp [swp]
theorem swp_ix {xs : List Lz} {i k : Nat} (hi : i < xs.length) (hk : k < xs.length) : ix (swp xs i k) = swapF (ix xs) i k := ix_swap (ix_some hi) (ix_some hk)
theorem swp_perm {xs : List Lz} {i k : Nat} (hi : i < xs.length) (hk : k < xs.length) : (swp xs i k).Perm xs := swap_perm (ix_some hi) (ix_some hk)
theorem swap_at' {W : World} {s : St} {xs : List Lz} (h : Is W s xs) {i k : Nat} {a b : Int} (hi : i < xs.length) (hk : k < xs.length) (ha : a = i) (hb : b = k) :
    Calls Try.prog 56 #[.pointer (some ⟨s.L, 0, none⟩), .int .i64 a, .int .i64 b] W fun e w' => e = .returned (.tuple #[]) ∧ Is w' s (swp xs i k) ∧ Off s.foot W w' := by
  subst ha hb
  exact swap_calls h (ix_some hi) (ix_some hk)
theorem Is.below {W W' : World} {s : St} {xs : List Lz} (h : Is W s xs) (hb : Below W.heap.size W W') : Is W' s xs :=
  have h' := h.to'.below hb
  ⟨h'.list, h'.own, h'.map, h.okays, h.keys⟩
set_option maxHeartbeats 400000
set_option maxRecDepth 100000
theorem up_calls {W : World} {s : St} {xs : List Lz} (h : Is W s xs) {j n : Nat} (hj : j < n) (hn : n ≤ xs.length) (hl : xs.length ≤ 1000) (hu : UpF (ix xs) j n) :
    Calls Try.prog 37 #[hv s, .int .i64 j] W fun e w' => e = .returned (.tuple #[]) ∧ ∃ ys, Is w' s ys ∧ ys.Perm xs ∧ (∀ c, n ≤ c → ix ys c = ix xs c) ∧ HeapF (ix ys) n ∧ Off s.foot W w' := by
  have H0 := Lib.hid (show ∃ ys, Is W s ys ∧ ys.Perm xs ∧ (∀ c, n ≤ c → ix ys c = ix xs c) ∧ UpF (ix ys) j n ∧ Off s.foot W W from ⟨xs, h, .refl _, fun _ _ => rfl, hu, Off.refl _ _⟩)
  clear h hu
  have hj' : (j : Int) < n := by omega
  unfold hv rowPtr
  go_enter Try.func37, Try.ntmps37
  go_wp2_with fail
  go_loopw [1] (fun v1 wr => ∃ j' : Nat, v1 = .int .i64 j' ∧ j' < n ∧ Hid (∃ ys, Is wr s ys ∧ ys.Perm xs ∧ (∀ c, n ≤ c → ix ys c = ix xs c) ∧ UpF (ix ys) j' n ∧ Off s.foot W wr)) (fun v1 _ => (intOf v1).toNat)
  case atStart => exact ⟨j, rfl, hj, H0⟩
  case round =>
    clear H0 hj hj'
    obtain ⟨m, rfl, hm, HM⟩ := hrel
    by_cases h0 : m = 0
    · subst h0
      go_wp2_with fail
      obtain ⟨ys, hI, hP, hT, hU, hO⟩ := HM.out
      go_end0
      exact ⟨rfl, ys, hI, hP, hT, hU.zero, hO⟩
    · obtain ⟨i, rfl⟩ : ∃ i, m = i + 1 := ⟨m - 1, by omega⟩
      obtain ⟨ys, hI, hP, hT, hU, hO⟩ := HM.out
      have hyl : ys.length = xs.length := hP.length_eq
      have HI := Lib.hid hI
      have HP := Lib.hid hP
      have HT := Lib.hid hT
      have HU := Lib.hid hU
      have HO := Lib.hid hO
      clear hI hP hT hU hO HM
      have e1 : IntKind.i64.wrap (((i + 1 : Nat) : Int) - 1) = (i : Int) := by rw [IntKind.wrap_i64]; omega
      have e2 : Int.tdiv (i : Int) 2 = ((i / 2 : Nat) : Int) := by rw [Int.tdiv_eq_ediv_of_nonneg (by omega)]; omega
      have hpar : (i + 1 - 1) / 2 = i / 2 := by omega
      go_wp2_with fail
      rw [m_less]
      go_wp2_with fail
      cases hls : less (ix ys (i + 1)) (ix ys (i / 2)) with
      | false =>
        refine (less_at HI.out (i := i + 1) (k := i / 2) (by omega) (by omega) (by omega) (by omega)).mono ?_
        rintro e w1 ⟨rfl, hb⟩
        rw [hls]
        have HB := Lib.hid hb
        clear hb
        go_wp2_with fail
        go_end0
        exact ⟨rfl, ys, HI.out.below HB.out, HP.out, HT.out, HU.out.stop (.inr (by rw [hpar]; exact hls)), HO.out.of_below HB.out⟩
      | true =>
        refine (less_at HI.out (i := i + 1) (k := i / 2) (by omega) (by omega) (by omega) (by omega)).mono ?_
        rintro e w1 ⟨rfl, hb⟩
        rw [hls]
        have HLS := Lib.hid hls
        have HI1 := Lib.hid (HI.out.below hb)
        have HO1 := Lib.hid (HO.out.of_below hb)
        clear hb hls HI HO
        go_wp2_with fail
        rw [m_swap]
        go_wp2_with fail
        refine (swap_at' HI1.out (i := i / 2) (k := i + 1) (by omega) (by omega) (by omega) (by omega)).mono ?_
        rintro e w2 ⟨rfl, hI2, hO2⟩
        have HI2 := Lib.hid hI2
        have HO2 := Lib.hid hO2
        clear hI2 hO2
        go_wp2_with fail
        go_roundw
        case rel =>
          refine ⟨i / 2, by simp, by omega, swp ys (i / 2) (i + 1), HI2.out, (swp_perm (by omega) (by omega)).trans HP.out, fun c hc => ?_, ?_, HO1.out.trans HO2.out (fun _ h => .inl h)⟩
          · rw [swp_ix (by omega) (by omega), swap_at (by omega) (by omega)]
            exact HT.out c hc
          · rw [swp_ix (by omega) (by omega)]
            have := HU.out.step (by omega) (by rw [hpar]; exact HLS.out)
            rwa [hpar] at this
        case measure => simp [intOf]; omega
end Go.Proofs.Ytfkbiecbnjddmaa
