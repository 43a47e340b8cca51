/- heap.Push, heap.Pop, heap.Remove over a row of leases. -/
import Derived.Test.YtfkbiecbnjddmaaLPop
namespace Go.Proofs.Ytfkbiecbnjddmaa
open Go.RowKit Go.MapKept Go.ChangeMaps Go.Proofs.YtfkbiecbnjddmaaW.PrintWords
set_option linter.unusedVariables false
/-- what an operation leaves: a heap of these leases, at the same list and map -/
structure Out (W W' : World) (s : St) (zs : List Lz) : Prop where
  off : Off s.foot W W'
  here : ∃ s' ys, Is W' s' ys ∧ ys.Perm zs ∧ HeapF (ix ys) ys.length ∧ s'.L = s.L ∧ s'.M = s.M ∧ ∀ i, s'.foot i → s.foot i ∨ W.heap.size ≤ i

theorem foot_step {W : World} {s : St} {v' : Value} (h : v'.ownBlock = s.v.ownBlock ∨ ∃ b, v'.ownBlock = some b ∧ W.heap.size ≤ b) : ∀ i, (St.mk s.L s.M v').foot i → s.foot i ∨ W.heap.size ≤ i := by
  rintro i (h1 | h1 | h1)
  · exact .inl (.inl h1)
  · exact .inl (.inr (.inl h1))
  · rcases h with h | ⟨b, hb, hl⟩
    · exact .inl (.inr (.inr (h ▸ h1)))
    · rw [hb] at h1
      cases h1
      exact .inr hl
theorem ix_append {xs : List Lz} {x : Lz} : ∀ c, c < xs.length → ix (xs ++ [x]) c = ix xs c := fun c hc => by
  unfold ix
  rw [List.getD_eq_getElem?_getD, List.getD_eq_getElem?_getD, List.getElem?_append_left hc]
theorem ix_take {xs : List Lz} {m : Nat} : ∀ c, c < m → ix (xs.take m) c = ix xs c := fun c hc => by
  unfold ix
  rw [List.getD_eq_getElem?_getD, List.getD_eq_getElem?_getD, List.getElem?_take_of_lt hc]
theorem take_last {xs : List Lz} {m : Nat} (hm : xs.length = m + 1) : xs.take m ++ [ix xs m] = xs := by
  have hml : m < xs.length := by omega
  have e : xs[m] = ix xs m := by simp [ix, hml]
  rw [← e, List.take_append_getElem hml, List.take_of_length_le (by omega)]
theorem erase_of {ys xs : List Lz} {a : Lz} (h : (a :: ys).Perm xs) : ys.Perm (xs.erase a) := by
  have ha : a ∈ xs := h.mem_iff.1 List.mem_cons_self
  exact (h.trans (List.perm_cons_erase ha)).cons_inv
set_option maxHeartbeats 1000000
set_option maxRecDepth 100000
theorem hpush_calls {W : World} {s : St} {xs : List Lz} (h : Is W s xs) (hh : HeapF (ix xs) xs.length) {x : Lz} (hx : okLz x) (hk : x.key ∉ xs.map Lz.key) (hl : xs.length < 1000) :
    Calls Try.prog 33 #[hv s, .iface 55 x.val] W fun e w' => e = .returned (.tuple #[]) ∧ Out W w' s (xs ++ [x]) := by
  have H := Lib.hid h
  have HH := Lib.hid hh
  clear h hh
  unfold hv rowPtr
  go_enter Try.func33, Try.ntmps33
  go_wp2_with fail
  rw [m_push]
  go_wp2_with fail
  refine (push_calls H.out hx hk hl).mono ?_
  rintro e w1 ⟨rfl, v', hI, hO, hat⟩
  have HI := Lib.hid hI
  have HO := Lib.hid hO
  have HA := Lib.hid hat
  clear hI hO hat
  go_wp2_with fail
  rw [m_len]
  go_wp2_with fail
  refine (len_calls HI.out (by simp; omega)).mono ?_
  rintro e w2 ⟨rfl, hb⟩
  have HI2 := Lib.hid (HI.out.below hb)
  have HO2 := Lib.hid (HO.out.of_below hb)
  clear hb HI HO
  have e1 : IntKind.i64.wrap (((xs ++ [x]).length : Int) - 1) = (xs.length : Int) := by rw [IntKind.wrap_i64]; simp; omega
  have e2 : IntKind.i64.wrap (((xs.length : Int) + 1) - 1) = (xs.length : Int) := by rw [IntKind.wrap_i64]; omega
  go_wp2_with fail
  have hu : UpF (ix (xs ++ [x])) xs.length (xs.length + 1) := (HH.out.congr ix_append).up
  refine (up_calls (s := ⟨s.L, s.M, v'⟩) HI2.out (j := xs.length) (n := xs.length + 1) (by omega) (by simp) (by simp; omega) hu).mono ?_
  rintro e w3 ⟨rfl, ys, hI3, hP3, hT3, hH3, hO3⟩
  have HO3 := Lib.hid hO3
  have HH3 := Lib.hid hH3
  have HP3 := Lib.hid hP3
  have HI3 := Lib.hid hI3
  clear hO3 hH3 hP3 hI3 hT3
  go_wp2_with fail
  go_end0
  have hlen : ys.length = xs.length + 1 := by rw [HP3.out.length_eq]; simp
  refine ⟨rfl, HO2.out.trans HO3.out (foot_step HA.out), _, ys, HI3.out, HP3.out, ?_, rfl, rfl, foot_step HA.out⟩
  rw [hlen]; exact HH3.out
theorem hpop_calls {W : World} {s : St} {xs : List Lz} (h : Is W s xs) (hh : HeapF (ix xs) xs.length) {m : Nat} (hm : xs.length = m + 1) (hl : xs.length ≤ 1000) :
    Calls Try.prog 31 #[hv s] W fun e w' => e = .returned (.iface 55 (ix xs 0).val) ∧ Out W w' s (xs.erase (ix xs 0)) := by
  have H := Lib.hid h
  have HH := Lib.hid hh
  clear h hh
  unfold hv rowPtr
  go_enter Try.func31, Try.ntmps31
  go_wp2_with fail
  rw [m_len]
  go_wp2_with fail
  refine (len_calls H.out hl).mono ?_
  rintro e w1 ⟨rfl, hb⟩
  have HI := Lib.hid (H.out.below hb)
  have HO := Lib.hid (Off.below (S := s.foot) hb)
  clear hb
  rw [hm]
  have e1 : IntKind.i64.wrap (((m + 1 : Nat) : Int) - 1) = (m : Int) := by rw [IntKind.wrap_i64]; omega
  go_wp2_with fail
  rw [m_swap]
  go_wp2_with fail
  refine (swap_at' HI.out (i := 0) (k := m) (by omega) (by omega) rfl rfl).mono ?_
  rintro e w2 ⟨rfl, hI2, hO2⟩
  have HI2 := Lib.hid hI2
  have HO2 := Lib.hid (HO.out.trans hO2 (fun _ h => .inl h))
  clear hI2 hO2 HI HO
  go_wp2_with fail
  have hd : DownF (ix (swp xs 0 m)) 0 0 m := by
    rw [swp_ix (by omega) (by omega)]
    by_cases h0 : 0 < m
    · exact (HH.out.less_n (m := m + 1) (by omega)).down h0
    · exact ⟨fun c c0 cn => by omega, fun c c0 cn => by omega⟩
  refine (down_calls (s := s) HI2.out (i := 0) (n := m) (by omega) (by rw [swp_length]; omega) (by rw [swp_length]; omega) hd).mono ?_
  rintro e w3 ⟨b, rfl, ys, hI3, hP3, hT3, hb1, hb2, hO3⟩
  have hH3 : HeapF (ix ys) m := by
    cases b with
    | true => exact hb1 rfl
    | false => exact (hb2 rfl).zero
  have HH3 := Lib.hid hH3
  have HO3 := Lib.hid (HO2.out.trans hO3 (fun _ h => .inl h))
  have HP3 := Lib.hid (hP3.trans (swp_perm (by omega) (by omega)))
  have HI3 := Lib.hid hI3
  have hyl : ys.length = m + 1 := by rw [hP3.length_eq, swp_length, hm]
  have hlast : ix ys m = ix xs 0 := by
    rw [hT3 m (Nat.le_refl _), swp_ix (by omega) (by omega), swap_k]
  clear hO3 hH3 hP3 hI3 hT3 hb1 hb2 HO2 HI2 hd
  go_wp2_with fail
  rw [m_pop]
  go_wp2_with fail
  refine (pop_calls HI3.out hyl (by omega)).mono ?_
  rintro e w4 ⟨rfl, v', hI4, hO4, hat⟩
  have HI4 := Lib.hid hI4
  have HO4 := Lib.hid (HO3.out.trans hO4 (fun _ h => .inl h))
  have HA := Lib.hid hat
  clear hI4 hO4 hat
  go_wp2_with fail
  go_ret
  refine ⟨rfl, HO4.out, _, ys.take m, HI4.out, ?_, ?_, rfl, rfl, foot_step (.inl HA.out)⟩
  · apply erase_of
    have := take_last hyl
    rw [hlast] at this
    refine List.Perm.trans ?_ HP3.out
    rw [← this]
    have h2 := @List.perm_append_comm _ [ix xs 0] (ys.take m)
    simpa [this] using h2
  · rw [List.length_take, hyl, Nat.min_eq_left (by omega)]
    exact HH3.out.congr ix_take
theorem hremove_calls {W : World} {s : St} {xs : List Lz} (h : Is W s xs) (hh : HeapF (ix xs) xs.length) {m i : Nat} (hm : xs.length = m + 1) (hi : i ≤ m) (hl : xs.length ≤ 1000) :
    Calls Try.prog 29 #[hv s, .int .i64 i] W fun e w' => e = .returned (.iface 55 (ix xs i).val) ∧ Out W w' s (xs.erase (ix xs i)) := by
  have H := Lib.hid h
  have HH := Lib.hid hh
  clear h hh
  unfold hv rowPtr
  go_enter Try.func29, Try.ntmps29
  go_wp2_with fail
  rw [m_len]
  go_wp2_with fail
  refine (len_calls H.out hl).mono ?_
  rintro e w1 ⟨rfl, hb⟩
  have HI := Lib.hid (H.out.below hb)
  have HO := Lib.hid (Off.below (S := s.foot) hb)
  clear hb
  rw [hm]
  have e1 : IntKind.i64.wrap (((m + 1 : Nat) : Int) - 1) = (m : Int) := by rw [IntKind.wrap_i64]; omega
  by_cases him : m = i
  · subst him
    go_wp2_with fail
    obtain ⟨ys, hys⟩ : ∃ ys, xs = ys := ⟨_, rfl⟩
    have HI3 := HI
    have HO3 := HO
    have HP3 := Lib.hid (List.Perm.refl xs)
    have HH3 := Lib.hid (HH.out.less_n (m := m) (by omega))
    have hlast : ix xs m = ix xs m := rfl
    have hyl := hm
    clear HI HO hys
    rw [m_pop]
    go_wp2_with fail
    refine (pop_calls HI3.out hyl (by omega)).mono ?_
    rintro e w4 ⟨rfl, v', hI4, hO4, hat⟩
    have HI4 := Lib.hid hI4
    have HO4 := Lib.hid (HO3.out.trans hO4 (fun _ h => .inl h))
    have HA := Lib.hid hat
    clear hI4 hO4 hat
    go_wp2_with fail
    go_ret
    refine ⟨rfl, HO4.out, _, xs.take m, HI4.out, ?_, ?_, rfl, rfl, foot_step (.inl HA.out)⟩
    · apply erase_of
      have := take_last hyl
      have h2 := @List.perm_append_comm _ [ix xs m] (xs.take m)
      rw [this] at h2
      exact h2
    · rw [List.length_take, hyl, Nat.min_eq_left (by omega)]
      exact HH3.out.congr ix_take
  · have g1 : ((m : Int) != (i : Int)) = true := by simp; omega
    have g2 : ((m : Int) == (i : Int)) = false := beq_eq_false_iff_ne.2 (by omega)
    go_wp2_with fail
    rw [m_swap]
    go_wp2_with fail
    refine (swap_at' HI.out (i := i) (k := m) (by omega) (by omega) rfl rfl).mono ?_
    rintro e w2 ⟨rfl, hI2, hO2⟩
    have HI2 := Lib.hid hI2
    have HO2 := Lib.hid (HO.out.trans hO2 (fun _ h => .inl h))
    clear hI2 hO2 HI HO
    go_wp2_with fail
    have hd : DownF (ix (swp xs i m)) i i m := by
      rw [swp_ix (by omega) (by omega)]
      exact (HH.out.less_n (m := m + 1) (by omega)).down (by omega)
    refine (down_calls (s := s) HI2.out (i := i) (n := m) (by omega) (by rw [swp_length]; omega) (by rw [swp_length]; omega) hd).mono ?_
    rintro e w3 ⟨b, rfl, ys, hI3, hP3, hT3, hb1, hb2, hO3⟩
    have hyl : ys.length = m + 1 := by rw [hP3.length_eq, swp_length, hm]
    have hlast : ix ys m = ix xs i := by
      rw [hT3 m (Nat.le_refl _), swp_ix (by omega) (by omega), swap_k]
    have HO3 := Lib.hid (HO2.out.trans hO3 (fun _ h => .inl h))
    have HP3 := Lib.hid (hP3.trans (swp_perm (by omega) (by omega)))
    have HI3 := Lib.hid hI3
    clear hO3 hP3 hI3 hT3 HO2 HI2 hd
    cases b with
    | true =>
      have HH3 := Lib.hid (hb1 rfl)
      clear hb1 hb2
      go_wp2_with fail
      rw [m_pop]
      go_wp2_with fail
      refine (pop_calls HI3.out hyl (by omega)).mono ?_
      rintro e w4 ⟨rfl, v', hI4, hO4, hat⟩
      have HI4 := Lib.hid hI4
      have HO4 := Lib.hid (HO3.out.trans hO4 (fun _ h => .inl h))
      have HA := Lib.hid hat
      clear hI4 hO4 hat
      go_wp2_with fail
      go_ret
      refine ⟨rfl, HO4.out, _, ys.take m, HI4.out, ?_, ?_, rfl, rfl, foot_step (.inl HA.out)⟩
      · apply erase_of
        have := take_last hyl
        rw [hlast] at this
        refine List.Perm.trans ?_ HP3.out
        have h2 := @List.perm_append_comm _ [ix xs i] (ys.take m)
        rw [this] at h2
        exact h2
      · rw [List.length_take, hyl, Nat.min_eq_left (by omega)]
        exact HH3.out.congr ix_take
    | false =>
      have HU3 := Lib.hid (hb2 rfl)
      clear hb1 hb2
      go_wp2_with fail
      refine (up_calls (s := s) HI3.out (j := i) (n := m) (by omega) (by omega) (by omega) HU3.out).mono ?_
      rintro e w5 ⟨rfl, zs, hI5, hP5, hT5, hH5, hO5⟩
      have hlast := (hT5 m (Nat.le_refl _)).trans hlast
      have hyl : zs.length = m + 1 := by rw [hP5.length_eq, hyl]
      have HI3 := Lib.hid hI5
      have HP3 := Lib.hid (hP5.trans HP3.out)
      have HO3 := Lib.hid (HO3.out.trans hO5 (fun _ h => .inl h))
      have HH3 := Lib.hid hH5
      clear hI5 hP5 hT5 hH5 hO5
      go_wp2_with fail
      rw [m_pop]
      go_wp2_with fail
      refine (pop_calls HI3.out hyl (by omega)).mono ?_
      rintro e w4 ⟨rfl, v', hI4, hO4, hat⟩
      have HI4 := Lib.hid hI4
      have HO4 := Lib.hid (HO3.out.trans hO4 (fun _ h => .inl h))
      have HA := Lib.hid hat
      clear hI4 hO4 hat
      go_wp2_with fail
      go_ret
      refine ⟨rfl, HO4.out, _, zs.take m, HI4.out, ?_, ?_, rfl, rfl, foot_step (.inl HA.out)⟩
      · apply erase_of
        have := take_last hyl
        rw [hlast] at this
        refine List.Perm.trans ?_ HP3.out
        have h2 := @List.perm_append_comm _ [ix xs i] (zs.take m)
        rw [this] at h2
        exact h2
      · rw [List.length_take, hyl, Nat.min_eq_left (by omega)]
        exact HH3.out.congr ix_take
end Go.Proofs.Ytfkbiecbnjddmaa
