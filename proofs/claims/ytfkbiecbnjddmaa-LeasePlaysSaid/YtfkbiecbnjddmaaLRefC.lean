/- The document's row of leases: Drop. (Printed by gen_refc.py over the kit's regions.py.) -/
import Derived.Test.YtfkbiecbnjddmaaLRefB
import Derived.Test.YtfkbiecbnjddmaaWLast
namespace Go.Proofs.Ytfkbiecbnjddmaa
open Go.RowKit Go.MapKept Go.ChangeMaps Go.Proofs.YtfkbiecbnjddmaaW.PrintWords Go.Proofs.YtfkbiecbnjddmaaW.PrintLast Go.Proofs.YtfkbiecbnjddmaaW.PrintMore
set_option linter.unusedVariables false
set_option linter.unusedSimpArgs false
set_option maxRecDepth 100000
set_option maxHeartbeats 8000000
def RDropOut (W w' : World) (q : Nat) (A : Option Addr) (c : Nat) (L : List Lz) (k : Int × Int) (e : Ending) : Prop :=
  (k ∉ L.map Lz.key ∧ e = .returned (.int .i64 13) ∧ RefAt w' q A c L) ∨
  (∃ (i : Nat) (x : Lz), L[i]? = some x ∧ x.key = k ∧ e = .returned (.int .i64 0) ∧ ∃ A' c', RefAt w' q A' c' (L.take i ++ L.drop (i + 1)))
theorem rdrop_calls {W : World} {q : Nat} {A : Option Addr} {c : Nat} {L : List Lz} (h : RefAt W q A c L) (k : Int × Int) :
    Calls Try.prog 18 #[.pointer (some ⟨q, 0, none⟩), .int .i64 k.1, .int .u32 k.2] W fun e w' => RDropOut W w' q A c L k e ∧ Off (fun i => i = q) W w' := by
  have H := Lib.hid h
  have hcap := h.cap
  have hl9 := h.len
  have q0 : W.cell? ⟨q, 0, none⟩ = some (.slice A L.length c) := cell_of_row _ _ 0 _ _ _ h.box
  clear h
  obtain ⟨n, hn⟩ : ∃ n, L.length = n := ⟨_, rfl⟩
  rw [hn] at hl9 hcap q0
  have HN := Lib.hid hn
  clear hn
  obtain ⟨i0, hi0⟩ : ∃ i, Try.prog.info? 56 = some i := by
    cases h : Try.prog.info? 56 with
    | none => have h61 := info56; rw [h] at h61; cases h61
    | some i => exact ⟨i, rfl⟩
  have HCT := Lib.hid (fun (i : Nat) (hi : i ≤ n) => cut_to (P := Try.prog) 43 56 .i64 Try.underlying43 hi0 A n c (i : Int) (by omega) (by omega) hcap)
  have HCF := Lib.hid (fun (i : Nat) (hi : i < n) => cut_from (P := Try.prog) 43 56 .i64 Try.underlying43 hi0 3 (by have := info56; rw [hi0] at this; simpa using congrArg (fun o => (o.map fun p => p.2.1)) this) A n c ((i : Int) + 1) (by omega) (by omega))
  clear hi0
  go_enter Try.func18, Try.ntmps18
  go_wp2_with fail
  refine (find_calls H.out k).mono ?_
  rintro e w2 ⟨p, rfl, hf, rfl⟩
  rcases hf with ⟨rfl, hno⟩ | ⟨i, y, rfl, hy, hyk⟩
  · have HNO := Lib.hid (show k ∉ L.map Lz.key from fun hc => by
      obtain ⟨z, hz, hzk⟩ := List.mem_map.1 hc
      exact hno z hz hzk)
    clear hno
    go_wp2_with fail
    go_ret
    exact ⟨.inl ⟨HNO.out, rfl, H.out⟩, Off.refl _ _⟩
  · have hi : i < n := by have := (List.getElem?_eq_some_iff.1 hy).1; rwa [HN.out] at this
    have HY := Lib.hid hy
    have HYK := Lib.hid hyk
    clear hy hyk
    have p0 : (0 : Int) ≤ (i : Int) := by omega
    have hct := HCT.out i (Nat.le_of_lt hi)
    have hcf := HCF.out i hi
    rw [show ((i : Int) + 1).toNat = i + 1 by omega] at hcf
    simp only [Int.toNat_natCast] at hct
    obtain ⟨A', hA'⟩ : ∃ A', (if c = i + 1 then A else Option.map (fun x => x.add ((i + 1) * 3)) A) = A' := ⟨_, rfl⟩
    rw [hA'] at hcf
    have HA := Lib.hid hA'
    clear hA'
    have hw1 : IntKind.i64.wrap ((i : Int) + 1) = (i : Int) + 1 := IntWalk.i64_in _ (by omega)
    have HR0 := Lib.hid (show Kd.R kL 56 (W.drew.alloc (.cells #[] 56)) W.heap.size (fun _ => True) (.slice (some ⟨W.heap.size, 0, none⟩) 0 0) [] from kR_empty W.drew W.heap.size (Nat.le_refl _))
    have HB0 := Lib.hid (show Below W.heap.size W (W.drew.alloc (.cells #[] 56)) from below_alloc (Below.drew (Below.refl _ _)) _)
    go_wp2_with fail
    refine start_ (n := 20) (S := fun w' => w'.cell? ⟨q, 0, none⟩ = some (.slice A n c) ∧ Hid (RefAt w' q A c L)) (ds := [16, 19]) #[false, false, false, false, false, false, false, false, false, false, false, false, false, false, false, false, false, false, false, false] (by kernel_rfl) rfl rfl ⟨pw_cell_below (Below.drew (Below.refl _ _)) q0, Lib.hid (H.out.below (Below.drew (Below.refl _ _)))⟩ (fun hHeld => ?_)
    refine pure_ (i := 0) (N := some 14) (v := ?_) (a' := ?_) #[true, false, false, false, false, false, false, false, false, false, false, false, false, false, false, false, false, false, false, false] rfl rfl (by kernel_rfl) (fun _ _ _ h => h) (Or.inl ⟨by rfl, ?_⟩) ?_ ?_
    rotate_left
    · intro w'
      go_simp
      with_reducible rfl
    rotate_left
    · simp only [Act.put, List.setIfInBounds_toArray, List.set_cons_zero, List.set_cons_succ, i64_w, i32_w]
      rfl
    refine pure_ (i := 2) (N := some 16) (v := ?_) (a' := ?_) #[true, false, true, false, false, false, false, false, false, false, false, false, false, false, false, false, false, false, false, false] rfl rfl (by kernel_rfl) (fun _ _ _ h => h) (Or.inl ⟨by rfl, ?_⟩) ?_ ?_
    rotate_left
    · intro w'
      go_simp
      with_reducible rfl
    rotate_left
    · simp only [Act.put, List.setIfInBounds_toArray, List.set_cons_zero, List.set_cons_succ, i64_w, i32_w]
      rfl
    refine pure_ (i := 3) (N := some 17) (v := ?_) (a' := ?_) #[true, false, true, true, false, false, false, false, false, false, false, false, false, false, false, false, false, false, false, false] rfl rfl (by kernel_rfl) (fun _ _ _ h => h) (Or.inl ⟨by rfl, ?_⟩) ?_ ?_
    rotate_left
    · intro w'
      go_simp
      with_reducible rfl
    rotate_left
    · simp only [Act.put, List.setIfInBounds_toArray, List.set_cons_zero, List.set_cons_succ, i64_w, i32_w]
      rfl
    refine pure_ (i := 4) (N := some 18) (v := ?_) (a' := ?_) #[true, false, true, true, true, false, false, false, false, false, false, false, false, false, false, false, false, false, false, false] rfl rfl (by kernel_rfl) (fun _ _ _ h => h) (Or.inl ⟨by rfl, ?_⟩) ?_ ?_
    rotate_left
    · intro w'
      go_simp
      with_reducible rfl
    rotate_left
    · simp only [Act.put, List.setIfInBounds_toArray, List.set_cons_zero, List.set_cons_succ, i64_w, i32_w]
      rfl
    refine pure_ (i := 6) (N := some 20) (v := ?_) (a' := ?_) #[true, false, true, true, true, false, true, false, false, false, false, false, false, false, false, false, false, false, false, false] rfl rfl (by kernel_rfl) (fun _ _ _ h => h) (Or.inl ⟨by rfl, ?_⟩) ?_ ?_
    rotate_left
    · intro w'
      go_simp
      with_reducible rfl
    rotate_left
    · simp only [Act.put, List.setIfInBounds_toArray, List.set_cons_zero, List.set_cons_succ, i64_w, i32_w]
      rfl
    refine pure_ (i := 9) (N := some 23) (v := ?_) (a' := ?_) #[true, false, true, true, true, false, true, false, false, true, false, false, false, false, false, false, false, false, false, false] rfl rfl (by kernel_rfl) (fun _ _ _ h => h) (Or.inl ⟨by rfl, ?_⟩) ?_ ?_
    rotate_left
    · intro w'
      go_simp
      with_reducible rfl
    rotate_left
    · simp only [Act.put, List.setIfInBounds_toArray, List.set_cons_zero, List.set_cons_succ, i64_w, i32_w]
      rfl
    refine pure_ (i := 10) (N := some 24) (v := ?_) (a' := ?_) #[true, false, true, true, true, false, true, false, false, true, true, false, false, false, false, false, false, false, false, false] rfl rfl (by kernel_rfl) (fun _ _ _ h => h) (Or.inl ⟨by rfl, ?_⟩) ?_ ?_
    rotate_left
    · intro w'
      go_simp
      with_reducible rfl
    rotate_left
    · simp only [Act.put, List.setIfInBounds_toArray, List.set_cons_zero, List.set_cons_succ, i64_w, i32_w]
      rfl
    refine pure_ (i := 11) (N := some 25) (v := ?_) (a' := ?_) #[true, false, true, true, true, false, true, false, false, true, true, true, false, false, false, false, false, false, false, false] rfl rfl (by kernel_rfl) (fun _ _ _ h => h) (Or.inl ⟨by rfl, ?_⟩) ?_ ?_
    rotate_left
    · intro w'
      go_simp
      with_reducible rfl
    rotate_left
    · simp only [Act.put, List.setIfInBounds_toArray, List.set_cons_zero, List.set_cons_succ, i64_w, i32_w]
      rfl
    refine pure_ (i := 13) (N := some 27) (v := ?_) (a' := ?_) #[true, false, true, true, true, false, true, false, false, true, true, true, false, true, false, false, false, false, false, false] rfl rfl (by kernel_rfl) (fun _ _ _ h => h) (Or.inl ⟨by rfl, ?_⟩) ?_ ?_
    rotate_left
    · intro w'
      go_simp
      with_reducible rfl
    rotate_left
    · simp only [Act.put, List.setIfInBounds_toArray, List.set_cons_zero, List.set_cons_succ, i64_w, i32_w]
      rfl
    refine pure_ (i := 14) (N := some 28) (v := ?_) (a' := ?_) #[true, false, true, true, true, false, true, false, false, true, true, true, false, true, true, false, false, false, false, false] rfl rfl (by kernel_rfl) (fun _ _ _ h => h) (Or.inl ⟨by rfl, ?_⟩) ?_ ?_
    rotate_left
    · intro w'
      go_simp
      with_reducible rfl
    rotate_left
    · simp only [Act.put, List.setIfInBounds_toArray, List.set_cons_zero, List.set_cons_succ, i64_w, i32_w]
      rfl
    refine take_ (i := 5) (N := some 19) (v := ?_) (a' := ?_) #[true, false, true, true, true, true, true, false, false, true, true, true, false, true, true, false, false, false, false, false] rfl rfl (by kernel_rfl) (fun _ _ _ h => h) (Or.inl ⟨by rfl, ?_⟩) hHeld ?_ ?_
    rotate_left
    · rintro w' ⟨s0, s1⟩
      go_simp
      with_reducible rfl
    rotate_left
    · simp only [Act.put, List.setIfInBounds_toArray, List.set_cons_zero, List.set_cons_succ, i64_w, i32_w]
      rfl
    refine pure_ (i := 7) (N := some 21) (v := ?_) (a' := ?_) #[true, false, true, true, true, true, true, true, false, true, true, true, false, true, true, false, false, false, false, false] rfl rfl (by kernel_rfl) (fun _ _ _ h => h) (Or.inl ⟨by rfl, ?_⟩) ?_ ?_
    rotate_left
    · intro w'
      go_simp
      with_reducible rfl
    rotate_left
    · simp only [Act.put, List.setIfInBounds_toArray, List.set_cons_zero, List.set_cons_succ, i64_w, i32_w]
      rfl
    refine take_ (i := 12) (N := some 26) (v := ?_) (a' := ?_) #[true, false, true, true, true, true, true, true, false, true, true, true, true, true, true, false, false, false, false, false] rfl rfl (by kernel_rfl) (fun _ _ _ h => h) (Or.inl ⟨by rfl, ?_⟩) hHeld ?_ ?_
    rotate_left
    · rintro w' ⟨s0, s1⟩
      go_simp
      with_reducible rfl
    rotate_left
    · simp only [Act.put, List.setIfInBounds_toArray, List.set_cons_zero, List.set_cons_succ, i64_w, i32_w]
      rfl
    refine pure_ (i := 15) (N := some 29) (v := ?_) (a' := ?_) #[true, false, true, true, true, true, true, true, false, true, true, true, true, true, true, true, false, false, false, false] rfl rfl (by kernel_rfl) (fun _ _ _ h => h) (Or.inl ⟨by rfl, ?_⟩) ?_ ?_
    rotate_left
    · intro w'
      go_simp
      with_reducible rfl
    rotate_left
    · simp only [Act.put, List.setIfInBounds_toArray, List.set_cons_zero, List.set_cons_succ, i64_w, i32_w]
      rfl
    refine one_ (i := 1) (N := some 15) #[true, true, true, true, true, true, true, true, false, true, true, true, true, true, true, true, false, false, false, false] rfl rfl (by kernel_rfl) (by decide) (fun K hK => ?_)
    refine value_ (w1 := ?_) (v := ?_) (by rfl) rfl ?_ ?_
    rotate_left 2
    · go_simp
      constructor
      · rfl
      · rfl
    refine hK.out _ _ ⟨pw_cell_below (below_alloc (Below.refl _ _) _) hHeld.1, Lib.hid (hHeld.2.out.below (below_alloc (Below.refl _ _) _))⟩ (fun hHeld => ?_)
    clear hK K
    refine norm_ (a' := ?_) ?_ ?_
    rotate_left
    · show Act.put _ (some 15) _ = _
      simp only [Act.put, List.setIfInBounds_toArray, List.set_cons_zero, List.set_cons_succ, i64_w, i32_w]
      rfl
    refine one_ (i := 8) (N := some 22) #[true, true, true, true, true, true, true, true, true, true, true, true, true, true, true, true, false, false, false, false] rfl rfl (by kernel_rfl) (by decide) (fun K hK => ?_)
    refine Kd.R_append_rows_step kL (w0 := W) W.heap.size (by rfl) (.tmp 15) (.tmp 21) 43 56 (.agg #[.int .i64 0, .int .u32 0, .int .u64 0]) 24 rfl Try.underlying43 info56 rfl (by decide) (by decide) (.slice (some ⟨W.heap.size, 0, none⟩) 0 0) [] (L.take i) A i c (fun _ => True) (fun _ => False) rfl rfl HR0.out (hHeld.2.out.takeC (by rw [HN.out]; exact Nat.le_of_lt hi)) (fun x cs h => by rw [kL_open h]; exact kL_mkM _ _ _ _) (fun _ h => h.elim) (fun _ _ => trivial) HB0.out HB0.out.size (by simp; omega) ?_
    intro v1 u1 hR1 hb1 hg1 hat1
    have HS1 := Lib.hid (show ∀ k, k < W.heap.size → u1.heap[k]? = W.heap[k]? from fun k hk => (hg1.block k (by simp; omega) (by simp [Value.ownBlock]; omega)).trans (HB0.out.block k hk))
    have HR1 := Lib.hid hR1
    have HB1 := Lib.hid hb1
    have HZ1 := Lib.hid (Nat.le_trans HB0.out.size hg1.size)
    have HAT1 := Lib.hid (show ∀ k, v1.ownBlock = some k → W.heap.size ≤ k from at_ge2 (v := .slice (some ⟨W.heap.size, 0, none⟩) 0 0) (fun k hk => by simp [Value.ownBlock] at hk; omega) HB0.out.size hat1)
    have HRF1 := Lib.hid (H.out.keep (fun k t cs hk _ => HS1.out k (blk_lt hk)))
    have q5 := cell_of_row _ _ 0 _ _ _ HRF1.out.box
    rw [HN.out] at q5
    clear hR1 hb1 hg1 hat1
    refine hK.out _ _ ⟨q5, HRF1⟩ (fun hHeld => ?_)
    clear hK K
    refine norm_ (a' := ?_) ?_ ?_
    rotate_left
    · show Act.put _ (some 22) _ = _
      simp only [Act.put, List.setIfInBounds_toArray, List.set_cons_zero, List.set_cons_succ, i64_w, i32_w]
      rfl
    refine last_ (i := 16) (N := some 30) #[true, true, true, true, true, true, true, true, true, true, true, true, true, true, true, true, true, false, false, false] rfl rfl (by kernel_rfl) (by decide) (fun K hK => ?_)
    have HDC := Lib.hid (HRF1.out.dropC (m := i + 1) (by rw [HN.out]; omega))
    rw [HN.out, HA.out] at HDC
    refine Kd.R_append_rows_step kL (w0 := W) W.heap.size (by rfl) (.tmp 22) (.tmp 29) 43 56 (.agg #[.int .i64 0, .int .u32 0, .int .u64 0]) 24 rfl Try.underlying43 info56 rfl (by decide) (by decide) v1 ([] ++ L.take i) (L.drop (i + 1)) A' (n - (i + 1)) (c - (i + 1)) (fun _ => True) (fun _ => False) rfl rfl HR1.out HDC.out (fun x cs h => by rw [kL_open h]; exact kL_mkM _ _ _ _) (fun _ h => h.elim) (fun _ _ => trivial) HB1.out HZ1.out (by simp; omega) ?_
    intro v2 u2 hR2 hb2 hg2 hat2
    have HS2 := Lib.hid (show ∀ k, k < W.heap.size → u2.heap[k]? = W.heap[k]? from fun k hk => (hg2.block k (Nat.lt_of_lt_of_le hk HZ1.out) (fun e => by have := HAT1.out k e.symm; omega)).trans (HS1.out k hk))
    have HR2 := Lib.hid hR2
    have HB2 := Lib.hid hb2
    have HQ2 := Lib.hid ((HS2.out q (blk_lt H.out.box)).trans H.out.box)
    clear hR2 hb2 hg2 hat2 q5
    obtain ⟨A3, c3, rfl⟩ := Kd.R_slice HR2.out
    have f3 := blk_frozen HQ2.out 0
    have q3 := cell_of_row _ _ 0 _ _ _ HQ2.out
    rw [HN.out] at q3
    refine hK.out _ _ ?_
    clear hK K
    refine norm_ (a' := ?_) ?_ ?_
    rotate_left
    · show Act.put _ (some 30) _ = _
      simp only [Act.put, List.setIfInBounds_toArray, List.set_cons_zero, List.set_cons_succ, i64_w, i32_w]
      rfl
    refine pure_ (i := 17) (N := some 31) (v := ?_) (a' := ?_) #[true, true, true, true, true, true, true, true, true, true, true, true, true, true, true, true, true, true, false, false] rfl rfl (by kernel_rfl) (fun _ _ _ h => h) (Or.inl ⟨by rfl, ?_⟩) ?_ ?_
    rotate_left
    · intro w'
      go_simp
      with_reducible rfl
    rotate_left
    · simp only [Act.put, List.setIfInBounds_toArray, List.set_cons_zero, List.set_cons_succ, i64_w, i32_w]
      rfl
    refine pure_ (i := 18) (N := some 32) (v := ?_) (a' := ?_) #[true, true, true, true, true, true, true, true, true, true, true, true, true, true, true, true, true, true, true, false] rfl rfl (by kernel_rfl) (fun _ _ _ h => h) (Or.inl ⟨by rfl, ?_⟩) ?_ ?_
    rotate_left
    · intro w'
      go_simp
      with_reducible rfl
    rotate_left
    · simp only [Act.put, List.setIfInBounds_toArray, List.set_cons_zero, List.set_cons_succ, i64_w, i32_w]
      rfl
    refine last_ (i := 19) (N := none) #[true, true, true, true, true, true, true, true, true, true, true, true, true, true, true, true, true, true, true, true] rfl rfl (by kernel_rfl) (by decide) (fun K hK => ?_)
    refine skip_ (w1 := ?_) (by rfl) rfl ?_ ?_
    rotate_left
    · go_simp
      rfl
    refine hK.out _ _ ?_
    clear hK K
    refine done_ (by kernel_rfl) ?_
    go_wp2_with fail
    go_ret
    have hown := own_of_kR HR2.out
    rw [List.nil_append] at hown
    rw [show min i L.length + (L.length - (i + 1)) = (L.take i ++ L.drop (i + 1)).length by simp]
    refine ⟨.inr ⟨i, y, HY.out, HYK.out, rfl, A3, c3, ?_⟩, Off.set (S := fun i => i = q) (Off.below HB2.out) rfl _⟩
    obtain ⟨A4, c4, e4, h4⟩ := RefAt.of_own (q := q) (by have := HN.out; simp; omega) (own_setCell hown (own_ne hown HQ2.out (by decide)) _) (blk_set HQ2.out 0 _)
    cases e4
    exact h4
end Go.Proofs.Ytfkbiecbnjddmaa
