/- works(): the chapter's examples. -/
import Derived.Test.YtfkbiecbnjddmaaLTake
namespace Go.Proofs.Ytfkbiecbnjddmaa
open Go.RowKit Go.MapKept Go.ChangeMaps Go.Proofs.YtfkbiecbnjddmaaW.PrintWords
set_option linter.unusedVariables false
set_option maxHeartbeats 2000000
set_option maxRecDepth 100000
theorem RowOut.chain {W W1 W2 : World} {r : Nat} {s : St} {zs : List Lz} (h : Below W.heap.size W W1) (hs : ∀ i, s.foot i → W.heap.size ≤ i) (o : RowOut W1 W2 r s zs) :
    ∃ s' ys, RowAt W2 r s' ys ∧ ys.Perm zs ∧ (∀ i, s'.foot i → W.heap.size ≤ i) ∧ Below W.heap.size W W2 := by
  obtain ⟨off, s', ys, h1, h2, h3⟩ := o
  refine ⟨s', ys, h1, h2, fun i hi => (h3 i hi).elim (hs i) (Nat.le_trans h.size), ?_⟩
  exact ⟨off.os.trans h.os, off.tape.trans h.tape, off.output.trans h.output, Nat.le_trans h.size off.size, fun i hi => (off.block i (Nat.lt_of_lt_of_le hi h.size) (fun hc => by have := hs i hc; omega)).trans (h.block i hi)⟩
theorem works_calls {W : World} : Calls Try.prog 15 #[] W fun e w' => e = .returned (.bool true) ∧ Below W.heap.size W w' := by
  go_enter Try.func15, Try.ntmps15
  go_wp2_with fail
  refine (new_calls).mono ?_
  rintro e w1 ⟨r, s1, rfl, hr1, hf1, hrb, hb1⟩
  have HR1 := Lib.hid hr1
  have HF1 := Lib.hid hf1
  have HB1 := Lib.hid hb1
  clear hr1 hf1 hb1
  go_wp2_with fail
  refine (add_calls (x := (0, 7, 9)) HR1.out (by simp) ⟨by decide, by decide, by decide⟩).mono ?_
  rintro e w2 (⟨hc, _⟩ | ⟨_, rfl, ho⟩)
  · simp at hc
  obtain ⟨s2, y2, hr2, hp2, hf2, hb2⟩ := ho.chain HB1.out HF1.out
  have HR2 := Lib.hid hr2
  have HP2 := Lib.hid hp2
  have HF2 := Lib.hid hf2
  have HB2 := Lib.hid hb2
  clear hr2 hp2 hf2 hb2 ho HR1 HF1 HB1
  go_wp2_with fail
  refine (add_calls (x := (0, 3, 9)) HR2.out (by rw [HP2.out.length_eq]; simp) ⟨by decide, by decide, by decide⟩).mono ?_
  rintro e w3 (⟨hc, _⟩ | ⟨_, rfl, ho⟩)
  · rw [(HP2.out.map Lz.key).mem_iff] at hc
    simp [Lz.key] at hc
  obtain ⟨s3, y3, hr3, hp3, hf3, hb3⟩ := ho.chain HB2.out HF2.out
  have HR3 := Lib.hid hr3
  have HP3 := Lib.hid (hp3.trans (HP2.out.append_right _))
  have HF3 := Lib.hid hf3
  have HB3 := Lib.hid hb3
  clear hr3 hp3 hf3 hb3 ho HR2 HF2 HB2 HP2
  go_wp2_with fail
  refine (add_calls (x := (1, 1, 4)) HR3.out (by rw [HP3.out.length_eq]; simp) ⟨by decide, by decide, by decide⟩).mono ?_
  rintro e w4 (⟨hc, _⟩ | ⟨_, rfl, ho⟩)
  · rw [(HP3.out.map Lz.key).mem_iff] at hc
    simp [Lz.key] at hc
  obtain ⟨s4, y4, hr4, hp4, hf4, hb4⟩ := ho.chain HB3.out HF3.out
  have HR4 := Lib.hid hr4
  have HP4 := Lib.hid (show y4.Perm [(0, 7, 9), (0, 3, 9), (1, 1, 4)] from hp4.trans (HP3.out.append_right _))
  have HF4 := Lib.hid hf4
  have HB4 := Lib.hid hb4
  clear hr4 hp4 hf4 hb4 ho HR3 HF3 HB3 HP3
  go_wp2_with fail
  have hl4 : y4.length = 3 := HP4.out.length_eq
  refine (first_calls HR4.out (by omega)).mono ?_
  rintro e w5 ⟨rfl, hb⟩
  have hmin : ix y4 0 = (1, 1, 4) := by
    have hm0 : (1, 1, 4) ∈ y4 := HP4.out.mem_iff.2 (by simp)
    obtain ⟨i, hi⟩ := List.getElem?_of_mem hm0
    have h1 := HR4.out.heap.least i (List.getElem?_eq_some_iff.1 hi).1
    rw [ix_get hi] at h1
    have h2 : ix y4 0 ∈ y4 := List.mem_of_getElem? (ix_some (by omega))
    have h3 := HP4.out.mem_iff.1 h2
    simp only [List.mem_cons, List.not_mem_nil, or_false] at h3
    rcases h3 with h3 | h3 | h3
    · rw [h3, le_iff] at h1; simp at h1
    · rw [h3, le_iff] at h1; simp at h1
    · exact h3
  rw [hmin]
  have HR5 := Lib.hid (HR4.out.below hb)
  have HB5 := Lib.hid (below_then HB4.out HB4.out.size hb)
  have d5 : decide (0 < y4.length) = true := by simp [hl4]
  rw [d5]
  clear d5 hb hmin HR4 HB4
  unfold Lz.val
  go_wp2_with fail
  -- CUT
  obtain ⟨w6, hw6⟩ : ∃ w6, w5.alloc (.cells #[.int .i64 1, .int .u32 1, .int .u64 4] 55) = w6 := ⟨_, rfl⟩
  rw [hw6]
  have hb6 : Below w5.heap.size w5 w6 := by rw [← hw6]; exact below_alloc (Below.refl _ _) _
  have HR6 := Lib.hid (HR5.out.below hb6)
  have HB6 := Lib.hid (below_then HB5.out HB5.out.size hb6)
  have HX6 := Lib.hid (show w6.heap[w5.heap.size]? = some (.cells #[.int .i64 1, .int .u32 1, .int .u64 4] 55 (0, 0)) by rw [← hw6]; exact blk_new w5 _)
  have HN6 := Lib.hid (show ¬ s4.foot w5.heap.size from fun hc => by have := HR5.out.is.foot_lt _ hc; omega)
  obtain ⟨B, hB⟩ : ∃ B, w5.heap.size = B := ⟨_, rfl⟩
  rw [hB] at HX6 HN6
  rw [hB]
  clear hw6 hb6 HB5 HR5 hB
  refine (add_calls (x := (0, 7, 1)) HR6.out (by omega) ⟨by decide, by decide, by decide⟩).mono ?_
  rintro e w7 (⟨_, rfl, ho⟩ | ⟨hc, _⟩)
  rotate_left
  · exact absurd ((HP4.out.map Lz.key).mem_iff.2 (by simp [Lz.key])) hc
  have hx7 := (ho.off.block B (blk_lt HX6.out) HN6.out).trans HX6.out
  have hn7 := ho.here
  obtain ⟨s7, y7, hr7, hp7, hfoot7⟩ := ho.here
  have hf7 : ∀ i, s7.foot i → W.heap.size ≤ i := fun i hi => (hfoot7 i hi).elim (HF4.out i) (Nat.le_trans HB6.out.size)
  have hb7 : Below W.heap.size W w7 := ((RowOut.chain HB6.out HF4.out ho).elim fun _ h => h.elim fun _ h => h.2.2.2)
  have HN7 := Lib.hid (show ¬ s7.foot B from fun hc => (hfoot7 B hc).elim HN6.out (fun h => by have := blk_lt HX6.out; omega))
  have HR7 := Lib.hid hr7
  have HX7 := Lib.hid hx7
  have HF7 := Lib.hid hf7
  have HB7 := Lib.hid hb7
  have HP7 := Lib.hid (hp7.trans HP4.out)
  have hl7 : y7.length = 3 := HP7.out.length_eq
  clear hx7 hn7 hr7 hp7 hfoot7 hf7 hb7 ho HR6 HX6 HB6 HP4 HF4 HN6 hl4
  go_wp2_with fail
  refine (take_calls HR7.out (by omega) 9).mono ?_
  rintro e w8 ⟨v8, rfl, out, rest, ht⟩
  have hrest : rest = [] := by
    rcases rest with _ | ⟨z, t⟩
    · rfl
    · have h1 := ht.done z (by simp)
      have h2 : z ∈ [(0, 7, 9), (0, 3, 9), (1, 1, 4)] := HP7.out.mem_iff.1 (ht.took.perm.mem_iff.1 (by simp))
      simp only [List.mem_cons, List.not_mem_nil, or_false] at h2
      rcases h2 with rfl | rfl | rfl <;> simp at h1
  subst hrest
  have hout : out = [(1, 1, 4), (0, 3, 9), (0, 7, 9)] := by
    have hp := ht.took.perm.trans HP7.out
    rw [List.append_nil] at hp
    refine List.Perm.eq_of_pairwise (le := le) (fun a b _ _ => le_anti) ht.took.sorted ?_ (hp.trans ?_)
    · simp only [List.pairwise_cons, List.mem_cons, List.not_mem_nil, or_false, forall_eq_or_imp, forall_eq, le_iff, List.Pairwise.nil]
      simp
    · decide
  subst hout
  have hx8 := (ht.off.block B (blk_lt HX7.out) HN7.out).trans HX7.out
  obtain ⟨s8, hr8, hfoot8, _⟩ := ht.here
  have hb8 : Below W.heap.size W w8 := ⟨ht.off.os.trans HB7.out.os, ht.off.tape.trans HB7.out.tape, ht.off.output.trans HB7.out.output, Nat.le_trans HB7.out.size ht.off.size, fun i hi => (ht.off.block i (Nat.lt_of_lt_of_le hi HB7.out.size) (fun hc => by have := HF7.out i hc; omega)).trans (HB7.out.block i hi)⟩
  have hown := ht.own
  rcases hown.2 with ⟨_, h0⟩ | ⟨g, cap, cur, hv, _, hg, hle, _, _, _⟩
  · simp at h0
  have hcell : ∀ j u, (flat [(1, 1, 4), (0, 3, 9), (0, 7, 9)])[j]? = some u → w8.cell? ⟨g, j, none⟩ = some u := fun j u hj => by
    rw [hv] at hown
    rw [hown.cellAt j (by have := (List.getElem?_eq_some_iff.1 hj).1; simpa [flat, Lz.cs] using this)]
    exact hj
  have d0 := hcell 0 _ rfl
  have d1 := hcell 1 _ rfl
  have d2 := hcell 2 _ rfl
  have d3 := hcell 3 _ rfl
  have d4 := hcell 4 _ rfl
  have d5 := hcell 5 _ rfl
  have d6 := hcell 6 _ rfl
  have d7 := hcell 7 _ rfl
  have d8 := hcell 8 _ rfl
  have b0 := cell_of_row _ _ 0 _ _ _ hx8
  have b1 := cell_of_row _ _ 1 _ _ _ hx8
  have b2 := cell_of_row _ _ 2 _ _ _ hx8
  simp at b0 b1 b2
  rw [hv]
  have HR8 := Lib.hid hr8
  have HB8 := Lib.hid hb8
  have hv3 : (List.length [((1 : Int), (1 : Int), (4 : Int)), (0, 3, 9), (0, 7, 9)]) = 3 := rfl
  rw [hv3]
  clear hcell hown hx8 hfoot8 hr8 hb8 hg hv hle ht HX7 HN7 HB7 HF7 HR7 HP7 hl7 hv3
  go_wp2_with fail
  refine (lease_Till.calls 5 10 15 0 _ (by decide)).mono ?_
  rintro e w9 ⟨rfl, hd⟩
  have hb := hd.below
  have d0 := pw_cell_below hb d0
  have d1 := pw_cell_below hb d1
  have d2 := pw_cell_below hb d2
  have d3 := pw_cell_below hb d3
  have d4 := pw_cell_below hb d4
  have d5 := pw_cell_below hb d5
  have d6 := pw_cell_below hb d6
  have d7 := pw_cell_below hb d7
  have d8 := pw_cell_below hb d8
  have b0 := pw_cell_below hb b0
  have b1 := pw_cell_below hb b1
  have b2 := pw_cell_below hb b2
  have HR9 := Lib.hid (HR8.out.below hb)
  have HB9 := Lib.hid (below_then HB8.out HB8.out.size hb)
  clear hd hb HR8 HB8
  go_wp2_with fail
  have KB : ∀ w w', Below w.heap.size w w' → (fun W' => W'.cell? ⟨B, 0, none⟩ = some (.int .i64 1) ∧ W'.cell? ⟨B, 1, none⟩ = some (.int .u32 1) ∧ W'.cell? ⟨B, 2, none⟩ = some (.int .u64 4) ∧ W'.cell? ⟨g, 0, none⟩ = some (.int .i64 1) ∧ W'.cell? ⟨g, 1, none⟩ = some (.int .u32 1) ∧ W'.cell? ⟨g, 2, none⟩ = some (.int .u64 4) ∧ W'.cell? ⟨g, 3, none⟩ = some (.int .i64 0) ∧ W'.cell? ⟨g, 4, none⟩ = some (.int .u32 3) ∧ W'.cell? ⟨g, 5, none⟩ = some (.int .u64 9) ∧ W'.cell? ⟨g, 6, none⟩ = some (.int .i64 0) ∧ W'.cell? ⟨g, 7, none⟩ = some (.int .u32 7) ∧ W'.cell? ⟨g, 8, none⟩ = some (.int .u64 9) ∧ Hid (RowAt W' r s8 [] ∧ Below W.heap.size W W')) w → (fun W' => W'.cell? ⟨B, 0, none⟩ = some (.int .i64 1) ∧ W'.cell? ⟨B, 1, none⟩ = some (.int .u32 1) ∧ W'.cell? ⟨B, 2, none⟩ = some (.int .u64 4) ∧ W'.cell? ⟨g, 0, none⟩ = some (.int .i64 1) ∧ W'.cell? ⟨g, 1, none⟩ = some (.int .u32 1) ∧ W'.cell? ⟨g, 2, none⟩ = some (.int .u64 4) ∧ W'.cell? ⟨g, 3, none⟩ = some (.int .i64 0) ∧ W'.cell? ⟨g, 4, none⟩ = some (.int .u32 3) ∧ W'.cell? ⟨g, 5, none⟩ = some (.int .u64 9) ∧ W'.cell? ⟨g, 6, none⟩ = some (.int .i64 0) ∧ W'.cell? ⟨g, 7, none⟩ = some (.int .u32 7) ∧ W'.cell? ⟨g, 8, none⟩ = some (.int .u64 9) ∧ Hid (RowAt W' r s8 [] ∧ Below W.heap.size W W')) w' := by
    rintro w w' hb ⟨a1, a2, a3, a4, a5, a6, a7, a8, a9, a10, a11, a12, a13⟩
    exact ⟨pw_cell_below hb a1, pw_cell_below hb a2, pw_cell_below hb a3, pw_cell_below hb a4, pw_cell_below hb a5, pw_cell_below hb a6, pw_cell_below hb a7, pw_cell_below hb a8, pw_cell_below hb a9, pw_cell_below hb a10, pw_cell_below hb a11, pw_cell_below hb a12, Lib.hid ⟨a13.out.1.below hb, below_then a13.out.2 a13.out.2.size hb⟩⟩
  have SH := KB w9 w9.drew (Below.drew (Below.refl _ _)) ⟨b0, b1, b2, d0, d1, d2, d3, d4, d5, d6, d7, d8, Lib.hid ⟨HR9.out, HB9.out⟩⟩
  have RL : ∀ w, (fun W' => W'.cell? ⟨B, 0, none⟩ = some (.int .i64 1) ∧ W'.cell? ⟨B, 1, none⟩ = some (.int .u32 1) ∧ W'.cell? ⟨B, 2, none⟩ = some (.int .u64 4) ∧ W'.cell? ⟨g, 0, none⟩ = some (.int .i64 1) ∧ W'.cell? ⟨g, 1, none⟩ = some (.int .u32 1) ∧ W'.cell? ⟨g, 2, none⟩ = some (.int .u64 4) ∧ W'.cell? ⟨g, 3, none⟩ = some (.int .i64 0) ∧ W'.cell? ⟨g, 4, none⟩ = some (.int .u32 3) ∧ W'.cell? ⟨g, 5, none⟩ = some (.int .u64 9) ∧ W'.cell? ⟨g, 6, none⟩ = some (.int .i64 0) ∧ W'.cell? ⟨g, 7, none⟩ = some (.int .u32 7) ∧ W'.cell? ⟨g, 8, none⟩ = some (.int .u64 9) ∧ Hid (RowAt W' r s8 [] ∧ Below W.heap.size W W')) w → Calls Try.prog 26 #[.pointer (some ⟨r, 0, none⟩)] w fun e w' => e = .returned (.int .i64 0) ∧ Below w.heap.size w w' := fun w h => rlen_calls h.2.2.2.2.2.2.2.2.2.2.2.2.out.1 (by simp)
  have i0 : (0 : Int) < ((3 : Nat) : Int) := by omega
  have i1 : (1 : Int) < ((3 : Nat) : Int) := by omega
  have i2 : (2 : Int) < ((3 : Nat) : Int) := by omega
  dsimp only at SH KB RL
  have FIN : ∀ w, (fun W' => W'.cell? ⟨B, 0, none⟩ = some (.int .i64 1) ∧ W'.cell? ⟨B, 1, none⟩ = some (.int .u32 1) ∧ W'.cell? ⟨B, 2, none⟩ = some (.int .u64 4) ∧ W'.cell? ⟨g, 0, none⟩ = some (.int .i64 1) ∧ W'.cell? ⟨g, 1, none⟩ = some (.int .u32 1) ∧ W'.cell? ⟨g, 2, none⟩ = some (.int .u64 4) ∧ W'.cell? ⟨g, 3, none⟩ = some (.int .i64 0) ∧ W'.cell? ⟨g, 4, none⟩ = some (.int .u32 3) ∧ W'.cell? ⟨g, 5, none⟩ = some (.int .u64 9) ∧ W'.cell? ⟨g, 6, none⟩ = some (.int .i64 0) ∧ W'.cell? ⟨g, 7, none⟩ = some (.int .u32 7) ∧ W'.cell? ⟨g, 8, none⟩ = some (.int .u64 9) ∧ Hid (RowAt W' r s8 [] ∧ Below W.heap.size W W')) w → Below W.heap.size W w := fun w h => h.2.2.2.2.2.2.2.2.2.2.2.2.out.2
  dsimp only at FIN
  replace FIN := Lib.hid FIN
  replace KB := Lib.hid KB
  replace RL := Lib.hid RL
  clear b0 b1 b2 d0 d1 d2 d3 d4 d5 d6 d7 d8 HR9 HB9
  have G1 : Hid (lease_Gone.f true 0 ⟨#[]⟩ 0 0 0 9 9 = some true) := Lib.hid (by simp [lease_Gone.f])
  have G2 : Hid (lease_Gone.f true 0 ⟨#[]⟩ 0 0 0 9 8 = some false) := Lib.hid (by simp [lease_Gone.f])
  have G3 : Hid (lease_Gone.f false 0 ⟨#[]⟩ 0 0 0 0 9 = some false) := Lib.hid (by simp [lease_Gone.f])
  have E1 : ∀ w, Calls Try.prog 13 #[.agg #[.bool true, .int .u32 0, .string ⟨#[]⟩, .int .i64 0, .int .i64 0, .int .i64 0, .int .u64 9], .int .u64 9] w fun e w' => e = .returned (.bool true) ∧ Below w.heap.size w w' := fun w => lease_Gone.calls true 0 ⟨#[]⟩ 0 0 0 9 9 true w G1.out
  have E2 : ∀ w, Calls Try.prog 13 #[.agg #[.bool true, .int .u32 0, .string ⟨#[]⟩, .int .i64 0, .int .i64 0, .int .i64 0, .int .u64 9], .int .u64 8] w fun e w' => e = .returned (.bool false) ∧ Below w.heap.size w w' := fun w => lease_Gone.calls true 0 ⟨#[]⟩ 0 0 0 9 8 false w G2.out
  have E3 : ∀ w, Calls Try.prog 13 #[.agg #[.bool false, .int .u32 0, .string ⟨#[]⟩, .int .i64 0, .int .i64 0, .int .i64 0, .int .u64 0], .int .u64 9] w fun e w' => e = .returned (.bool false) ∧ Below w.heap.size w w' := fun w => lease_Gone.calls false 0 ⟨#[]⟩ 0 0 0 0 9 false w G3.out
  replace E1 := Lib.hid E1
  replace E2 := Lib.hid E2
  replace E3 := Lib.hid E3
  go_region_held3 (fun W' => W'.cell? ⟨B, 0, none⟩ = some (.int .i64 1) ∧ W'.cell? ⟨B, 1, none⟩ = some (.int .u32 1) ∧ W'.cell? ⟨B, 2, none⟩ = some (.int .u64 4) ∧ W'.cell? ⟨g, 0, none⟩ = some (.int .i64 1) ∧ W'.cell? ⟨g, 1, none⟩ = some (.int .u32 1) ∧ W'.cell? ⟨g, 2, none⟩ = some (.int .u64 4) ∧ W'.cell? ⟨g, 3, none⟩ = some (.int .i64 0) ∧ W'.cell? ⟨g, 4, none⟩ = some (.int .u32 3) ∧ W'.cell? ⟨g, 5, none⟩ = some (.int .u64 9) ∧ W'.cell? ⟨g, 6, none⟩ = some (.int .i64 0) ∧ W'.cell? ⟨g, 7, none⟩ = some (.int .u32 7) ∧ W'.cell? ⟨g, 8, none⟩ = some (.int .u64 9) ∧ Hid (RowAt W' r s8 [] ∧ Below W.heap.size W W')) (first | assumption | exact KB.out _ _ (by assumption) (by assumption))
    (first
      | (go_at_call 26; refine (RL.out _ (by assumption)).mono ?_; rintro e w' ⟨rfl, hd⟩)
      | (go_at_call 13; with_reducible refine (E1.out _).mono ?_; rintro e w' ⟨rfl, hd⟩)
      | (go_at_call 13; with_reducible refine (E2.out _).mono ?_; rintro e w' ⟨rfl, hd⟩)
      | (go_at_call 13; with_reducible refine (E3.out _).mono ?_; rintro e w' ⟨rfl, hd⟩))
  have HFIN := Lib.hid (FIN.out _ (by assumption))
  go_wp2_with fail
  go_ret
  exact ⟨rfl, HFIN.out⟩
end Go.Proofs.Ytfkbiecbnjddmaa
