/- Row.Take. -/
import Derived.Test.YtfkbiecbnjddmaaLAdd2
namespace Go.Proofs.Ytfkbiecbnjddmaa
open Go.RowKit Go.MapKept Go.ChangeMaps Go.Proofs.YtfkbiecbnjddmaaW.PrintWords
set_option linter.unusedVariables false
theorem RowAt.move {W W' : World} {r : Nat} {s : St} {xs : List Lz} (h : RowAt W r s xs) (hm : ∀ i, i < W.heap.size → s.foot i ∨ i = r → W'.heap[i]? = W.heap[i]?) : RowAt W' r s xs := by
  obtain ⟨n, hn⟩ := h.is.map
  refine ⟨⟨(hm _ (blk_lt h.is.list) (.inl (.inl rfl))).trans h.is.list, own_move h.is.own (fun k hk => hm k (own_lt h.is.own k hk) (.inl (.inr (.inr hk)))), ⟨n, hn.congr (hm _ hn.lt (.inl (.inr (.inl rfl)))) (fun _ _ => Iff.rfl)⟩, h.is.okays, h.is.keys⟩, (hm r (blk_lt h.row) (.inr rfl)).trans h.row, h.heap⟩
theorem Off.setNew {S : Nat → Prop} {w w1 : World} (h : Off S w w1) {p : Addr} (hp : w.heap.size ≤ p.block) (u : Value) : Off S w (w1.setCell p u) := by
  refine ⟨?_, ?_, ?_, ?_, fun i hi hs => ?_⟩
  · rw [← h.os]; unfold World.setCell; split <;> rfl
  · rw [← h.tape]; unfold World.setCell; split <;> rfl
  · rw [← h.output]; unfold World.setCell; split <;> rfl
  · have : (w1.setCell p u).heap.size = w1.heap.size := by simp [World.setCell]
    rw [this]; exact h.size
  · rw [Below.heap_setCell w1 p u i (by omega)]; exact h.block i hi hs
/-- what has been taken, and what is left -/
structure Took (xs out rest : List Lz) (now : Int) : Prop where
  perm : (out ++ rest).Perm xs
  over : ∀ a ∈ out, a.2.2 ≤ now
  sorted : out.Pairwise le
  ahead : ∀ a ∈ out, ∀ b ∈ rest, le a b
theorem Took.step {xs out rest : List Lz} {now : Int} (h : Took xs out rest now) (hh : HeapF (ix rest) rest.length) (hr : 0 < rest.length) (hn : (ix rest 0).2.2 ≤ now) {ys : List Lz} (hy : ys.Perm (rest.erase (ix rest 0))) : Took xs (out ++ [ix rest 0]) ys now := by
  have hmem : ix rest 0 ∈ rest := List.mem_of_getElem? (ix_some hr)
  have hmin : ∀ b ∈ rest, le (ix rest 0) b := by
    intro b hb
    obtain ⟨i, hi⟩ := List.getElem?_of_mem hb
    rw [← ix_get hi]
    exact hh.least i (List.getElem?_eq_some_iff.1 hi).1
  have hsub : ∀ b ∈ ys, b ∈ rest := fun b hb => List.mem_of_mem_erase (hy.mem_iff.1 hb)
  refine ⟨?_, ?_, ?_, ?_⟩
  · refine List.Perm.trans ?_ h.perm
    rw [List.append_assoc]
    refine List.Perm.append_left _ ?_
    exact (List.Perm.cons _ hy).trans (List.perm_cons_erase hmem).symm
  · intro a ha
    rcases List.mem_append.1 ha with ha | ha
    · exact h.over a ha
    · rw [List.mem_singleton.1 ha]; exact hn
  · rw [List.pairwise_append]
    exact ⟨h.sorted, List.pairwise_singleton _ _, fun a ha b hb => by rw [List.mem_singleton.1 hb]; exact h.ahead a ha _ hmem⟩
  · intro a ha b hb
    rcases List.mem_append.1 ha with ha | ha
    · exact h.ahead a ha b (hsub b hb)
    · rw [List.mem_singleton.1 ha]; exact hmin b (hsub b hb)

/-- the state of Take's loop -/
structure TakeAt (W W' : World) (r : Nat) (s : St) (xs out rest : List Lz) (now : Int) (v : Value) (B : Nat) : Prop where
  took : Took xs out rest now
  off : Off s.foot W W'
  here : ∃ s', RowAt W' r s' rest ∧ (∀ i, s'.foot i → s.foot i ∨ W.heap.size ≤ i) ∧ ¬ s'.foot B ∧ (∀ k, v.ownBlock = some k → ¬ s'.foot k ∧ k ≠ B)
  box : W'.heap[B]? = some (.cells (ix rest 0).cs.toArray 55 (0, 0))
  new : W.heap.size ≤ B
  own : W'.ownsRow W.heap.size 55 3 v out.length (flat out)
/-- what Take leaves -/
structure TakeOut (W W' : World) (r : Nat) (s : St) (xs : List Lz) (now : Int) (v : Value) (out rest : List Lz) : Prop where
  took : Took xs out rest now
  done : ∀ b ∈ rest, now < b.2.2
  off : Off s.foot W W'
  here : ∃ s', RowAt W' r s' rest ∧ (∀ i, s'.foot i → s.foot i ∨ W.heap.size ≤ i) ∧ (∀ k, v.ownBlock = some k → ¬ s'.foot k)
  own : W'.ownsRow W.heap.size 55 3 v out.length (flat out)
theorem TakeAt.over {W W' : World} {r : Nat} {s : St} {xs out rest : List Lz} {now : Int} {v : Value} {B : Nat} (h : TakeAt W W' r s xs out rest now v B) (hd : rest = [] ∨ now < (ix rest 0).2.2) : TakeOut W W' r s xs now v out rest := by
  obtain ⟨h1, h2, ⟨s', h3, h4, h5, h6⟩, h7, h8, h9⟩ := h
  refine ⟨h1, fun b hb => ?_, h2, ⟨s', h3, h4, fun k hk => (h6 k hk).1⟩, h9⟩
  rcases hd with rfl | hd
  · simp at hb
  · obtain ⟨i, hi⟩ := List.getElem?_of_mem hb
    have := h3.heap.least i (List.getElem?_eq_some_iff.1 hi).1
    rw [ix_get hi, le_iff] at this
    omega
set_option maxHeartbeats 2000000
set_option maxRecDepth 100000
theorem take_calls {W : World} {r : Nat} {s : St} {xs : List Lz} (h : RowAt W r s xs) (hl : xs.length ≤ 1000) (now : Int) :
    Calls Try.prog 19 #[.pointer (some ⟨r, 0, none⟩), .int .u64 now] W fun e w' => ∃ v, e = .returned v ∧ ∃ out rest, TakeOut W w' r s xs now v out rest := by
  have H := Lib.hid h
  clear h
  go_enter Try.func19, Try.ntmps19
  go_wp2_with fail
  refine (first_calls H.out hl).mono ?_
  rintro e w1 ⟨rfl, hb⟩
  unfold Lz.val
  have HB := Lib.hid hb
  clear hb
  go_wp2_with fail
  obtain ⟨w2, hw2⟩ : ∃ w2, w1.alloc (.cells #[.int .i64 (ix xs 0).1, .int .u32 (ix xs 0).2.1, .int .u64 (ix xs 0).2.2] 55) = w2 := ⟨_, rfl⟩
  rw [hw2]
  have H2 := Lib.hid (show TakeAt W w2 r s xs [] xs now (.slice none 0 0) w1.heap.size by
    have hb2 : Below W.heap.size W w2 := by rw [← hw2]; exact HB.out.alloc HB.out.size _
    refine ⟨⟨.refl _, by simp, .nil, by simp⟩, Off.below hb2, ⟨s, H.out.below hb2, fun i hi => .inl hi, fun hf => ?_, fun k hk => by simp [Value.ownBlock] at hk⟩, by rw [← hw2]; exact blk_new w1 _, HB.out.size, own_nil _ _ _ _⟩
    have := H.out.is.foot_lt _ hf
    have := HB.out.size
    omega)
  obtain ⟨B, hB⟩ : ∃ B, w1.heap.size = B := ⟨_, rfl⟩
  rw [hB] at H2
  rw [hB]
  clear hw2 hB HB
  go_loopg [4, 5, 6] xs.length (fun kq v4 v5 v6 wr => ∃ out rest B', kq = rest.length ∧ rest.length ≤ 1000 ∧ v5 = .pointer (some ⟨B', 0, none⟩) ∧ v6 = .bool (decide (0 < rest.length)) ∧ Hid (TakeAt W wr r s xs out rest now v4 B'))
  case atStart => exact ⟨[], xs, B, rfl, hl, rfl, rfl, H2⟩
  case round =>
    clear H2
    obtain ⟨out, rest, B', hkq, hrl, rfl, rfl, HT⟩ := hrel
    have bx := HT.out.box
    simp only [Lz.cs] at bx
    obtain ⟨s', hR, hF, hFB, hFv⟩ := HT.out.here
    have b0 : wr.cell? ⟨B', 0, none⟩ = some (.int .i64 (ix rest 0).1) := cell_of_row _ _ 0 _ _ _ bx
    have b1 : wr.cell? ⟨B', 1, none⟩ = some (.int .u32 (ix rest 0).2.1) := cell_of_row _ _ 1 _ _ _ bx
    have b2 : wr.cell? ⟨B', 2, none⟩ = some (.int .u64 (ix rest 0).2.2) := cell_of_row _ _ 2 _ _ _ bx
    have br : wr.cell? ⟨r, 0, none⟩ = some (.iface 78 (.agg #[.pointer (some ⟨s'.L, 0, none⟩)])) := cell_of_row _ _ 0 _ _ _ hR.row
    have HBX := Lib.hid bx
    have HR := Lib.hid hR
    have HF := Lib.hid hF
    have HFB := Lib.hid hFB
    have HFV := Lib.hid hFv
    clear bx hR hF hFB hFv
    by_cases h0 : 0 < rest.length
    · have d0 : decide (0 < rest.length) = true := decide_eq_true h0
      rw [d0]
      by_cases h1 : (ix rest 0).2.2 ≤ now
      · have d1 : decide ((ix rest 0).2.2 ≤ now) = true := decide_eq_true h1
        have HD0 := Lib.hid d0
        clear d0
        go_wp2_with fail
        obtain ⟨m, hm⟩ : ∃ m, rest.length = m + 1 := ⟨rest.length - 1, by omega⟩
        refine (hpop_calls HR.out.is HR.out.heap hm hrl).mono ?_
        rintro e w3 ⟨rfl, ho⟩
        have hOFF := ho.off
        obtain ⟨s3, ys, hI3, hp3, hh3, hL3, hM3, hf3⟩ := ho.here
        have hR3 : RowAt w3 r s3 ys := ⟨hI3, by
          rw [hOFF.block r (blk_lt HR.out.row) (HR.out.is.foot_ne HR.out.row (by decide) (by decide)), HR.out.row]
          unfold hv rowPtr
          rw [hL3], hh3⟩
        have hTK := HT.out.took.step HR.out.heap h0 h1 hp3
        have hyl : ys.length + 1 = rest.length := by
          rw [hp3.length_eq, List.length_erase_of_mem (List.mem_of_getElem? (ix_some h0))]
          omega
        have hbx : w3.heap[B']? = some (.cells #[.int .i64 (ix rest 0).1, .int .u32 (ix rest 0).2.1, .int .u64 (ix rest 0).2.2] 55 (0, 0)) := (hOFF.block B' (blk_lt HBX.out) HFB.out).trans HBX.out
        have hB3 : ¬ s3.foot B' := fun hc => (hf3 B' hc).elim HFB.out (fun h => by have := blk_lt HBX.out; omega)
        have hv3 : ∀ k, u4.ownBlock = some k → ¬ s3.foot k ∧ k ≠ B' := fun k hk => ⟨fun hc => (hf3 k hc).elim (HFV.out k hk).1 (fun h => by have := own_lt HT.out.own k hk; omega), (HFV.out k hk).2⟩
        have ho3 : w3.ownsRow W.heap.size 55 3 u4 out.length (flat out) := own_move HT.out.own (fun k hk => hOFF.block k (own_lt HT.out.own k hk) (HFV.out k hk).1)
        have hO3 : Off s.foot W w3 := HT.out.off.trans hOFF HF.out
        have hF3 : ∀ i, s3.foot i → s.foot i ∨ W.heap.size ≤ i := fun i hi => (hf3 i hi).elim (HF.out i) (fun h => .inr (Nat.le_trans HT.out.off.size h))
        have c0 : w3.cell? ⟨B', 0, none⟩ = some (.int .i64 (ix rest 0).1) := cell_of_row _ _ 0 _ _ _ hbx
        have c1 : w3.cell? ⟨B', 1, none⟩ = some (.int .u32 (ix rest 0).2.1) := cell_of_row _ _ 1 _ _ _ hbx
        have c2 : w3.cell? ⟨B', 2, none⟩ = some (.int .u64 (ix rest 0).2.2) := cell_of_row _ _ 2 _ _ _ hbx
        have hol : out.length ≤ 1000 := by
          have h1 := HT.out.took.perm.length_eq
          rw [List.length_append] at h1
          omega
        have HR3 := Lib.hid hR3
        have HTK := Lib.hid hTK
        have HYL := Lib.hid hyl
        have HBX3 := Lib.hid hbx
        have HB3 := Lib.hid hB3
        have HV3 := Lib.hid hv3
        have HO3 := Lib.hid hO3
        have HF3 := Lib.hid hF3
        have HOW3 := Lib.hid ho3
        clear hOFF hI3 hp3 hh3 hL3 hM3 hf3 hR3 hTK hyl hbx hB3 hv3 ho3 hO3 hF3 ho b0 b1 b2 br
        go_wp2_with ((with_reducible refine gate_builtin (b := .append) (xs := #[.tmp 29, .tmp 31]) rfl ?_); at_builtin; refine print_append_cells (w0 := w3) W.heap.size rfl (.tmp 29) (.tmp 31) 50 55 (.agg #[.int .i64 0, .int .u32 0, .int .u64 0]) 3 24 rfl Try.underlying50 (by kernel_rfl) rfl (by decide) (by decide) u4 out.length (flat out) (ix rest 0).cs rfl rfl rfl (by simp [Lz.cs, Value.oneCell']) HOW3.out (Below.refl _ w3) HO3.out.size (by omega) ?_; intro v5 w5 hown5 hb5 hg5 hat5; have hbx5 := blk_grown HBX3.out hg5 (fun e => (HV3.out B' e.symm).2 rfl); have HBX5 := Lib.hid hbx5; have b0 := cell_of_row _ _ 0 _ _ _ hbx5; have b1 := cell_of_row _ _ 1 _ _ _ hbx5; have b2 := cell_of_row _ _ 2 _ _ _ hbx5; simp at b0 b1 b2; have HOWN5 := Lib.hid hown5; have HG5 := Lib.hid hg5; have HAT5 := Lib.hid hat5; clear hown5 hb5 hg5 hat5 hbx5 c0 c1 c2)
        obtain ⟨w6, hw6⟩ : ∃ w6, w5.alloc (.cells #[.int .i64 (ix rest 0).1, .int .u32 (ix rest 0).2.1, .int .u64 (ix rest 0).2.2] 55) = w6 := ⟨_, rfl⟩
        rw [hw6]
        have hb6 : Below w5.heap.size w5 w6 := by rw [← hw6]; exact below_alloc (Below.refl _ _) _
        have hR5 : RowAt w5 r s3 ys := HR3.out.move (fun i hi hf => HG5.out.block i hi (fun e => by
          rcases hf with hf | rfl
          · exact (HV3.out i e.symm).1 hf
          · exact own_ne HOW3.out HR3.out.row (by decide) e))
        have hO5 : Off s.foot W w5 := HO3.out.grown HG5.out (fun k hk => .inr (own_base HOW3.out k hk))
        have HR6 := Lib.hid (hR5.below hb6)
        have HO6 := Lib.hid (hO5.of_below hb6)
        have HOWN6 := Lib.hid (pw_own_below HOWN5.out hb6)
        have HNB := Lib.hid (show ¬ s3.foot w5.heap.size from fun hc => by have := hR5.is.foot_lt _ hc; omega)
        have HNV := Lib.hid (show ∀ k, v5.ownBlock = some k → ¬ s3.foot k ∧ k ≠ w5.heap.size from fun k hk => ⟨fun hc => by
          rcases HAT5.out with ha | ⟨b, hb, hbl⟩
          · exact (HV3.out k (ha ▸ hk)).1 hc
          · rw [hb] at hk
            cases hk
            have := HR3.out.is.foot_lt _ hc
            omega, fun e => by have := own_lt HOWN5.out k hk; omega⟩)
        have HNW := Lib.hid (show W.heap.size ≤ w5.heap.size from hO5.size)
        have HBX6 := Lib.hid (show w6.heap[w5.heap.size]? = some (.cells #[.int .i64 (ix rest 0).1, .int .u32 (ix rest 0).2.1, .int .u64 (ix rest 0).2.2] 55 (0, 0)) by rw [← hw6]; exact blk_new w5 _)
        obtain ⟨B2, hB2⟩ : ∃ B2, w5.heap.size = B2 := ⟨_, rfl⟩
        rw [hB2] at HNB HNV HNW HBX6
        rw [hB2]
        clear hw6 hb6 hR5 hO5 hB2 b0 b1 b2
        have hyr : ys.length ≤ 1000 := by have := HYL.out; omega
        refine (first_calls HR6.out hyr).mono ?_
        rintro e w7 ⟨rfl, hb⟩
        have HR7 := Lib.hid (HR6.out.below hb)
        have HO7 := Lib.hid (HO6.out.of_below hb)
        have HOWN7 := Lib.hid (pw_own_below HOWN6.out hb)
        have HBX7 := Lib.hid (blk_below HBX6.out hb)
        clear hb HR6 HO6 HOWN6 HBX6
        have b0 := cell_of_row _ _ 0 _ _ _ HBX7.out
        have b1 := cell_of_row _ _ 1 _ _ _ HBX7.out
        have b2 := cell_of_row _ _ 2 _ _ _ HBX7.out
        have f0 := blk_frozen HBX7.out 0
        have f1 := blk_frozen HBX7.out 1
        have f2 := blk_frozen HBX7.out 2
        simp at b0 b1 b2
        unfold Lz.val
        go_wp2_with fail
        go_roundg ys.length
        case measure => have := HYL.out; omega
        case rel =>
          refine ⟨out ++ [ix rest 0], ys, B2, rfl, hyr, rfl, rfl, Lib.hid ⟨HTK.out, ?_, ⟨s3, ?_, HF3.out, HNB.out, HNV.out⟩, ?_, HNW.out, ?_⟩⟩
          · exact ((HO7.out.setNew (p := ⟨B2, 0, none⟩) HNW.out _).setNew (p := ⟨B2, 1, none⟩) HNW.out _).setNew (p := ⟨B2, 2, none⟩) HNW.out _
          · refine HR7.out.move fun i hi hf => ?_
            have hne : i ≠ B2 := by
              rintro rfl
              rcases hf with hf | rfl
              · exact HNB.out hf
              · have h1 := HR7.out.row
                rw [HBX7.out] at h1
                simp at h1
            rw [Below.heap_setCell _ _ _ _ hne, Below.heap_setCell _ _ _ _ hne, Below.heap_setCell _ _ _ _ hne]
          · have := blk_set (blk_set (blk_set HBX7.out 0 (.int .i64 (ix ys 0).1)) 1 (.int .u32 (ix ys 0).2.1)) 2 (.int .u64 (ix ys 0).2.2)
            simpa [Lz.cs] using this
          · have hv : ∀ j, some (⟨B2, j, none⟩ : Addr).block ≠ v5.ownBlock := fun j e => (HNV.out B2 e.symm).2 rfl
            have := own_setCell (own_setCell (own_setCell HOWN7.out (hv 0) (.int .i64 (ix ys 0).1)) (hv 1) (.int .u32 (ix ys 0).2.1)) (hv 2) (.int .u64 (ix ys 0).2.2)
            rw [List.length_append, List.length_singleton, show flat (out ++ [ix rest 0]) = flat out ++ (ix rest 0).cs from by simp [flat]]
            exact this
      · have d1 : decide ((ix rest 0).2.2 ≤ now) = false := decide_eq_false h1
        have HD0 := Lib.hid d0
        clear d0
        go_wp2_with fail
        go_ret
        exact ⟨_, rfl, out, rest, HT.out.over (.inr (by omega))⟩
    · have d0 : decide (0 < rest.length) = false := decide_eq_false h0
      have HD0 := Lib.hid d0
      rw [d0]
      clear d0
      go_wp2_with fail
      go_ret
      exact ⟨_, rfl, out, rest, HT.out.over (.inl (List.eq_nil_of_length_eq_zero (by omega)))⟩
end Go.Proofs.Ytfkbiecbnjddmaa
