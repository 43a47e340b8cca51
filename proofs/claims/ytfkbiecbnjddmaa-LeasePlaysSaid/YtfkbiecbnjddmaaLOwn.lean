/- A row's own list; a new row. -/
import Derived.Test.YtfkbiecbnjddmaaLHp
namespace Go.Proofs.Ytfkbiecbnjddmaa
open Go.RowKit Go.MapKept Go.ChangeMaps Go.Proofs.YtfkbiecbnjddmaaW.PrintWords
set_option linter.unusedSimpArgs false
set_option linter.unusedVariables false
/-- A row at block r. -/
structure RowAt (W : World) (r : Nat) (s : St) (xs : List Lz) : Prop where
  is : Is W s xs
  row : W.heap[r]? = some (.cells #[hv s] 82 (0, 0))
  heap : HeapF (ix xs) xs.length
theorem RowAt.below {W W' : World} {r : Nat} {s : St} {xs : List Lz} (h : RowAt W r s xs) (hb : Below W.heap.size W W') : RowAt W' r s xs := ⟨h.is.below hb, blk_below h.row hb, h.heap⟩
theorem Is.foot_lt {W : World} {s : St} {xs : List Lz} (h : Is W s xs) : ∀ i, s.foot i → i < W.heap.size := by
  rintro i (rfl | rfl | hi)
  · exact blk_lt h.list
  · obtain ⟨n, hm⟩ := h.map; exact hm.lt
  · exact own_lt h.own i hi
theorem Is.foot_ne {W : World} {s : St} {xs : List Lz} (h : Is W s xs) {r : Nat} {t : TypeId} {cs : Array Value} (hr : W.heap[r]? = some (.cells cs t (0, 0))) (h1 : t ≠ 76) (h2 : t ≠ 55) : ¬ s.foot r := by
  rintro (rfl | rfl | hi)
  · rw [h.list] at hr
    simp at hr
    exact h1 hr.2.symm
  · obtain ⟨n, hm⟩ := h.map
    exact hm.block_ne hr rfl
  · obtain ⟨cells, hc⟩ := own_typed h.own r hi
    rw [hc] at hr
    simp at hr
    exact h2 hr.2.symm
set_option maxHeartbeats 1000000
set_option maxRecDepth 100000
theorem own_calls {W : World} {r : Nat} {s : St} {xs : List Lz} (h : RowAt W r s xs) :
    Calls Try.prog 28 #[.pointer (some ⟨r, 0, none⟩)] W fun e w' => e = .returned (.tuple #[.agg #[.pointer (some ⟨s.L, 0, none⟩)], .bool true]) ∧ Below W.heap.size W w' := by
  have c0 : W.cell? ⟨r, 0, none⟩ = some (.iface 78 (.agg #[.pointer (some ⟨s.L, 0, none⟩)])) := cell_of_row _ _ 0 _ _ _ h.row
  have hB := below_alloc (Below.refl W.heap.size W) (.cells #[.pointer none] 78)
  have c0' := pw_cell_below hB c0
  go_enter Try.func28, Try.ntmps28
  go_wp2_with fail
  rw [as_sorted]
  go_wp2_with fail
  refine bodyPost_ret (results_ct rfl _ _ W.heap.size 78 #[.pointer (some ⟨s.L, 0, none⟩)] (0, 0) _ rfl (blk_alloc (blk_new W _) _) Try.underlying78 rfl (by kernel_rfl)) rfl ?_
  exact ⟨rfl, below_alloc (below_alloc (Below.refl _ _) _) _⟩
theorem made (W : World) : (Instr.makeMap 74 none).run Try.prog W = .ok (.map (some W.heap.size)) (W.alloc (.map #[] 0)) := by
  simp [Instr.makeMap, run_underlying Try.underlying74, Result.andThen]
theorem new_calls {W : World} :
    Calls Try.prog 16 #[] W fun e w' => ∃ r s, e = .returned (.pointer (some ⟨r, 0, none⟩)) ∧ RowAt w' r s [] ∧ (∀ i, s.foot i → W.heap.size ≤ i) ∧ W.heap.size ≤ r ∧ Below W.heap.size W w' := by
  go_enter Try.func16, Try.ntmps16
  go_wp2_with fail
  rw [made]
  go_wp2_with fail
  go_ret
  refine ⟨W.heap.size + 1 + 1, ⟨W.heap.size + 1, W.heap.size, .slice none 0 0⟩, rfl, ⟨⟨?_, own_nil _ _ _ _, ⟨0, #[], 0, ?_, stamped_empty 0, rfl, by simp, ?_⟩, by simp, by simp⟩, ?_, fun c c0 cn => by simp at cn⟩, ?_, by omega, ?_⟩
  · exact blk_alloc (by simpa using blk_new (W.alloc (.map #[] 0)) _) _
  · exact blk_alloc (blk_alloc (blk_new W _) _) _
  · intro k p
    constructor
    · rintro ⟨j, x, hj, _⟩; simp at hj
    · rintro ⟨e, he, _⟩; simp at he
  · simpa [hv, rowPtr] using blk_new ((W.alloc (.map #[] 0)).alloc (.cells #[.slice none 0 0, .map (some W.heap.size)] 76)) (.cells #[.iface 78 (.agg #[.pointer (some ⟨W.heap.size + 1, 0, none⟩)])] 82)
  · rintro i (rfl | rfl | h)
    · exact Nat.le_succ _
    · exact Nat.le_refl _
    · simp [Value.ownBlock] at h
  · exact below_alloc (below_alloc (below_alloc (Below.refl _ _) _) _) _
/-- what an operation of a row leaves -/
structure RowOut (W W' : World) (r : Nat) (s : St) (zs : List Lz) : Prop where
  off : Off s.foot W W'
  here : ∃ s' ys, RowAt W' r s' ys ∧ ys.Perm zs ∧ ∀ i, s'.foot i → s.foot i ∨ W.heap.size ≤ i
theorem RowOut.of_out {W0 W W' : World} {r : Nat} {s : St} {xs zs : List Lz} (h : RowAt W r s xs) (ho : Off s.foot W0 W) (o : Out W W' s zs) : RowOut W0 W' r s zs := by
  obtain ⟨off, s', ys, h1, h2, h3, h4, h5, h6⟩ := o
  refine ⟨ho.trans off (fun _ h => .inl h), s', ys, ⟨h1, ?_, h3⟩, h2, fun i hi => (h6 i hi).imp id (Nat.le_trans ho.size)⟩
  rw [off.block r (blk_lt h.row) (h.is.foot_ne h.row (by decide) (by decide)), h.row]
  unfold hv rowPtr
  rw [h4]
theorem RowOut.same {W W' : World} {r : Nat} {s : St} {xs : List Lz} (h : RowAt W' r s xs) (ho : Off s.foot W W') : RowOut W W' r s xs := ⟨ho, s, xs, h, .refl _, fun i hi => .inl hi⟩

theorem rlen_calls {W : World} {r : Nat} {s : St} {xs : List Lz} (h : RowAt W r s xs) (hl : xs.length ≤ 1000) :
    Calls Try.prog 26 #[.pointer (some ⟨r, 0, none⟩)] W fun e w' => e = .returned (.int .i64 xs.length) ∧ Below W.heap.size W w' := by
  have H := Lib.hid h
  clear h
  go_enter Try.func26, Try.ntmps26
  go_wp2_with fail
  refine (own_calls H.out).mono ?_
  rintro e w1 ⟨rfl, hb⟩
  have HB := Lib.hid hb
  clear hb
  go_wp2_with fail
  obtain ⟨w2, hw2⟩ : ∃ w2, w1.alloc (.cells #[.pointer (some ⟨s.L, 0, none⟩)] 78) = w2 := ⟨_, rfl⟩
  rw [hw2]
  have HB2 := Lib.hid (show Below W.heap.size W w2 by rw [← hw2]; exact HB.out.alloc HB.out.size _)
  clear hw2
  refine (len_calls (H.out.is.below HB2.out) hl).mono ?_
  rintro e w3 ⟨rfl, hb⟩
  have HB3 := Lib.hid (below_then HB2.out HB2.out.size hb)
  clear hb
  go_wp2_with fail
  go_ret
  exact ⟨rfl, HB3.out⟩
end Go.Proofs.Ytfkbiecbnjddmaa
