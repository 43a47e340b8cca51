/- A row that is none. -/
import Derived.Test.YtfkbiecbnjddmaaLTake
namespace Go.Proofs.Ytfkbiecbnjddmaa
open Go.RowKit Go.MapKept Go.ChangeMaps Go.Proofs.YtfkbiecbnjddmaaW.PrintWords
set_option linter.unusedVariables false
set_option maxHeartbeats 2000000
set_option maxRecDepth 100000
theorem own_nil_calls {W : World} :
    Calls Try.prog 28 #[.pointer none] W fun e w' => e = .returned (.tuple #[.agg #[.pointer none], .bool false]) ∧ Below W.heap.size W w' := by
  go_enter Try.func28, Try.ntmps28
  go_wp2_with fail
  refine bodyPost_ret (results_ct rfl _ _ W.heap.size 78 #[.pointer none] (0, 0) _ rfl (blk_new W _) Try.underlying78 rfl (by kernel_rfl)) rfl ?_
  exact ⟨rfl, below_alloc (Below.refl _ _) _⟩
theorem len_nil_calls {W : World} :
    Calls Try.prog 26 #[.pointer none] W fun e w' => e = .returned (.int .i64 0) ∧ Below W.heap.size W w' := by
  go_enter Try.func26, Try.ntmps26
  go_wp2_with fail
  refine own_nil_calls.mono ?_
  rintro e w1 ⟨rfl, hb⟩
  go_wp2_with fail
  go_ret
  exact ⟨rfl, hb.alloc hb.size _⟩
theorem drop_nil_calls {W : World} (a b : Int) :
    Calls Try.prog 17 #[.pointer none, .int .i64 a, .int .u32 b] W fun e w' => e = .returned (.int .i64 1) ∧ Below W.heap.size W w' := by
  go_enter Try.func17, Try.ntmps17
  go_wp2_with fail
  refine own_nil_calls.mono ?_
  rintro e w1 ⟨rfl, hb⟩
  go_wp2_with fail
  go_ret
  exact ⟨rfl, hb.alloc hb.size _⟩
theorem add_nil_calls {W : World} (x : Lz) :
    Calls Try.prog 22 #[.pointer none, x.val] W fun e w' => e = .returned (.int .i64 1) ∧ Below W.heap.size W w' := by
  unfold Lz.val
  go_enter Try.func22, Try.ntmps22
  go_wp2_with fail
  refine own_nil_calls.mono ?_
  rintro e w1 ⟨rfl, hb⟩
  have hb2 := below_then (below_alloc (Below.refl W.heap.size W) _) (by simp) hb
  go_wp2_with fail
  go_ret
  exact ⟨rfl, hb2.alloc hb2.size _⟩
theorem first_nil_calls {W : World} :
    Calls Try.prog 24 #[.pointer none] W fun e w' => e = .returned (.tuple #[.agg #[.int .i64 0, .int .u32 0, .int .u64 0], .bool false]) ∧ Below W.heap.size W w' := by
  go_enter Try.func24, Try.ntmps24
  go_wp2_with fail
  refine own_nil_calls.mono ?_
  rintro e w1 ⟨rfl, hb⟩
  have HB := Lib.hid (below_then (below_alloc (Below.refl W.heap.size W) _) (by simp) hb)
  have HG := Lib.hid (blk_below (blk_new W _) hb)
  clear hb
  obtain ⟨G, hG⟩ : ∃ G, W.heap.size = G := ⟨_, rfl⟩
  have HGG := Lib.hid hG
  rw [hG] at HG
  rw [hG]
  clear hG
  have HG2 := Lib.hid (blk_alloc HG.out (.cells #[.pointer none] 78))
  have gc0 := blk_cell HG2.out 0
  have gc1 := blk_cell HG2.out 1
  have gc2 := blk_cell HG2.out 2
  have gf0 := blk_frozen HG2.out 0
  have gf1 := blk_frozen HG2.out 1
  have gf2 := blk_frozen HG2.out 2
  simp at gc0 gc1 gc2
  go_wp2_with fail
  refine bodyPost_ret (results_ct rfl _ _ G 55 #[.int .i64 0, .int .u32 0, .int .u64 0] (0, 0) _ rfl ?_ Try.underlying55 rfl (by kernel_rfl)) rfl ?_
  · have := blk_set (blk_set (blk_set HG2.out 0 (.int .i64 0)) 1 (.int .u32 0)) 2 (.int .u64 0)
    simpa using this
  · refine ⟨rfl, ?_⟩
    have hGs : W.heap.size ≤ G := Nat.le_of_eq HGG.out
    have hb2 := HB.out.alloc HB.out.size (.cells #[.pointer none] 78)
    exact ((hb2.setCell (p := ⟨G, 0, none⟩) hGs _).setCell (p := ⟨G, 1, none⟩) hGs _).setCell (p := ⟨G, 2, none⟩) hGs _
theorem take_nil_calls {W : World} (now : Int) :
    Calls Try.prog 19 #[.pointer none, .int .u64 now] W fun e w' => e = .returned (.slice none 0 0) ∧ Below W.heap.size W w' := by
  go_enter Try.func19, Try.ntmps19
  go_wp2_with fail
  refine first_nil_calls.mono ?_
  rintro e w1 ⟨rfl, hb⟩
  go_wp2_with fail
  obtain ⟨w2, hw2⟩ : ∃ w2, w1.alloc (.cells #[.int .i64 0, .int .u32 0, .int .u64 0] 55) = w2 := ⟨_, rfl⟩
  rw [hw2]
  have HB := Lib.hid (show Below W.heap.size W w2 by rw [← hw2]; exact hb.alloc hb.size _)
  clear hw2 hb
  go_loopw [4, 6] (fun v4 v6 wr => v4 = .slice none 0 0 ∧ v6 = .bool false ∧ Hid (Below W.heap.size W wr)) (fun _ _ _ => 0)
  case atStart => exact ⟨rfl, rfl, HB⟩
  case round =>
    obtain ⟨rfl, rfl, HB⟩ := hrel
    go_wp2_with fail
    go_ret
    exact ⟨rfl, HB.out⟩
end Go.Proofs.Ytfkbiecbnjddmaa
