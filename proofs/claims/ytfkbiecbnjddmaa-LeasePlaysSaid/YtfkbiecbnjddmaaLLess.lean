import Derived.Test.YtfkbiecbnjddmaaLRow
import Derived.Deep.RegionHeld3
namespace Go.Proofs.Ytfkbiecbnjddmaa
open Go.RowKit Go.MapKept Go.ChangeMaps Go.Proofs.YtfkbiecbnjddmaaW.PrintWords
set_option linter.unusedVariables false
set_option linter.unusedSimpArgs false
def cmpI (a b : Int) : Int := if a < b then -1 else if a > b then 1 else 0
theorem cmp_u64 (a b : Int) : cmp_Compare_uint64.f a b = some (cmpI a b) := by
  simp only [cmp_Compare_uint64.f, cmp_isNaN_uint64.f, Option.bind_some, bne_self_eq_false, Bool.false_eq_true, if_false, cmpI]
  repeat' split
  all_goals rfl
theorem cmp_i64 (a b : Int) : cmp_Compare_int.f a b = some (cmpI a b) := by
  simp only [cmp_Compare_int.f, cmp_isNaN_int.f, Option.bind_some, bne_self_eq_false, Bool.false_eq_true, if_false, cmpI]
  repeat' split
  all_goals rfl
theorem cmp_u32 (a b : Int) : cmp_Compare_uint32.f a b = some (cmpI a b) := by
  simp only [cmp_Compare_uint32.f, cmp_isNaN_uint32.f, Option.bind_some, bne_self_eq_false, Bool.false_eq_true, if_false, cmpI]
  repeat' split
  all_goals rfl
theorem cmp_or (a b c : Int) : cmp_Or_int.f 4 [a, b, c] = some (if a = 0 then (if b = 0 then (if c = 0 then 0 else c) else b) else a) := by
  unfold cmp_Or_int.f
  have r0 : ∀ a b c : Int, rd [a, b, c] 0 = a := fun _ _ _ => rfl
  have r1 : ∀ a b c : Int, rd [a, b, c] 1 = b := fun _ _ _ => rfl
  have r2 : ∀ a b c : Int, rd [a, b, c] 2 = c := fun _ _ _ => rfl
  have w1 : wrap64 1 = 1 := by unfold wrap64; omega
  have w2 : wrap64 2 = 2 := by unfold wrap64; omega
  have w3 : wrap64 3 = 3 := by unfold wrap64; omega
  simp only [cmp_Or_int.l0, List.length_cons, List.length_nil]
  by_cases ha : a = 0
  · by_cases hb : b = 0
    · by_cases hc : c = 0
      · simp [r0, r1, r2, w1, w2, w3, ha, hb, hc]
      · simp [r0, r1, r2, w1, w2, w3, ha, hb, hc]
    · simp [r0, r1, r2, w1, w2, w3, ha, hb]
  · simp [r0, r1, r2, w1, w2, w3, ha]
theorem less_is (x y : Lz) : decide ((if cmpI x.2.2 y.2.2 = 0 then (if cmpI x.1 y.1 = 0 then (if cmpI x.2.1 y.2.1 = 0 then 0 else cmpI x.2.1 y.2.1) else cmpI x.1 y.1) else cmpI x.2.2 y.2.2) < 0) = less x y := by
  unfold less cmpI
  repeat' split
  all_goals first | (simp only [decide_eq_decide]; omega) | (exfalso; omega) | (simp; omega) | (simp; done)
theorem three_C (W : World) (a b c : Int) : Kd.C (Kd.int .i64) (W.alloc (.cells #[.int .i64 a, .int .i64 b, .int .i64 c] 3)) (some ⟨W.heap.size, 0, none⟩) [a, b, c].length [a, b, c] := by
  refine ⟨rfl, by simp, fun _ => ⟨⟨W.heap.size, 0, none⟩, rfl, fun j p hj => ⟨[.int .i64 p], rfl, rfl, fun i u hi => ?_⟩⟩⟩
  have hi0 : i = 0 := by
    have := (List.getElem?_eq_some_iff.1 hi).1
    simpa using this
  subst hi0
  have hu' : u = .int .i64 p := by simpa using hi.symm
  subst hu'
  rw [add_plain]
  have hb := heap_alloc_new W (.cells #[.int .i64 a, .int .i64 b, .int .i64 c] 3)
  have := cell_of_row _ _ (j * 1 + 0) _ _ _ hb
  rw [show j * (Kd.int .i64).sz + 0 = j * 1 + 0 from rfl, this]
  match j, hj with
  | 0, hj => simpa using hj
  | 1, hj => simpa using hj
  | 2, hj => simpa using hj
  | j + 3, hj => simp at hj
set_option maxHeartbeats 4000000
set_option maxRecDepth 100000
theorem less_calls {W : World} {s : St} {xs : List Lz} (h : Is W s xs) {i k : Nat} {x y : Lz} (hx : xs[i]? = some x) (hy : xs[k]? = some y) :
    Calls Try.prog 55 #[rowPtr s, .int .i64 i, .int .i64 k] W fun e w' => e = .returned (.bool (less x y)) ∧ Below W.heap.size W w' := by
  obtain ⟨g, cap, hv, hcap, a1, a2, a3⟩ := h.cells hx
  obtain ⟨g', cap', hv', _, b1, b2, b3⟩ := h.cells hy
  rw [hv] at hv'
  simp only [Value.slice.injEq, Option.some.injEq, Addr.mk.injEq, and_true, true_and] at hv'
  obtain ⟨rfl, rfl⟩ := hv'
  have c0 : W.cell? ⟨s.L, 0, none⟩ = some (.slice (some ⟨g, 0, none⟩) xs.length cap) := by rw [cell_of_row _ _ _ _ _ _ h.list, hv]; rfl
  have hi : (i : Int) < (xs.length : Int) := by have := (List.getElem?_eq_some_iff.1 hx).1; omega
  have hk : (k : Int) < (xs.length : Int) := by have := (List.getElem?_eq_some_iff.1 hy).1; omega
  have hi0 : (0 : Int) ≤ i := by omega
  have hk0 : (0 : Int) ≤ k := by omega
  have H := Lib.hid h
  clear h
  unfold rowPtr
  have n1 := World.new_ne W _ c0
  have n2 := World.new_ne W _ a1
  go_enter Try.func55, Try.ntmps55
  go_wp2_with fail
  go_region_held3 (fun W => W.cell? ⟨s.L, 0, none⟩ = some (.slice (some ⟨g, 0, none⟩) xs.length cap) ∧ W.cell? ⟨g, i * 3, none⟩ = some (.int .i64 x.1) ∧ W.cell? ⟨g, i * 3 + 1, none⟩ = some (.int .u32 x.2.1) ∧ W.cell? ⟨g, i * 3 + 2, none⟩ = some (.int .u64 x.2.2) ∧ W.cell? ⟨g, k * 3, none⟩ = some (.int .i64 y.1) ∧ W.cell? ⟨g, k * 3 + 1, none⟩ = some (.int .u32 y.2.1) ∧ W.cell? ⟨g, k * 3 + 2, none⟩ = some (.int .u64 y.2.2)) (first | assumption | go_keep) (fail)
  all_goals go_wp2_with fail
  all_goals (generalize hW2 : World.drew _ = W2)
  all_goals have HB := Lib.hid (show Below W.heap.size W W2 by rw [← hW2]; exact Below.drew (below_alloc (below_alloc (Below.refl _ _) _) _))
  · have p1 : W2.heap[W.heap.size]? = some (.cells #[.int .i64 x.1, .int .u32 x.2.1, .int .u64 x.2.2] 55 (0, 0)) := by rw [← hW2]; exact blk_drew (blk_alloc (blk_new W _) _)
    have p2 : W2.heap[W.heap.size + 1]? = some (.cells #[.int .i64 y.1, .int .u32 y.2.1, .int .u64 y.2.2] 55 (0, 0)) := by rw [← hW2]; exact blk_drew (by simpa using blk_new (W.alloc _) _)
    obtain ⟨n, hn⟩ : ∃ n, W.heap.size = n := ⟨_, rfl⟩
    rw [hn] at p1 p2 ⊢
    clear hW2 a1 a2 a3 b1 b2 b3 c0 n1 n2 hn
    have q1 : W2.cell? ⟨n, 0, none⟩ = some (.int .i64 x.1) := cell_of_row _ _ 0 _ _ _ p1
    have q2 : W2.cell? ⟨n, 1, none⟩ = some (.int .u32 x.2.1) := cell_of_row _ _ 1 _ _ _ p1
    have q3 : W2.cell? ⟨n, 2, none⟩ = some (.int .u64 x.2.2) := cell_of_row _ _ 2 _ _ _ p1
    have r1 : W2.cell? ⟨n + 1, 0, none⟩ = some (.int .i64 y.1) := cell_of_row _ _ 0 _ _ _ p2
    have r2 : W2.cell? ⟨n + 1, 1, none⟩ = some (.int .u32 y.2.1) := cell_of_row _ _ 1 _ _ _ p2
    have r3 : W2.cell? ⟨n + 1, 2, none⟩ = some (.int .u64 y.2.2) := cell_of_row _ _ 2 _ _ _ p2
    clear p1 p2
    obtain ⟨z, hz0⟩ : ∃ z, cmp_Or_int.f 4 [cmpI x.2.2 y.2.2, cmpI x.1 y.1, cmpI x.2.1 y.2.1] = some z := ⟨_, cmp_or _ _ _⟩
    have hz1 : decide (z < 0) = less x y := by rw [cmp_or] at hz0; rw [← Option.some.inj hz0]; exact less_is x y
    have hz := Lib.hid hz0
    have hzz := Lib.hid hz1
    clear hz0 hz1
    have KD : ∀ w w', Drawn0 w w' → (fun W' => W'.cell? ⟨n, 0, none⟩ = some (.int .i64 x.1) ∧ W'.cell? ⟨n, 1, none⟩ = some (.int .u32 x.2.1) ∧ W'.cell? ⟨n, 2, none⟩ = some (.int .u64 x.2.2) ∧ W'.cell? ⟨n + 1, 0, none⟩ = some (.int .i64 y.1) ∧ W'.cell? ⟨n + 1, 1, none⟩ = some (.int .u32 y.2.1) ∧ W'.cell? ⟨n + 1, 2, none⟩ = some (.int .u64 y.2.2) ∧ Hid (Below W.heap.size W W')) w → (fun W' => W'.cell? ⟨n, 0, none⟩ = some (.int .i64 x.1) ∧ W'.cell? ⟨n, 1, none⟩ = some (.int .u32 x.2.1) ∧ W'.cell? ⟨n, 2, none⟩ = some (.int .u64 x.2.2) ∧ W'.cell? ⟨n + 1, 0, none⟩ = some (.int .i64 y.1) ∧ W'.cell? ⟨n + 1, 1, none⟩ = some (.int .u32 y.2.1) ∧ W'.cell? ⟨n + 1, 2, none⟩ = some (.int .u64 y.2.2) ∧ Hid (Below W.heap.size W W')) w' := by
      rintro w w' hd ⟨a1, a2, a3, a4, a5, a6, a7⟩
      have hb := hd.below
      exact ⟨pw_cell_below hb a1, pw_cell_below hb a2, pw_cell_below hb a3, pw_cell_below hb a4, pw_cell_below hb a5, pw_cell_below hb a6, Lib.hid (below_step a7.out hb)⟩
    have KA : ∀ w o, (fun W' => W'.cell? ⟨n, 0, none⟩ = some (.int .i64 x.1) ∧ W'.cell? ⟨n, 1, none⟩ = some (.int .u32 x.2.1) ∧ W'.cell? ⟨n, 2, none⟩ = some (.int .u64 x.2.2) ∧ W'.cell? ⟨n + 1, 0, none⟩ = some (.int .i64 y.1) ∧ W'.cell? ⟨n + 1, 1, none⟩ = some (.int .u32 y.2.1) ∧ W'.cell? ⟨n + 1, 2, none⟩ = some (.int .u64 y.2.2) ∧ Hid (Below W.heap.size W W')) w → (fun W' => W'.cell? ⟨n, 0, none⟩ = some (.int .i64 x.1) ∧ W'.cell? ⟨n, 1, none⟩ = some (.int .u32 x.2.1) ∧ W'.cell? ⟨n, 2, none⟩ = some (.int .u64 x.2.2) ∧ W'.cell? ⟨n + 1, 0, none⟩ = some (.int .i64 y.1) ∧ W'.cell? ⟨n + 1, 1, none⟩ = some (.int .u32 y.2.1) ∧ W'.cell? ⟨n + 1, 2, none⟩ = some (.int .u64 y.2.2) ∧ Hid (Below W.heap.size W W')) (w.alloc o) := by
      rintro w o ⟨a1, a2, a3, a4, a5, a6, a7⟩
      have hb := below_alloc (Below.refl w.heap.size w) o
      exact ⟨pw_cell_below hb a1, pw_cell_below hb a2, pw_cell_below hb a3, pw_cell_below hb a4, pw_cell_below hb a5, pw_cell_below hb a6, Lib.hid (below_step a7.out hb)⟩
    have KW : ∀ w, (fun W' => W'.cell? ⟨n, 0, none⟩ = some (.int .i64 x.1) ∧ W'.cell? ⟨n, 1, none⟩ = some (.int .u32 x.2.1) ∧ W'.cell? ⟨n, 2, none⟩ = some (.int .u64 x.2.2) ∧ W'.cell? ⟨n + 1, 0, none⟩ = some (.int .i64 y.1) ∧ W'.cell? ⟨n + 1, 1, none⟩ = some (.int .u32 y.2.1) ∧ W'.cell? ⟨n + 1, 2, none⟩ = some (.int .u64 y.2.2) ∧ Hid (Below W.heap.size W W')) w → (fun W' => W'.cell? ⟨n, 0, none⟩ = some (.int .i64 x.1) ∧ W'.cell? ⟨n, 1, none⟩ = some (.int .u32 x.2.1) ∧ W'.cell? ⟨n, 2, none⟩ = some (.int .u64 x.2.2) ∧ W'.cell? ⟨n + 1, 0, none⟩ = some (.int .i64 y.1) ∧ W'.cell? ⟨n + 1, 1, none⟩ = some (.int .u32 y.2.1) ∧ W'.cell? ⟨n + 1, 2, none⟩ = some (.int .u64 y.2.2) ∧ Hid (Below W.heap.size W W')) w.drew := by
      rintro w ⟨a1, a2, a3, a4, a5, a6, a7⟩
      exact ⟨a1, a2, a3, a4, a5, a6, Lib.hid a7.out.drew⟩
    have SH := KW W2 ⟨q1, q2, q3, r1, r2, r3, HB⟩
    have FIN : ∀ w, (fun W' => W'.cell? ⟨n, 0, none⟩ = some (.int .i64 x.1) ∧ W'.cell? ⟨n, 1, none⟩ = some (.int .u32 x.2.1) ∧ W'.cell? ⟨n, 2, none⟩ = some (.int .u64 x.2.2) ∧ W'.cell? ⟨n + 1, 0, none⟩ = some (.int .i64 y.1) ∧ W'.cell? ⟨n + 1, 1, none⟩ = some (.int .u32 y.2.1) ∧ W'.cell? ⟨n + 1, 2, none⟩ = some (.int .u64 y.2.2) ∧ Hid (Below W.heap.size W W')) w → Below W.heap.size W w := fun w h => h.2.2.2.2.2.2.out
    dsimp only at SH KD KA FIN
    go_region_held3 (fun W' => W'.cell? ⟨n, 0, none⟩ = some (.int .i64 x.1) ∧ W'.cell? ⟨n, 1, none⟩ = some (.int .u32 x.2.1) ∧ W'.cell? ⟨n, 2, none⟩ = some (.int .u64 x.2.2) ∧ W'.cell? ⟨n + 1, 0, none⟩ = some (.int .i64 y.1) ∧ W'.cell? ⟨n + 1, 1, none⟩ = some (.int .u32 y.2.1) ∧ W'.cell? ⟨n + 1, 2, none⟩ = some (.int .u64 y.2.2) ∧ Hid (Below W.heap.size W W')) (first | assumption | exact KD _ _ (by assumption) (by assumption) | exact KA _ _ (by assumption))
      (first
        | (go_at_call 58; refine (cmp_Compare_uint64.calls _ _ _ _ (cmp_u64 _ _)).mono ?_; rintro e w' ⟨rfl, hd⟩)
        | (go_at_call 59; refine (cmp_Compare_int.calls _ _ _ _ (cmp_i64 _ _)).mono ?_; rintro e w' ⟨rfl, hd⟩)
        | (go_at_call 60; refine (cmp_Compare_uint32.calls _ _ _ _ (cmp_u32 _ _)).mono ?_; rintro e w' ⟨rfl, hd⟩)
        | (go_at_call 57; refine (cmp_Or_int.calls 4 _ 3 [cmpI x.2.2 y.2.2, cmpI x.1 y.1, cmpI x.2.1 y.2.1] _ _ (three_C _ _ _ _) (Nat.le_refl 3) hz.out).mono ?_; rintro e w' ⟨rfl, hd⟩))
    go_wp2_with fail
    go_ret
    exact ⟨congrArg (fun b => Ending.returned (.bool b)) hzz.out, FIN _ (by assumption)⟩
  · have p1 : W2.heap[W.heap.size + 1]? = some (.cells #[.int .i64 x.1, .int .u32 x.2.1, .int .u64 x.2.2] 55 (0, 0)) := by rw [← hW2]; exact blk_drew (by simpa using blk_new (W.alloc _) _)
    have p2 : W2.heap[W.heap.size]? = some (.cells #[.int .i64 y.1, .int .u32 y.2.1, .int .u64 y.2.2] 55 (0, 0)) := by rw [← hW2]; exact blk_drew (blk_alloc (blk_new W _) _)
    obtain ⟨n, hn⟩ : ∃ n, W.heap.size = n := ⟨_, rfl⟩
    rw [hn] at p1 p2 ⊢
    clear hW2 a1 a2 a3 b1 b2 b3 c0 n1 n2 hn
    have q1 : W2.cell? ⟨n + 1, 0, none⟩ = some (.int .i64 x.1) := cell_of_row _ _ 0 _ _ _ p1
    have q2 : W2.cell? ⟨n + 1, 1, none⟩ = some (.int .u32 x.2.1) := cell_of_row _ _ 1 _ _ _ p1
    have q3 : W2.cell? ⟨n + 1, 2, none⟩ = some (.int .u64 x.2.2) := cell_of_row _ _ 2 _ _ _ p1
    have r1 : W2.cell? ⟨n, 0, none⟩ = some (.int .i64 y.1) := cell_of_row _ _ 0 _ _ _ p2
    have r2 : W2.cell? ⟨n, 1, none⟩ = some (.int .u32 y.2.1) := cell_of_row _ _ 1 _ _ _ p2
    have r3 : W2.cell? ⟨n, 2, none⟩ = some (.int .u64 y.2.2) := cell_of_row _ _ 2 _ _ _ p2
    clear p1 p2
    obtain ⟨z, hz0⟩ : ∃ z, cmp_Or_int.f 4 [cmpI x.2.2 y.2.2, cmpI x.1 y.1, cmpI x.2.1 y.2.1] = some z := ⟨_, cmp_or _ _ _⟩
    have hz1 : decide (z < 0) = less x y := by rw [cmp_or] at hz0; rw [← Option.some.inj hz0]; exact less_is x y
    have hz := Lib.hid hz0
    have hzz := Lib.hid hz1
    clear hz0 hz1
    have KD : ∀ w w', Drawn0 w w' → (fun W' => W'.cell? ⟨n + 1, 0, none⟩ = some (.int .i64 x.1) ∧ W'.cell? ⟨n + 1, 1, none⟩ = some (.int .u32 x.2.1) ∧ W'.cell? ⟨n + 1, 2, none⟩ = some (.int .u64 x.2.2) ∧ W'.cell? ⟨n, 0, none⟩ = some (.int .i64 y.1) ∧ W'.cell? ⟨n, 1, none⟩ = some (.int .u32 y.2.1) ∧ W'.cell? ⟨n, 2, none⟩ = some (.int .u64 y.2.2) ∧ Hid (Below W.heap.size W W')) w → (fun W' => W'.cell? ⟨n + 1, 0, none⟩ = some (.int .i64 x.1) ∧ W'.cell? ⟨n + 1, 1, none⟩ = some (.int .u32 x.2.1) ∧ W'.cell? ⟨n + 1, 2, none⟩ = some (.int .u64 x.2.2) ∧ W'.cell? ⟨n, 0, none⟩ = some (.int .i64 y.1) ∧ W'.cell? ⟨n, 1, none⟩ = some (.int .u32 y.2.1) ∧ W'.cell? ⟨n, 2, none⟩ = some (.int .u64 y.2.2) ∧ Hid (Below W.heap.size W W')) w' := by
      rintro w w' hd ⟨a1, a2, a3, a4, a5, a6, a7⟩
      have hb := hd.below
      exact ⟨pw_cell_below hb a1, pw_cell_below hb a2, pw_cell_below hb a3, pw_cell_below hb a4, pw_cell_below hb a5, pw_cell_below hb a6, Lib.hid (below_step a7.out hb)⟩
    have KA : ∀ w o, (fun W' => W'.cell? ⟨n + 1, 0, none⟩ = some (.int .i64 x.1) ∧ W'.cell? ⟨n + 1, 1, none⟩ = some (.int .u32 x.2.1) ∧ W'.cell? ⟨n + 1, 2, none⟩ = some (.int .u64 x.2.2) ∧ W'.cell? ⟨n, 0, none⟩ = some (.int .i64 y.1) ∧ W'.cell? ⟨n, 1, none⟩ = some (.int .u32 y.2.1) ∧ W'.cell? ⟨n, 2, none⟩ = some (.int .u64 y.2.2) ∧ Hid (Below W.heap.size W W')) w → (fun W' => W'.cell? ⟨n + 1, 0, none⟩ = some (.int .i64 x.1) ∧ W'.cell? ⟨n + 1, 1, none⟩ = some (.int .u32 x.2.1) ∧ W'.cell? ⟨n + 1, 2, none⟩ = some (.int .u64 x.2.2) ∧ W'.cell? ⟨n, 0, none⟩ = some (.int .i64 y.1) ∧ W'.cell? ⟨n, 1, none⟩ = some (.int .u32 y.2.1) ∧ W'.cell? ⟨n, 2, none⟩ = some (.int .u64 y.2.2) ∧ Hid (Below W.heap.size W W')) (w.alloc o) := by
      rintro w o ⟨a1, a2, a3, a4, a5, a6, a7⟩
      have hb := below_alloc (Below.refl w.heap.size w) o
      exact ⟨pw_cell_below hb a1, pw_cell_below hb a2, pw_cell_below hb a3, pw_cell_below hb a4, pw_cell_below hb a5, pw_cell_below hb a6, Lib.hid (below_step a7.out hb)⟩
    have KW : ∀ w, (fun W' => W'.cell? ⟨n + 1, 0, none⟩ = some (.int .i64 x.1) ∧ W'.cell? ⟨n + 1, 1, none⟩ = some (.int .u32 x.2.1) ∧ W'.cell? ⟨n + 1, 2, none⟩ = some (.int .u64 x.2.2) ∧ W'.cell? ⟨n, 0, none⟩ = some (.int .i64 y.1) ∧ W'.cell? ⟨n, 1, none⟩ = some (.int .u32 y.2.1) ∧ W'.cell? ⟨n, 2, none⟩ = some (.int .u64 y.2.2) ∧ Hid (Below W.heap.size W W')) w → (fun W' => W'.cell? ⟨n + 1, 0, none⟩ = some (.int .i64 x.1) ∧ W'.cell? ⟨n + 1, 1, none⟩ = some (.int .u32 x.2.1) ∧ W'.cell? ⟨n + 1, 2, none⟩ = some (.int .u64 x.2.2) ∧ W'.cell? ⟨n, 0, none⟩ = some (.int .i64 y.1) ∧ W'.cell? ⟨n, 1, none⟩ = some (.int .u32 y.2.1) ∧ W'.cell? ⟨n, 2, none⟩ = some (.int .u64 y.2.2) ∧ Hid (Below W.heap.size W W')) w.drew := by
      rintro w ⟨a1, a2, a3, a4, a5, a6, a7⟩
      exact ⟨a1, a2, a3, a4, a5, a6, Lib.hid a7.out.drew⟩
    have SH := KW W2 ⟨q1, q2, q3, r1, r2, r3, HB⟩
    have FIN : ∀ w, (fun W' => W'.cell? ⟨n + 1, 0, none⟩ = some (.int .i64 x.1) ∧ W'.cell? ⟨n + 1, 1, none⟩ = some (.int .u32 x.2.1) ∧ W'.cell? ⟨n + 1, 2, none⟩ = some (.int .u64 x.2.2) ∧ W'.cell? ⟨n, 0, none⟩ = some (.int .i64 y.1) ∧ W'.cell? ⟨n, 1, none⟩ = some (.int .u32 y.2.1) ∧ W'.cell? ⟨n, 2, none⟩ = some (.int .u64 y.2.2) ∧ Hid (Below W.heap.size W W')) w → Below W.heap.size W w := fun w h => h.2.2.2.2.2.2.out
    dsimp only at SH KD KA FIN
    go_region_held3 (fun W' => W'.cell? ⟨n + 1, 0, none⟩ = some (.int .i64 x.1) ∧ W'.cell? ⟨n + 1, 1, none⟩ = some (.int .u32 x.2.1) ∧ W'.cell? ⟨n + 1, 2, none⟩ = some (.int .u64 x.2.2) ∧ W'.cell? ⟨n, 0, none⟩ = some (.int .i64 y.1) ∧ W'.cell? ⟨n, 1, none⟩ = some (.int .u32 y.2.1) ∧ W'.cell? ⟨n, 2, none⟩ = some (.int .u64 y.2.2) ∧ Hid (Below W.heap.size W W')) (first | assumption | exact KD _ _ (by assumption) (by assumption) | exact KA _ _ (by assumption))
      (first
        | (go_at_call 58; refine (cmp_Compare_uint64.calls _ _ _ _ (cmp_u64 _ _)).mono ?_; rintro e w' ⟨rfl, hd⟩)
        | (go_at_call 59; refine (cmp_Compare_int.calls _ _ _ _ (cmp_i64 _ _)).mono ?_; rintro e w' ⟨rfl, hd⟩)
        | (go_at_call 60; refine (cmp_Compare_uint32.calls _ _ _ _ (cmp_u32 _ _)).mono ?_; rintro e w' ⟨rfl, hd⟩)
        | (go_at_call 57; refine (cmp_Or_int.calls 4 _ 3 [cmpI x.2.2 y.2.2, cmpI x.1 y.1, cmpI x.2.1 y.2.1] _ _ (three_C _ _ _ _) (Nat.le_refl 3) hz.out).mono ?_; rintro e w' ⟨rfl, hd⟩))
    go_wp2_with fail
    go_ret
    exact ⟨congrArg (fun b => Ending.returned (.bool b)) hzz.out, FIN _ (by assumption)⟩
end Go.Proofs.Ytfkbiecbnjddmaa
