import Derived.Test.YtfkbiecbnjddmaaLLess
import Derived.Test.YtfkbiecbnjddmaaLSwapA
import Derived.BigRegion
namespace Go.Proofs.Ytfkbiecbnjddmaa
open Go.RowKit Go.MapKept Go.ChangeMaps Go.Proofs.YtfkbiecbnjddmaaW.PrintWords
set_option linter.unusedVariables false

theorem swap_perm {xs : List Lz} {i k : Nat} {x y : Lz} (hx : xs[i]? = some x) (hy : xs[k]? = some y) : ((xs.set i y).set k x).Perm xs := by
  obtain ⟨h1, rfl⟩ := List.getElem?_eq_some_iff.1 hx
  obtain ⟨h2, rfl⟩ := List.getElem?_eq_some_iff.1 hy
  exact List.set_set_perm h1 h2
theorem Is.swapped {W W' : World} {s : St} {xs : List Lz} {i k : Nat} {x y : Lz} (h : Is W s xs) (hx : xs[i]? = some x) (hy : xs[k]? = some y) {W0 : World} (he : SwapE s ((xs.set i y).set k x) W0 W') : Is W' s ((xs.set i y).set k x) :=
  have hp := swap_perm hx hy
  ⟨he.here.list, he.here.own, he.here.map, fun z hz => h.okays z (hp.mem_iff.1 hz), (hp.map _).nodup_iff.2 h.keys⟩
set_option maxHeartbeats 2000000
set_option maxRecDepth 100000
theorem swap_calls {W : World} {s : St} {xs : List Lz} (h : Is W s xs) {i k : Nat} {x y : Lz} (hx : xs[i]? = some x) (hy : xs[k]? = some y) :
    Calls Try.prog 56 #[rowPtr s, .int .i64 i, .int .i64 k] W fun e w' => e = .returned (.tuple #[]) ∧ Is w' s ((xs.set i y).set k x) ∧ Off s.foot W w' := by
  obtain ⟨g, cap, hv, hcap, a1, a2, a3⟩ := h.cells hx
  obtain ⟨g', cap', hv', _, b1, b2, b3⟩ := h.cells hy
  rw [hv] at hv'
  simp only [Value.slice.injEq, Option.some.injEq, Addr.mk.injEq, and_true, true_and] at hv'
  obtain ⟨rfl, rfl⟩ := hv'
  have c0 : W.cell? ⟨s.L, 0, none⟩ = some (.slice (some ⟨g, 0, none⟩) xs.length cap) := by rw [cell_of_row _ _ _ _ _ _ h.list, hv]; rfl
  have hi : (i : Int) < (xs.length : Int) := by have := (List.getElem?_eq_some_iff.1 hx).1; omega
  have hk : (k : Int) < (xs.length : Int) := by have := (List.getElem?_eq_some_iff.1 hy).1; omega
  have hi0 : (0 : Int) ≤ i := by omega
  have hk0 : (0 : Int) ≤ k := by omega
  have ho := h.own
  rw [hv] at ho
  have f0 := ho.frozenAt (i * 3)
  have f1 := ho.frozenAt (i * 3 + 1)
  have f2 := ho.frozenAt (i * 3 + 2)
  have f3 := ho.frozenAt (k * 3)
  have f4 := ho.frozenAt (k * 3 + 1)
  have f5 := ho.frozenAt (k * 3 + 2)
  have H := Lib.hid h
  clear h ho
  unfold rowPtr
  go_enter Try.func56, Try.ntmps56
  go_wp2_with fail
  obtain ⟨v1, z1⟩ := cell?_setCell_some (w := W) (p := ⟨g, i * 3, none⟩) (x := .int .i64 y.1) (q := ⟨g, k * 3, none⟩) (v := .int .i64 y.1) b1
  obtain ⟨u2, y2⟩ := cell?_setCell_some (w := W) (p := ⟨g, i * 3, none⟩) (x := .int .i64 y.1) (q := ⟨g, k * 3 + 1, none⟩) (v := .int .u32 y.2.1) b2
  obtain ⟨v2, z2⟩ := cell?_setCell_some (p := ⟨g, i * 3 + 1, none⟩) (x := .int .u32 y.2.1) (q := ⟨g, k * 3 + 1, none⟩) y2
  obtain ⟨u3, y3⟩ := cell?_setCell_some (w := W) (p := ⟨g, i * 3, none⟩) (x := .int .i64 y.1) (q := ⟨g, k * 3 + 2, none⟩) (v := .int .u64 y.2.2) b3
  obtain ⟨u4, y4⟩ := cell?_setCell_some (p := ⟨g, i * 3 + 1, none⟩) (x := .int .u32 y.2.1) (q := ⟨g, k * 3 + 2, none⟩) y3
  obtain ⟨v3, z3⟩ := cell?_setCell_some (p := ⟨g, i * 3 + 2, none⟩) (x := .int .u64 y.2.2) (q := ⟨g, k * 3 + 2, none⟩) y4
  clear y2 y3 y4
  go_region
  all_goals go_wp2_with fail
  clear z1 z2 z3 f0 f1 f2 f3 f4 f5 a1 a2 a3 b1 b2 b3 c0
  generalize hW2 : World.drew _ = W2
  obtain ⟨ys, hys⟩ : ∃ ys, (xs.set i y).set k x = ys := ⟨_, rfl⟩
  have hil : i < xs.length := (List.getElem?_eq_some_iff.1 hx).1
  have hkl : k < xs.length := (List.getElem?_eq_some_iff.1 hy).1
  have hyi : ys[i]? = some y := by
    rw [← hys]
    by_cases e : k = i
    · subst e
      rw [hx] at hy
      rw [List.getElem?_set_self (by rw [List.length_set]; exact hil), hy]
    · rw [List.getElem?_set_ne e, List.getElem?_set_self hil]
  have hyk : ys[k]? = some x := by rw [← hys, List.getElem?_set_self (by rw [List.length_set]; exact hkl)]
  have hI : Is' W2 s ys (Pos xs) := by
    rw [← hW2, ← hys]
    have h1 := H.out.to'.store3 hv hil y
    have h2 := h1.store3 hv (i := k) (by rw [List.length_set]; exact hkl) x
    have h3 := h2.below (Below.drew (Below.refl _ _))
    with_reducible exact h3
  have hO : Off s.foot W W2 := by
    rw [← hW2]
    have hg : s.foot g := .inr (.inr (by rw [hv]; rfl))
    exact ((((((Off.refl _ W).set hg _).set hg _).set hg _).set hg _).set hg _).set hg _ |>.drew
  have hxs : ys.length = xs.length := by rw [← hys, List.length_set, List.length_set]
  obtain ⟨a1, a2, a3⟩ := hI.cells hyi hv
  obtain ⟨b1, b2, b3⟩ := hI.cells hyk hv
  have c0 : W2.cell? ⟨s.L, 0, none⟩ = some (.slice (some ⟨g, 0, none⟩) xs.length cap) := by rw [cell_of_row _ _ _ _ _ _ hI.list, hv]; rfl
  have c1 : W2.cell? ⟨s.L, 1, none⟩ = some (.map (some s.M)) := by rw [cell_of_row _ _ _ _ _ _ hI.list]; rfl
  have HS := Lib.hid (SwapS.start hx hy hI hO)
  have HYI := Lib.hid hyi
  have HYK := Lib.hid hyk
  have HYS := Lib.hid hys
  clear hI hO hyi hyk hys hW2
  have KB : ∀ w w', Below w.heap.size w w' → (fun W' => W'.cell? ⟨s.L, 0, none⟩ = some (.slice (some ⟨g, 0, none⟩) xs.length cap) ∧ W'.cell? ⟨s.L, 1, none⟩ = some (.map (some s.M)) ∧ W'.cell? ⟨g, i * 3, none⟩ = some (.int .i64 y.1) ∧ W'.cell? ⟨g, i * 3 + 1, none⟩ = some (.int .u32 y.2.1) ∧ W'.cell? ⟨g, i * 3 + 2, none⟩ = some (.int .u64 y.2.2) ∧ W'.cell? ⟨g, k * 3, none⟩ = some (.int .i64 x.1) ∧ W'.cell? ⟨g, k * 3 + 1, none⟩ = some (.int .u32 x.2.1) ∧ W'.cell? ⟨g, k * 3 + 2, none⟩ = some (.int .u64 x.2.2) ∧ Hid (SwapS s xs ys y.key x.key W W')) w → (fun W' => W'.cell? ⟨s.L, 0, none⟩ = some (.slice (some ⟨g, 0, none⟩) xs.length cap) ∧ W'.cell? ⟨s.L, 1, none⟩ = some (.map (some s.M)) ∧ W'.cell? ⟨g, i * 3, none⟩ = some (.int .i64 y.1) ∧ W'.cell? ⟨g, i * 3 + 1, none⟩ = some (.int .u32 y.2.1) ∧ W'.cell? ⟨g, i * 3 + 2, none⟩ = some (.int .u64 y.2.2) ∧ W'.cell? ⟨g, k * 3, none⟩ = some (.int .i64 x.1) ∧ W'.cell? ⟨g, k * 3 + 1, none⟩ = some (.int .u32 x.2.1) ∧ W'.cell? ⟨g, k * 3 + 2, none⟩ = some (.int .u64 x.2.2) ∧ Hid (SwapS s xs ys y.key x.key W W')) w' := by
    rintro w w' hb ⟨a1, a2, a3, a4, a5, a6, a7, a8, a9⟩
    exact ⟨pw_cell_below hb a1, pw_cell_below hb a2, pw_cell_below hb a3, pw_cell_below hb a4, pw_cell_below hb a5, pw_cell_below hb a6, pw_cell_below hb a7, pw_cell_below hb a8, Lib.hid (a9.out.below hb)⟩
  have SH := KB W2 W2.drew (Below.drew (Below.refl _ _)) ⟨c0, c1, a1, a2, a3, b1, b2, b3, HS⟩
  have EY := who_eq y
  have EX := who_eq x
  have okY : okKey y.key := ⟨(H.out.okays y (List.mem_of_getElem? hy)).1, (H.out.okays y (List.mem_of_getElem? hy)).2.1⟩
  have okX : okKey x.key := ⟨(H.out.okays x (List.mem_of_getElem? hx)).1, (H.out.okays x (List.mem_of_getElem? hx)).2.1⟩
  have EN1 : ∀ w, (fun W' => W'.cell? ⟨s.L, 0, none⟩ = some (.slice (some ⟨g, 0, none⟩) xs.length cap) ∧ W'.cell? ⟨s.L, 1, none⟩ = some (.map (some s.M)) ∧ W'.cell? ⟨g, i * 3, none⟩ = some (.int .i64 y.1) ∧ W'.cell? ⟨g, i * 3 + 1, none⟩ = some (.int .u32 y.2.1) ∧ W'.cell? ⟨g, i * 3 + 2, none⟩ = some (.int .u64 y.2.2) ∧ W'.cell? ⟨g, k * 3, none⟩ = some (.int .i64 x.1) ∧ W'.cell? ⟨g, k * 3 + 1, none⟩ = some (.int .u32 x.2.1) ∧ W'.cell? ⟨g, k * 3 + 2, none⟩ = some (.int .u64 x.2.2) ∧ Hid (SwapS s xs ys y.key x.key W W')) w → ∃ (p : Int) (v : Value), (Instr.mapEntry 74 (.map (some s.M)) (.agg #[.int .i64 y.1, .int .u32 y.2.1])).run Try.prog w = .ok (.tuple #[.int .i64 p, v]) w ∧ Hid (Stamp s.M w y.key v) :=
    fun w h => h.2.2.2.2.2.2.2.2.out.entry okY (.inl rfl)
  have EN2 : ∀ w, (fun W' => W'.cell? ⟨s.L, 0, none⟩ = some (.slice (some ⟨g, 0, none⟩) xs.length cap) ∧ W'.cell? ⟨s.L, 1, none⟩ = some (.map (some s.M)) ∧ W'.cell? ⟨g, i * 3, none⟩ = some (.int .i64 y.1) ∧ W'.cell? ⟨g, i * 3 + 1, none⟩ = some (.int .u32 y.2.1) ∧ W'.cell? ⟨g, i * 3 + 2, none⟩ = some (.int .u64 y.2.2) ∧ W'.cell? ⟨g, k * 3, none⟩ = some (.int .i64 x.1) ∧ W'.cell? ⟨g, k * 3 + 1, none⟩ = some (.int .u32 x.2.1) ∧ W'.cell? ⟨g, k * 3 + 2, none⟩ = some (.int .u64 x.2.2) ∧ Hid (SwapS s xs ys y.key x.key W W')) w → ∃ (p : Int) (v : Value), (Instr.mapEntry 74 (.map (some s.M)) (.agg #[.int .i64 x.1, .int .u32 x.2.1])).run Try.prog w = .ok (.tuple #[.int .i64 p, v]) w ∧ Hid (Stamp s.M w x.key v) :=
    fun w h => h.2.2.2.2.2.2.2.2.out.entry okX (.inr rfl)
  have KM : ∀ w w', (∀ j, j ≠ s.M → w'.heap[j]? = w.heap[j]?) → Hid (SwapS s xs ys y.key x.key W w') → (fun W' => W'.cell? ⟨s.L, 0, none⟩ = some (.slice (some ⟨g, 0, none⟩) xs.length cap) ∧ W'.cell? ⟨s.L, 1, none⟩ = some (.map (some s.M)) ∧ W'.cell? ⟨g, i * 3, none⟩ = some (.int .i64 y.1) ∧ W'.cell? ⟨g, i * 3 + 1, none⟩ = some (.int .u32 y.2.1) ∧ W'.cell? ⟨g, i * 3 + 2, none⟩ = some (.int .u64 y.2.2) ∧ W'.cell? ⟨g, k * 3, none⟩ = some (.int .i64 x.1) ∧ W'.cell? ⟨g, k * 3 + 1, none⟩ = some (.int .u32 x.2.1) ∧ W'.cell? ⟨g, k * 3 + 2, none⟩ = some (.int .u64 x.2.2) ∧ Hid (SwapS s xs ys y.key x.key W W')) w → (fun W' => W'.cell? ⟨s.L, 0, none⟩ = some (.slice (some ⟨g, 0, none⟩) xs.length cap) ∧ W'.cell? ⟨s.L, 1, none⟩ = some (.map (some s.M)) ∧ W'.cell? ⟨g, i * 3, none⟩ = some (.int .i64 y.1) ∧ W'.cell? ⟨g, i * 3 + 1, none⟩ = some (.int .u32 y.2.1) ∧ W'.cell? ⟨g, i * 3 + 2, none⟩ = some (.int .u64 y.2.2) ∧ W'.cell? ⟨g, k * 3, none⟩ = some (.int .i64 x.1) ∧ W'.cell? ⟨g, k * 3 + 1, none⟩ = some (.int .u32 x.2.1) ∧ W'.cell? ⟨g, k * 3 + 2, none⟩ = some (.int .u64 x.2.2) ∧ Hid (SwapS s xs ys y.key x.key W W')) w' := by
    rintro w w' hb hs ⟨a1, a2, a3, a4, a5, a6, a7, a8, a9⟩
    obtain ⟨_, R, hi, _⟩ := a9.out
    obtain ⟨_, n2, n3⟩ := hi.ne hv
    have hc : ∀ (j o : Nat) (v : Value), j ≠ s.M → w.cell? ⟨j, o, none⟩ = some v → w'.cell? ⟨j, o, none⟩ = some v := fun j o v hj h => by
      rw [← h]; unfold World.cell?; simp only [hb j hj]
    exact ⟨hc _ _ _ n3.symm a1, hc _ _ _ n3.symm a2, hc _ _ _ n2.symm a3, hc _ _ _ n2.symm a4, hc _ _ _ n2.symm a5, hc _ _ _ n2.symm a6, hc _ _ _ n2.symm a7, hc _ _ _ n2.symm a8, hs⟩
  have ES1 : ∀ w v, Hid (Stamp s.M w y.key v) → (fun W' => W'.cell? ⟨s.L, 0, none⟩ = some (.slice (some ⟨g, 0, none⟩) xs.length cap) ∧ W'.cell? ⟨s.L, 1, none⟩ = some (.map (some s.M)) ∧ W'.cell? ⟨g, i * 3, none⟩ = some (.int .i64 y.1) ∧ W'.cell? ⟨g, i * 3 + 1, none⟩ = some (.int .u32 y.2.1) ∧ W'.cell? ⟨g, i * 3 + 2, none⟩ = some (.int .u64 y.2.2) ∧ W'.cell? ⟨g, k * 3, none⟩ = some (.int .i64 x.1) ∧ W'.cell? ⟨g, k * 3 + 1, none⟩ = some (.int .u32 x.2.1) ∧ W'.cell? ⟨g, k * 3 + 2, none⟩ = some (.int .u64 x.2.2) ∧ Hid (SwapS s xs ys y.key x.key W W')) w → ∃ w', (Instr.entryStore 74 (.map (some s.M)) v (.int .i64 i)).run Try.prog w = .ok () w' ∧ ((fun W' => W'.cell? ⟨s.L, 0, none⟩ = some (.slice (some ⟨g, 0, none⟩) xs.length cap) ∧ W'.cell? ⟨s.L, 1, none⟩ = some (.map (some s.M)) ∧ W'.cell? ⟨g, i * 3, none⟩ = some (.int .i64 y.1) ∧ W'.cell? ⟨g, i * 3 + 1, none⟩ = some (.int .u32 y.2.1) ∧ W'.cell? ⟨g, i * 3 + 2, none⟩ = some (.int .u64 y.2.2) ∧ W'.cell? ⟨g, k * 3, none⟩ = some (.int .i64 x.1) ∧ W'.cell? ⟨g, k * 3 + 1, none⟩ = some (.int .u32 x.2.1) ∧ W'.cell? ⟨g, k * 3 + 2, none⟩ = some (.int .u64 x.2.2) ∧ Hid (SwapS s xs ys y.key x.key W W')) w') ∧ Hid (SwapT s xs ys y.key x.key i W w') := by
    intro w v hst h
    obtain ⟨w', hr, h1, h2, h3⟩ := h.2.2.2.2.2.2.2.2.out.store okY hst i
    exact ⟨w', hr, KM w w' h3 h1 h, h2⟩
  have ES2 : ∀ w v, Hid (Stamp s.M w x.key v) → Hid (SwapT s xs ys y.key x.key i W w) → (fun W' => W'.cell? ⟨s.L, 0, none⟩ = some (.slice (some ⟨g, 0, none⟩) xs.length cap) ∧ W'.cell? ⟨s.L, 1, none⟩ = some (.map (some s.M)) ∧ W'.cell? ⟨g, i * 3, none⟩ = some (.int .i64 y.1) ∧ W'.cell? ⟨g, i * 3 + 1, none⟩ = some (.int .u32 y.2.1) ∧ W'.cell? ⟨g, i * 3 + 2, none⟩ = some (.int .u64 y.2.2) ∧ W'.cell? ⟨g, k * 3, none⟩ = some (.int .i64 x.1) ∧ W'.cell? ⟨g, k * 3 + 1, none⟩ = some (.int .u32 x.2.1) ∧ W'.cell? ⟨g, k * 3 + 2, none⟩ = some (.int .u64 x.2.2) ∧ Hid (SwapS s xs ys y.key x.key W W')) w → ∃ w', (Instr.entryStore 74 (.map (some s.M)) v (.int .i64 k)).run Try.prog w = .ok () w' ∧ ((fun W' => W'.cell? ⟨s.L, 0, none⟩ = some (.slice (some ⟨g, 0, none⟩) xs.length cap) ∧ W'.cell? ⟨s.L, 1, none⟩ = some (.map (some s.M)) ∧ W'.cell? ⟨g, i * 3, none⟩ = some (.int .i64 y.1) ∧ W'.cell? ⟨g, i * 3 + 1, none⟩ = some (.int .u32 y.2.1) ∧ W'.cell? ⟨g, i * 3 + 2, none⟩ = some (.int .u64 y.2.2) ∧ W'.cell? ⟨g, k * 3, none⟩ = some (.int .i64 x.1) ∧ W'.cell? ⟨g, k * 3 + 1, none⟩ = some (.int .u32 x.2.1) ∧ W'.cell? ⟨g, k * 3 + 2, none⟩ = some (.int .u64 x.2.2) ∧ Hid (SwapS s xs ys y.key x.key W W')) w') ∧ Hid (SwapE s ys W w') := by
    intro w v hst ht h
    obtain ⟨w', hr, h1, h2, h3⟩ := ht.out.store okX H.out.keys hx hy HYS.out hst
    exact ⟨w', hr, KM w w' h3 h2 h, h1⟩
  dsimp only at SH KB EN1 EN2 ES1 ES2
  clear KM okY okX
  go_region_held3 (fun W' => W'.cell? ⟨s.L, 0, none⟩ = some (.slice (some ⟨g, 0, none⟩) xs.length cap) ∧ W'.cell? ⟨s.L, 1, none⟩ = some (.map (some s.M)) ∧ W'.cell? ⟨g, i * 3, none⟩ = some (.int .i64 y.1) ∧ W'.cell? ⟨g, i * 3 + 1, none⟩ = some (.int .u32 y.2.1) ∧ W'.cell? ⟨g, i * 3 + 2, none⟩ = some (.int .u64 y.2.2) ∧ W'.cell? ⟨g, k * 3, none⟩ = some (.int .i64 x.1) ∧ W'.cell? ⟨g, k * 3 + 1, none⟩ = some (.int .u32 x.2.1) ∧ W'.cell? ⟨g, k * 3 + 2, none⟩ = some (.int .u64 x.2.2) ∧ Hid (SwapS s xs ys y.key x.key W W')) (first | assumption | exact KB _ _ (by assumption) (by assumption))
    (first
      | (go_at_call 32; refine (lease_Lease_who.calls y.1 y.2.1 y.2.2 y.1 y.2.1 _ EY).mono ?_; rintro e w' ⟨rfl, hd⟩)
      | (go_at_call 32; refine (lease_Lease_who.calls x.1 x.2.1 x.2.2 x.1 x.2.1 _ EX).mono ?_; rintro e w' ⟨rfl, hd⟩)
      | (obtain ⟨p1, st1, hr1, ht1⟩ := EN1 _ (by assumption); rw [hr1]; clear EN1 hr1)
      | (obtain ⟨w1, hr1, hs1, hf1⟩ := ES1 _ _ ht1 (by assumption); rw [hr1]; clear ES1 hr1)
      | (obtain ⟨p2, st2, hr2, ht2⟩ := EN2 _ (by assumption); rw [hr2]; clear EN2 hr2)
      | (obtain ⟨w2, hr2, hs2, hf2⟩ := ES2 _ _ ht2 (by assumption) (by assumption); rw [hr2]; clear ES2 hr2))
  go_wp2_with fail
  go_end0
  have HE := hf2.out
  rw [← HYS.out] at HE
  exact ⟨rfl, H.out.swapped hx hy HE, HE.off⟩
end Go.Proofs.Ytfkbiecbnjddmaa
