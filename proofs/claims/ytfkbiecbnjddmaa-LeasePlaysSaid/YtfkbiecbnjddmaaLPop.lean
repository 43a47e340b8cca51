/- sorted.Pop. -/
import Derived.Test.YtfkbiecbnjddmaaLPush
namespace Go.Proofs.Ytfkbiecbnjddmaa
open Go.RowKit Go.MapKept Go.ChangeMaps Go.Proofs.YtfkbiecbnjddmaaW.PrintWords
set_option linter.unusedVariables false
theorem PushS.delete {s : St} {ys : List Lz} {k0 : Int × Int} {W0 W : World} (h : PushS s ys k0 W0 W) (hk : okKey k0) (hno : k0 ∉ ys.map Lz.key) (ty : TypeId) :
    ∃ w', (Builtin.delete_ #[74, 87] ty #[.map (some s.M), keyV k0]).run Try.prog W = .ok (.tuple #[]) w' ∧ Hid (PushS s ys k0 W0 w') ∧ Hid (SwapE s ys W0 w') ∧ (∀ j, j ≠ s.M → w'.heap[j]? = W.heap[j]?) := by
  obtain ⟨ho, R, hi, h1⟩ := h
  obtain ⟨n, hm⟩ := hi.map
  obtain ⟨o, n', hr, hm', _⟩ := hm.delete (ty := ty) key87 Try.underlying74 hk
  have hi' := hi.setM hm'
  have ho' := ho.setB (b := s.M) (.inr (.inl rfl)) o
  refine ⟨_, hr, Lib.hid ⟨ho', _, hi', fun k p hk => ?_⟩, Lib.hid ⟨ho', hi'.list, hi'.own, n', hm'.congr rfl fun k p => ?_⟩, fun j hj => by simp [setBlock, Ne.symm hj]⟩
  · rw [← h1 k p hk]; simp [delR, hk]
  · by_cases e : k = k0
    · subst e
      simp only [delR, ne_eq, not_true_eq_false, false_and, iff_false]
      rintro ⟨j, z, hj, hz, _⟩
      exact hno (hz ▸ List.mem_map.2 ⟨z, List.mem_of_getElem? hj, rfl⟩)
    · simp [delR, e, h1 k p e]
theorem Pos_take {xs : List Lz} {m : Nat} (hm : xs.length = m + 1) {x : Lz} (hx : xs[m]? = some x) {k : Int × Int} (hk : k ≠ x.key) (p : Int) : Pos xs k p ↔ Pos (xs.take m) k p := by
  constructor
  · rintro ⟨j, z, hj, rfl, rfl⟩
    have hjl := (List.getElem?_eq_some_iff.1 hj).1
    have : j ≠ m := by
      rintro rfl
      rw [hx] at hj
      cases hj
      exact hk rfl
    exact ⟨j, z, by rw [List.getElem?_take_of_lt (by omega)]; exact hj, rfl, rfl⟩
  · rintro ⟨j, z, hj, rfl, rfl⟩
    have hjl := (List.getElem?_eq_some_iff.1 hj).1
    rw [List.length_take] at hjl
    rw [List.getElem?_take_of_lt (by omega)] at hj
    exact ⟨j, z, hj, rfl, rfl⟩
theorem flat_take (xs : List Lz) (m : Nat) : (flat xs).take (m * 3) = flat (xs.take m) := by
  induction xs generalizing m with
  | nil => simp [flat]
  | cons a r ih =>
    cases m with
    | zero => simp [flat]
    | succ m =>
      have e : ∀ (b : Lz) (t : List Lz), flat (b :: t) = .int .i64 b.1 :: .int .u32 b.2.1 :: .int .u64 b.2.2 :: flat t := fun b t => by simp [flat, Lz.cs]
      rw [List.take_succ_cons, e, e, show (m + 1) * 3 = m * 3 + 3 by omega, ← ih]
      simp only [List.take_succ_cons]
theorem own_cut {w : World} {xs : List Lz} {g m cap : Nat} (h : w.ownsRow 0 55 3 (.slice (some ⟨g, 0, none⟩) (m + 1) cap) xs.length (flat xs)) (hm : xs.length = m + 1) : w.ownsRow 0 55 3 (.slice (some ⟨g, 0, none⟩) m cap) (xs.take m).length (flat (xs.take m)) := by
  have hlt : (xs.take m).length = m := by rw [List.length_take]; omega
  rw [hlt, ← flat_take]
  refine ⟨by rw [List.length_take, flat_length]; omega, .inr ?_⟩
  rcases h.2 with ⟨h1, _⟩ | ⟨g', cap', cur, h1, h2, h3, h4, h5, h6, h7⟩
  · simp at h1
  · simp only [Value.slice.injEq, Option.some.injEq, Addr.mk.injEq, and_true] at h1
    obtain ⟨rfl, _, rfl⟩ := h1
    refine ⟨g, cap, cur, rfl, h2, h3, by omega, h5, h6, ?_⟩
    rw [← h7, List.take_take, Nat.min_eq_left (by omega)]
set_option maxHeartbeats 1000000
set_option maxRecDepth 100000
theorem pop_calls {W : World} {s : St} {xs : List Lz} (h : Is W s xs) {m : Nat} (hm : xs.length = m + 1) (hl : xs.length ≤ 1000) :
    Calls Try.prog 64 #[.agg #[.pointer (some ⟨s.L, 0, none⟩)]] W fun e w' => e = .returned (.iface 55 (ix xs m).val) ∧ ∃ v', Is w' ⟨s.L, s.M, v'⟩ (xs.take m) ∧ Off s.foot W w' ∧ v'.ownBlock = s.v.ownBlock := by
  obtain ⟨x, hx⟩ : ∃ x, ix xs m = x := ⟨_, rfl⟩
  rw [hx]
  have hxm : xs[m]? = some x := by rw [← hx]; exact ix_some (by omega)
  obtain ⟨g, cap, hv, hcap, a1, a2, a3⟩ := h.cells hxm
  have c0 : W.cell? ⟨s.L, 0, none⟩ = some (.slice (some ⟨g, 0, none⟩) xs.length cap) := by rw [cell_of_row _ _ _ _ _ _ h.list, hv]; rfl
  have f0 : W.frozen? ⟨s.L, 0, none⟩ = false := blk_frozen h.list 0
  have H := Lib.hid h
  clear h
  rw [hm] at c0 hcap hv
  have e1 : IntKind.i64.wrap (((m + 1 : Nat) : Int) - 1) = (m : Int) := by rw [IntKind.wrap_i64]; omega
  have i0 : (0 : Int) ≤ (m : Int) := by omega
  have i1 : (m : Int) < ((m + 1 : Nat) : Int) := by omega
  have hB := below_alloc (Below.refl W.heap.size W) (.cells #[.pointer (some ⟨s.L, 0, none⟩)] 78)
  have c0' := pw_cell_below hB c0
  have a1' := pw_cell_below hB a1
  have a2' := pw_cell_below hB a2
  have a3' := pw_cell_below hB a3
  clear a1 a2 a3 f0
  unfold Lz.val
  go_enter Try.func64, Try.ntmps64
  go_wp2_with fail
  obtain ⟨W2, hW2⟩ : ∃ W2, (W.alloc (.cells #[.pointer (some ⟨s.L, 0, none⟩)] 78)).alloc (.cells #[.int .i64 x.1, .int .u32 x.2.1, .int .u64 x.2.2] 55) = W2 := ⟨_, rfl⟩
  rw [hW2]
  have hB2 : Below W.heap.size W W2 := by rw [← hW2]; exact below_alloc (below_alloc (Below.refl _ _) _) _
  have p1 : W2.heap[W.heap.size]? = some (.cells #[.pointer (some ⟨s.L, 0, none⟩)] 78 (0, 0)) := by rw [← hW2]; exact blk_alloc (blk_new W _) _
  have p2 : W2.heap[W.heap.size + 1]? = some (.cells #[.int .i64 x.1, .int .u32 x.2.1, .int .u64 x.2.2] 55 (0, 0)) := by rw [← hW2]; simpa using blk_new (W.alloc _) _
  have HI := Lib.hid (H.out.below hB2)
  have HO := Lib.hid (Off.below (S := s.foot) hB2)
  have c0 := pw_cell_below hB2 c0
  have f0 : W2.frozen? ⟨s.L, 0, none⟩ = false := blk_frozen HI.out.list 0
  clear hW2 hB2 hB c0' a1' a2' a3'
  have hMp : s.M ≠ W.heap.size ∧ s.L ≠ W.heap.size := by
    obtain ⟨n, hm⟩ := H.out.map
    exact ⟨Nat.ne_of_lt hm.lt, Nat.ne_of_lt (blk_lt H.out.list)⟩
  have hMq : s.M ≠ W.heap.size + 1 ∧ s.L ≠ W.heap.size + 1 := by
    obtain ⟨n, hm⟩ := H.out.map
    have := hm.lt
    have := blk_lt H.out.list
    omega
  obtain ⟨p, hp⟩ : ∃ p, W.heap.size = p := ⟨_, rfl⟩
  have HPP := Lib.hid hp
  rw [hp] at p1 hMp
  obtain ⟨q, hq⟩ : ∃ q, W.heap.size + 1 = q := ⟨_, rfl⟩
  rw [hq] at p2 hMq
  rw [hq, hp]
  have HQQ := Lib.hid hq
  clear hp hq
  have q0 : W2.cell? ⟨p, 0, none⟩ = some (.pointer (some ⟨s.L, 0, none⟩)) := cell_of_row _ _ 0 _ _ _ p1
  have cut : ∀ w : World, (Instr.slice 50 (.slice (some ⟨g, 0, none⟩) (m + 1) cap) none (some (.int .i64 (m : Int))) none).run Try.prog w = .ok (.slice (some ⟨g, 0, none⟩) m cap) w := by
    intro w
    rw [run_slice_h w 50 (some ⟨g, 0, none⟩) (m + 1) cap Try.underlying50 .i64 (m : Int) i0 (by omega)]
    have h3 : (sizeOf (Try.prog.elem 50)).run Try.prog w = .ok 3 w := by kernel_rfl
    rw [h3]
    simp [sliced, Result.andThen, add_plain]
  have HP1 := Lib.hid p1
  have HP2 := Lib.hid p2
  clear p1 p2
  go_region
  go_wp2_with fail
  obtain ⟨W3, hW3⟩ : ∃ W3, (W2.setCell ⟨s.L, 0, none⟩ (.slice (some ⟨g, 0, none⟩) m cap)).drew = W3 := ⟨_, rfl⟩
  rw [hW3]
  have hb3 : ∀ j, j ≠ s.L → W3.heap[j]? = W2.heap[j]? := fun j hj => by rw [← hW3]; exact Below.heap_setCell _ _ _ _ hj
  have hL3 : W3.heap[s.L]? = some (.cells #[.slice (some ⟨g, 0, none⟩) m cap, .map (some s.M)] 76 (0, 0)) := by
    rw [← hW3]
    have := blk_set HI.out.list 0 (.slice (some ⟨g, 0, none⟩) m cap)
    exact blk_drew (by simpa using this)
  have hO3 : Off s.foot W W3 := by rw [← hW3]; exact (HO.out.set (.inl rfl) _).drew
  have hfoot : (St.mk s.L s.M (.slice (some ⟨g, 0, none⟩) m cap)).foot = s.foot := by
    funext i
    simp [St.foot, hv, Value.ownBlock]
  have hI3 : Is' W3 ⟨s.L, s.M, .slice (some ⟨g, 0, none⟩) m cap⟩ (xs.take m) (Pos xs) := by
    obtain ⟨n, hmm⟩ := HI.out.map
    have hML : s.M ≠ s.L := hmm.block_ne HI.out.list
    refine ⟨hL3, ?_, n, hmm.congr (hb3 _ hML) (fun _ _ => Iff.rfl)⟩
    have ho := HI.out.own
    rw [hv] at ho
    have ho3 := own_setCell ho (p := ⟨s.L, 0, none⟩) (own_ne ho HI.out.list (by decide)) (.slice (some ⟨g, 0, none⟩) m cap)
    rw [← hW3]
    exact (own_cut ho3 hm).drew
  have okX : okKey x.key := ⟨(H.out.okays x (List.mem_of_getElem? hxm)).1, (H.out.okays x (List.mem_of_getElem? hxm)).2.1⟩
  have hno : x.key ∉ (xs.take m).map Lz.key := by
    have hn := H.out.keys
    have e : xs = xs.take m ++ [x] := by
      have hml : m < xs.length := by omega
      have hx' : xs[m] = x := (List.getElem?_eq_some_iff.1 hxm).2
      rw [← hx', List.take_append_getElem hml, List.take_of_length_le (by omega)]
    rw [e, List.map_append, List.nodup_append] at hn
    intro hc
    exact hn.2.2 _ hc x.key (by simp) rfl
  have HS := Lib.hid (show PushS ⟨s.L, s.M, .slice (some ⟨g, 0, none⟩) m cap⟩ (xs.take m) x.key W W3 from ⟨by rw [hfoot]; exact hO3, _, hI3, fun k p hk => Pos_take hm hxm hk p⟩)
  have q0 : W3.cell? ⟨p, 0, none⟩ = some (.pointer (some ⟨s.L, 0, none⟩)) := cell_of_row _ _ 0 _ _ _ ((hb3 _ hMp.2.symm).trans HP1.out)
  have q1 : W3.cell? ⟨q, 0, none⟩ = some (.int .i64 x.1) := cell_of_row _ _ 0 _ _ _ ((hb3 _ hMq.2.symm).trans HP2.out)
  have q2 : W3.cell? ⟨q, 1, none⟩ = some (.int .u32 x.2.1) := cell_of_row _ _ 1 _ _ _ ((hb3 _ hMq.2.symm).trans HP2.out)
  have q3 : W3.cell? ⟨q, 2, none⟩ = some (.int .u64 x.2.2) := cell_of_row _ _ 2 _ _ _ ((hb3 _ hMq.2.symm).trans HP2.out)
  have c1 : W3.cell? ⟨s.L, 1, none⟩ = some (.map (some s.M)) := cell_of_row _ _ 1 _ _ _ hL3
  have hML : s.M ≠ s.L := by
    obtain ⟨n, hmm⟩ := hI3.map
    exact hmm.block_ne hI3.list
  have HF := Lib.hid hfoot
  clear hW3 hb3 hL3 hO3 hI3 hfoot c0 f0 HI HO HP1 HP2
  have KB : ∀ w w', Below w.heap.size w w' → (fun W' => W'.cell? ⟨p, 0, none⟩ = some (.pointer (some ⟨s.L, 0, none⟩)) ∧ W'.cell? ⟨q, 0, none⟩ = some (.int .i64 x.1) ∧ W'.cell? ⟨q, 1, none⟩ = some (.int .u32 x.2.1) ∧ W'.cell? ⟨q, 2, none⟩ = some (.int .u64 x.2.2) ∧ W'.cell? ⟨s.L, 1, none⟩ = some (.map (some s.M)) ∧ Hid (PushS ⟨s.L, s.M, .slice (some ⟨g, 0, none⟩) m cap⟩ (xs.take m) x.key W W')) w → (fun W' => W'.cell? ⟨p, 0, none⟩ = some (.pointer (some ⟨s.L, 0, none⟩)) ∧ W'.cell? ⟨q, 0, none⟩ = some (.int .i64 x.1) ∧ W'.cell? ⟨q, 1, none⟩ = some (.int .u32 x.2.1) ∧ W'.cell? ⟨q, 2, none⟩ = some (.int .u64 x.2.2) ∧ W'.cell? ⟨s.L, 1, none⟩ = some (.map (some s.M)) ∧ Hid (PushS ⟨s.L, s.M, .slice (some ⟨g, 0, none⟩) m cap⟩ (xs.take m) x.key W W')) w' := by
    rintro w w' hb ⟨a1, a2, a3, a4, a5, a9⟩
    exact ⟨pw_cell_below hb a1, pw_cell_below hb a2, pw_cell_below hb a3, pw_cell_below hb a4, pw_cell_below hb a5, Lib.hid (a9.out.below hb)⟩
  have SH := KB W3 W3.drew (Below.drew (Below.refl _ _)) ⟨q0, q1, q2, q3, c1, HS⟩
  have EX := who_eq x
  have KM : ∀ w w', (∀ j, j ≠ s.M → w'.heap[j]? = w.heap[j]?) → Hid (PushS ⟨s.L, s.M, .slice (some ⟨g, 0, none⟩) m cap⟩ (xs.take m) x.key W w') → (fun W' => W'.cell? ⟨p, 0, none⟩ = some (.pointer (some ⟨s.L, 0, none⟩)) ∧ W'.cell? ⟨q, 0, none⟩ = some (.int .i64 x.1) ∧ W'.cell? ⟨q, 1, none⟩ = some (.int .u32 x.2.1) ∧ W'.cell? ⟨q, 2, none⟩ = some (.int .u64 x.2.2) ∧ W'.cell? ⟨s.L, 1, none⟩ = some (.map (some s.M)) ∧ Hid (PushS ⟨s.L, s.M, .slice (some ⟨g, 0, none⟩) m cap⟩ (xs.take m) x.key W W')) w → (fun W' => W'.cell? ⟨p, 0, none⟩ = some (.pointer (some ⟨s.L, 0, none⟩)) ∧ W'.cell? ⟨q, 0, none⟩ = some (.int .i64 x.1) ∧ W'.cell? ⟨q, 1, none⟩ = some (.int .u32 x.2.1) ∧ W'.cell? ⟨q, 2, none⟩ = some (.int .u64 x.2.2) ∧ W'.cell? ⟨s.L, 1, none⟩ = some (.map (some s.M)) ∧ Hid (PushS ⟨s.L, s.M, .slice (some ⟨g, 0, none⟩) m cap⟩ (xs.take m) x.key W W')) w' := by
    rintro w w' hb hs ⟨a1, a2, a3, a4, a5, a9⟩
    have hc : ∀ (j o : Nat) (v : Value), j ≠ s.M → w.cell? ⟨j, o, none⟩ = some v → w'.cell? ⟨j, o, none⟩ = some v := fun j o v hj h => by
      rw [← h]; unfold World.cell?; simp only [hb j hj]
    exact ⟨hc _ _ _ hMp.1.symm a1, hc _ _ _ hMq.1.symm a2, hc _ _ _ hMq.1.symm a3, hc _ _ _ hMq.1.symm a4, hc _ _ _ hML.symm a5, hs⟩
  have EN : ∀ ty w, (fun W' => W'.cell? ⟨p, 0, none⟩ = some (.pointer (some ⟨s.L, 0, none⟩)) ∧ W'.cell? ⟨q, 0, none⟩ = some (.int .i64 x.1) ∧ W'.cell? ⟨q, 1, none⟩ = some (.int .u32 x.2.1) ∧ W'.cell? ⟨q, 2, none⟩ = some (.int .u64 x.2.2) ∧ W'.cell? ⟨s.L, 1, none⟩ = some (.map (some s.M)) ∧ Hid (PushS ⟨s.L, s.M, .slice (some ⟨g, 0, none⟩) m cap⟩ (xs.take m) x.key W W')) w → ∃ w', (Builtin.delete_ #[74, 87] ty #[.map (some s.M), .agg #[.int .i64 x.1, .int .u32 x.2.1]]).run Try.prog w = .ok (.tuple #[]) w' ∧ ((fun W' => W'.cell? ⟨p, 0, none⟩ = some (.pointer (some ⟨s.L, 0, none⟩)) ∧ W'.cell? ⟨q, 0, none⟩ = some (.int .i64 x.1) ∧ W'.cell? ⟨q, 1, none⟩ = some (.int .u32 x.2.1) ∧ W'.cell? ⟨q, 2, none⟩ = some (.int .u64 x.2.2) ∧ W'.cell? ⟨s.L, 1, none⟩ = some (.map (some s.M)) ∧ Hid (PushS ⟨s.L, s.M, .slice (some ⟨g, 0, none⟩) m cap⟩ (xs.take m) x.key W W')) w') ∧ Hid (SwapE ⟨s.L, s.M, .slice (some ⟨g, 0, none⟩) m cap⟩ (xs.take m) W w') := by
    intro ty w h
    obtain ⟨w', hr, h1, h2, h3⟩ := h.2.2.2.2.2.out.delete okX hno ty
    exact ⟨w', hr, KM w w' h3 h1 h, h2⟩
  dsimp only at SH KB EN
  clear KM q0 q1 q2 q3 c1 HS okX hno
  go_region_held3 (fun W' => W'.cell? ⟨p, 0, none⟩ = some (.pointer (some ⟨s.L, 0, none⟩)) ∧ W'.cell? ⟨q, 0, none⟩ = some (.int .i64 x.1) ∧ W'.cell? ⟨q, 1, none⟩ = some (.int .u32 x.2.1) ∧ W'.cell? ⟨q, 2, none⟩ = some (.int .u64 x.2.2) ∧ W'.cell? ⟨s.L, 1, none⟩ = some (.map (some s.M)) ∧ Hid (PushS ⟨s.L, s.M, .slice (some ⟨g, 0, none⟩) m cap⟩ (xs.take m) x.key W W')) (first | assumption | exact KB _ _ (by assumption) (by assumption))
    (first
      | (go_at_call 32; refine (lease_Lease_who.calls x.1 x.2.1 x.2.2 x.1 x.2.1 _ EX).mono ?_; rintro e w' ⟨rfl, hd⟩)
      | (obtain ⟨w1, hr1, hs1, hf1⟩ := EN _ _ (by assumption); rw [hr1]; clear EN hr1))
  clear SH
  obtain ⟨q0, q1, q2, q3, c1, -⟩ := hs1
  go_wp2_with fail
  go_ret
  have HE := hf1.out
  have hoff := HE.off
  rw [HF.out] at hoff
  refine ⟨rfl, _, ⟨HE.here.list, HE.here.own, HE.here.map, fun z hz => H.out.okays z (List.mem_of_mem_take hz), ?_⟩, hoff, by rw [hv]; rfl⟩
  rw [List.map_take]
  exact H.out.keys.sublist (List.take_sublist _ _)
end Go.Proofs.Ytfkbiecbnjddmaa
