/- sorted.Push and sorted.Pop. -/
import Derived.Test.YtfkbiecbnjddmaaLDown
import Derived.Deep.RegionLaw
namespace Go.Proofs.Ytfkbiecbnjddmaa
open Go.RowKit Go.MapKept Go.ChangeMaps Go.Proofs.YtfkbiecbnjddmaaW.PrintWords
set_option linter.unusedVariables false
theorem len_calls {W : World} {s : St} {xs : List Lz} (h : Is W s xs) (hl : xs.length ≤ 1000) :
    Calls Try.prog 35 #[.pointer (some ⟨s.L, 0, none⟩)] W fun e w' => e = .returned (.int .i64 xs.length) ∧ Below W.heap.size W w' := by
  obtain ⟨A, c, hv⟩ := own_slice h.own
  have c0 : W.cell? ⟨s.L, 0, none⟩ = some (.slice A xs.length c) := by rw [cell_of_row _ _ _ _ _ _ h.list, hv]; rfl
  clear h
  go_enter Try.func35, Try.ntmps35
  go_wp2_with fail
  go_ret
  exact ⟨rfl, Below.refl _ _⟩
structure PushS (s : St) (xs : List Lz) (k0 : Int × Int) (W0 W : World) : Prop where
  off : Off s.foot W0 W
  here : ∃ R, Is' W s xs R ∧ (∀ k p, k ≠ k0 → (R k p ↔ Pos xs k p))
structure PushE (s : St) (xs : List Lz) (k0 : Int × Int) (W0 W : World) : Prop where
  off : Off s.foot W0 W
  here : Is' W s xs (putR (Pos xs) k0 xs.length)
theorem PushS.below {s : St} {xs : List Lz} {k0 : Int × Int} {W0 W W' : World} (h : PushS s xs k0 W0 W) (hb : Below W.heap.size W W') : PushS s xs k0 W0 W' := by
  obtain ⟨ho, R, hi, h1⟩ := h
  exact ⟨ho.of_below hb, R, hi.below hb, h1⟩
theorem PushS.store {s : St} {xs : List Lz} {k0 : Int × Int} {W0 W : World} (h : PushS s xs k0 W0 W) (hk : okKey k0) :
    ∃ w', (Instr.mapUpdate 74 (.map (some s.M)) (keyV k0) (.int .i64 xs.length)).run Try.prog W = .ok () w' ∧ Hid (PushS s xs k0 W0 w') ∧ Hid (PushE s xs k0 W0 w') ∧ (∀ j, j ≠ s.M → w'.heap[j]? = W.heap[j]?) := by
  obtain ⟨ho, R, hi, h1⟩ := h
  obtain ⟨n, hm⟩ := hi.map
  obtain ⟨o, n', hr, hm', _⟩ := hm.update key87 Try.underlying74 hk (xs.length : Int)
  have hi' := hi.setM hm'
  have ho' := ho.setB (b := s.M) (.inr (.inl rfl)) o
  refine ⟨_, hr, Lib.hid ⟨ho', _, hi', fun k p hk => ?_⟩, Lib.hid ⟨ho', hi'.list, hi'.own, n', hm'.congr rfl fun k p => ?_⟩, fun j hj => by simp [setBlock, Ne.symm hj]⟩
  · rw [← h1 k p hk]; simp [putR, hk]
  · by_cases e : k = k0
    · subst e; simp [putR]
    · simp [putR, e, h1 k p e]
theorem Off.grown {S : Nat → Prop} {w w1 w2 : World} (h : Off S w w1) {row : Option Nat} (hg : w1.grownBy w2 row) (hr : ∀ k, row = some k → S k ∨ w.heap.size ≤ k) : Off S w w2 :=
  ⟨hg.os.trans h.os, hg.tape.trans h.tape, hg.output.trans h.output, Nat.le_trans h.size hg.size, fun i hi hs => (hg.block i (Nat.lt_of_lt_of_le hi h.size) (fun e => by
    rcases hr i e.symm with h1 | h1
    · exact hs h1
    · omega)).trans (h.block i hi hs)⟩
theorem Pos_push {xs : List Lz} {x : Lz} (hk : x.key ∉ xs.map Lz.key) (k : Int × Int) (p : Int) : Pos (xs ++ [x]) k p ↔ putR (Pos xs) x.key xs.length k p := by
  constructor
  · rintro ⟨j, z, hj, rfl, rfl⟩
    by_cases hl : j < xs.length
    · rw [List.getElem?_append_left hl] at hj
      refine .inr ⟨fun e => hk (e ▸ List.mem_map.2 ⟨z, List.mem_of_getElem? hj, rfl⟩), j, z, hj, rfl, rfl⟩
    · have := (List.getElem?_eq_some_iff.1 hj).1
      simp only [List.length_append, List.length_singleton] at this
      obtain rfl : j = xs.length := by omega
      rw [List.getElem?_append_right (Nat.le_refl _)] at hj
      simp at hj
      subst hj
      exact .inl ⟨rfl, rfl⟩
  · rintro (⟨rfl, rfl⟩ | ⟨_, j, z, hj, rfl, rfl⟩)
    · exact ⟨xs.length, x, by simp, rfl, rfl⟩
    · exact ⟨j, z, by rw [List.getElem?_append_left (List.getElem?_eq_some_iff.1 hj).1]; exact hj, rfl, rfl⟩
/-- a new slice is laid into the list -/
theorem Is'.relist {W w1 w3 : World} {s : St} {xs ys : List Lz} {R : Int × Int → Int → Prop} (ho : Off s.foot W w1) (h : Is' w1 s xs R) {v3 : Value} (hg : w1.grownBy w3 s.v.ownBlock) (hown : w3.ownsRow 0 55 3 v3 ys.length (flat ys))
    (hat : v3.ownBlock = s.v.ownBlock ∨ ∃ b, v3.ownBlock = some b ∧ w1.heap.size ≤ b) :
    Is' (w3.setCell ⟨s.L, 0, none⟩ v3) ⟨s.L, s.M, v3⟩ ys R ∧ Off s.foot W (w3.setCell ⟨s.L, 0, none⟩ v3) ∧ (v3.ownBlock = s.v.ownBlock ∨ ∃ b, v3.ownBlock = some b ∧ W.heap.size ≤ b) := by
  have hL := blk_grown h.list hg (own_ne h.own h.list (by decide))
  obtain ⟨n, hm⟩ := h.map
  have hML : s.M ≠ s.L := hm.block_ne h.list
  refine ⟨⟨?_, own_setCell hown (own_ne hown hL (by decide)) _, n, hm.congr ?_ (fun _ _ => Iff.rfl)⟩, (ho.grown hg fun k hk => .inl (.inr (.inr hk))).set (.inl rfl) _, ?_⟩
  · have := blk_set hL 0 v3
    simpa using this
  · rw [Below.heap_setCell _ _ _ _ hML]
    refine hg.block _ hm.lt fun e => ?_
    obtain ⟨cells, hc⟩ := own_typed h.own s.M e.symm
    exact hm.block_ne hc rfl
  · rcases hat with hat | ⟨b, hb, hl⟩
    · exact .inl hat
    · exact .inr ⟨b, hb, Nat.le_trans ho.size hl⟩
theorem as_lease (v : Value) (w : World) : (Instr.typeAssert (.iface 55 v) 20 55 false).run Try.prog w = .ok v w := by kernel_rfl
theorem as_sorted (v : Value) (w : World) : (Instr.typeAssert (.iface 78 v) 80 78 true).run Try.prog w = .ok (.tuple #[v, .bool true]) w := by kernel_rfl
set_option maxHeartbeats 1000000
set_option maxRecDepth 100000
theorem push_calls {W : World} {s : St} {xs : List Lz} (h : Is W s xs) {x : Lz} (hx : okLz x) (hk : x.key ∉ xs.map Lz.key) (hl : xs.length < 1000) :
    Calls Try.prog 65 #[.agg #[.pointer (some ⟨s.L, 0, none⟩)], .iface 55 x.val] W fun e w' => e = .returned (.tuple #[]) ∧ ∃ v', Is w' ⟨s.L, s.M, v'⟩ (xs ++ [x]) ∧ Off s.foot W w' ∧ (v'.ownBlock = s.v.ownBlock ∨ ∃ b, v'.ownBlock = some b ∧ W.heap.size ≤ b) := by
  obtain ⟨A, c, hv⟩ := own_slice h.own
  have H := Lib.hid h
  clear h
  unfold Lz.val
  go_enter Try.func65, Try.ntmps65
  go_wp2_with fail
  rw [as_lease]
  go_wp2_with fail
  obtain ⟨W2, hW2⟩ : ∃ W2, (W.alloc (.cells #[.pointer (some ⟨s.L, 0, none⟩)] 78)).alloc (.cells #[.int .i64 x.1, .int .u32 x.2.1, .int .u64 x.2.2] 55) = W2 := ⟨_, rfl⟩
  rw [hW2]
  have hB : Below W.heap.size W W2 := by rw [← hW2]; exact below_alloc (below_alloc (Below.refl _ _) _) _
  have p1 : W2.heap[W.heap.size]? = some (.cells #[.pointer (some ⟨s.L, 0, none⟩)] 78 (0, 0)) := by rw [← hW2]; exact blk_alloc (blk_new W _) _
  have p2 : W2.heap[W.heap.size + 1]? = some (.cells #[.int .i64 x.1, .int .u32 x.2.1, .int .u64 x.2.2] 55 (0, 0)) := by rw [← hW2]; simpa using blk_new (W.alloc _) _
  have HI := Lib.hid (H.out.to'.below hB)
  have HO := Lib.hid (Off.below (S := s.foot) hB)
  clear hW2 hB
  have hMp : s.M ≠ W.heap.size := by
    obtain ⟨n, hm⟩ := H.out.map
    exact Nat.ne_of_lt hm.lt
  have hMq : s.M ≠ W.heap.size + 1 := by
    obtain ⟨n, hm⟩ := H.out.map
    have := hm.lt
    omega
  have hML : s.M ≠ s.L := by
    obtain ⟨n, hm⟩ := H.out.map
    exact hm.block_ne H.out.list
  obtain ⟨p, hp⟩ : ∃ p, W.heap.size = p := ⟨_, rfl⟩
  have HPP := Lib.hid hp
  rw [hp] at p1 hMp
  obtain ⟨q, hq⟩ : ∃ q, W.heap.size + 1 = q := ⟨_, rfl⟩
  rw [hq] at p2 hMq
  rw [hq, hp]
  have HQQ := Lib.hid hq
  clear hp hq
  have q0 : W2.cell? ⟨p, 0, none⟩ = some (.pointer (some ⟨s.L, 0, none⟩)) := cell_of_row _ _ 0 _ _ _ p1
  have q1 : W2.cell? ⟨q, 0, none⟩ = some (.int .i64 x.1) := cell_of_row _ _ 0 _ _ _ p2
  have q2 : W2.cell? ⟨q, 1, none⟩ = some (.int .u32 x.2.1) := cell_of_row _ _ 1 _ _ _ p2
  have q3 : W2.cell? ⟨q, 2, none⟩ = some (.int .u64 x.2.2) := cell_of_row _ _ 2 _ _ _ p2
  have c0 : W2.cell? ⟨s.L, 0, none⟩ = some (.slice A xs.length c) := by rw [cell_of_row _ _ _ _ _ _ HI.out.list, hv]; rfl
  have c1 : W2.cell? ⟨s.L, 1, none⟩ = some (.map (some s.M)) := by rw [cell_of_row _ _ _ _ _ _ HI.out.list]; rfl
  have HP1 := Lib.hid p1
  clear p1 p2
  have HS := Lib.hid (show PushS s xs x.key W W2 from ⟨HO.out, _, HI.out, fun _ _ _ => Iff.rfl⟩)
  have KB : ∀ w w', Below w.heap.size w w' → (fun W' => W'.cell? ⟨p, 0, none⟩ = some (.pointer (some ⟨s.L, 0, none⟩)) ∧ W'.cell? ⟨q, 0, none⟩ = some (.int .i64 x.1) ∧ W'.cell? ⟨q, 1, none⟩ = some (.int .u32 x.2.1) ∧ W'.cell? ⟨q, 2, none⟩ = some (.int .u64 x.2.2) ∧ W'.cell? ⟨s.L, 0, none⟩ = some (.slice A xs.length c) ∧ W'.cell? ⟨s.L, 1, none⟩ = some (.map (some s.M)) ∧ Hid (W'.heap[p]? = some (.cells #[.pointer (some ⟨s.L, 0, none⟩)] 78 (0, 0))) ∧ Hid (PushS s xs x.key W W')) w → (fun W' => W'.cell? ⟨p, 0, none⟩ = some (.pointer (some ⟨s.L, 0, none⟩)) ∧ W'.cell? ⟨q, 0, none⟩ = some (.int .i64 x.1) ∧ W'.cell? ⟨q, 1, none⟩ = some (.int .u32 x.2.1) ∧ W'.cell? ⟨q, 2, none⟩ = some (.int .u64 x.2.2) ∧ W'.cell? ⟨s.L, 0, none⟩ = some (.slice A xs.length c) ∧ W'.cell? ⟨s.L, 1, none⟩ = some (.map (some s.M)) ∧ Hid (W'.heap[p]? = some (.cells #[.pointer (some ⟨s.L, 0, none⟩)] 78 (0, 0))) ∧ Hid (PushS s xs x.key W W')) w' := by
    rintro w w' hb ⟨a1, a2, a3, a4, a5, a6, a8, a9⟩
    exact ⟨pw_cell_below hb a1, pw_cell_below hb a2, pw_cell_below hb a3, pw_cell_below hb a4, pw_cell_below hb a5, pw_cell_below hb a6, Lib.hid (blk_below a8.out hb), Lib.hid (a9.out.below hb)⟩
  have SH := KB W2 W2.drew (Below.drew (Below.refl _ _)) ⟨q0, q1, q2, q3, c0, c1, HP1, HS⟩
  have EX := who_eq x
  have KM : ∀ w w', (∀ j, j ≠ s.M → w'.heap[j]? = w.heap[j]?) → Hid (PushS s xs x.key W w') → (fun W' => W'.cell? ⟨p, 0, none⟩ = some (.pointer (some ⟨s.L, 0, none⟩)) ∧ W'.cell? ⟨q, 0, none⟩ = some (.int .i64 x.1) ∧ W'.cell? ⟨q, 1, none⟩ = some (.int .u32 x.2.1) ∧ W'.cell? ⟨q, 2, none⟩ = some (.int .u64 x.2.2) ∧ W'.cell? ⟨s.L, 0, none⟩ = some (.slice A xs.length c) ∧ W'.cell? ⟨s.L, 1, none⟩ = some (.map (some s.M)) ∧ Hid (W'.heap[p]? = some (.cells #[.pointer (some ⟨s.L, 0, none⟩)] 78 (0, 0))) ∧ Hid (PushS s xs x.key W W')) w → (fun W' => W'.cell? ⟨p, 0, none⟩ = some (.pointer (some ⟨s.L, 0, none⟩)) ∧ W'.cell? ⟨q, 0, none⟩ = some (.int .i64 x.1) ∧ W'.cell? ⟨q, 1, none⟩ = some (.int .u32 x.2.1) ∧ W'.cell? ⟨q, 2, none⟩ = some (.int .u64 x.2.2) ∧ W'.cell? ⟨s.L, 0, none⟩ = some (.slice A xs.length c) ∧ W'.cell? ⟨s.L, 1, none⟩ = some (.map (some s.M)) ∧ Hid (W'.heap[p]? = some (.cells #[.pointer (some ⟨s.L, 0, none⟩)] 78 (0, 0))) ∧ Hid (PushS s xs x.key W W')) w' := by
    rintro w w' hb hs ⟨a1, a2, a3, a4, a5, a6, a8, a9⟩
    have hc : ∀ (j o : Nat) (v : Value), j ≠ s.M → w.cell? ⟨j, o, none⟩ = some v → w'.cell? ⟨j, o, none⟩ = some v := fun j o v hj h => by
      rw [← h]; unfold World.cell?; simp only [hb j hj]
    exact ⟨hc _ _ _ hMp.symm a1, hc _ _ _ hMq.symm a2, hc _ _ _ hMq.symm a3, hc _ _ _ hMq.symm a4, hc _ _ _ hML.symm a5, hc _ _ _ hML.symm a6, Lib.hid ((hb p hMp.symm).trans a8.out), hs⟩
  have EN : ∀ w, (fun W' => W'.cell? ⟨p, 0, none⟩ = some (.pointer (some ⟨s.L, 0, none⟩)) ∧ W'.cell? ⟨q, 0, none⟩ = some (.int .i64 x.1) ∧ W'.cell? ⟨q, 1, none⟩ = some (.int .u32 x.2.1) ∧ W'.cell? ⟨q, 2, none⟩ = some (.int .u64 x.2.2) ∧ W'.cell? ⟨s.L, 0, none⟩ = some (.slice A xs.length c) ∧ W'.cell? ⟨s.L, 1, none⟩ = some (.map (some s.M)) ∧ Hid (W'.heap[p]? = some (.cells #[.pointer (some ⟨s.L, 0, none⟩)] 78 (0, 0))) ∧ Hid (PushS s xs x.key W W')) w → ∃ w', (Instr.mapUpdate 74 (.map (some s.M)) (.agg #[.int .i64 x.1, .int .u32 x.2.1]) (.int .i64 xs.length)).run Try.prog w = .ok () w' ∧ ((fun W' => W'.cell? ⟨p, 0, none⟩ = some (.pointer (some ⟨s.L, 0, none⟩)) ∧ W'.cell? ⟨q, 0, none⟩ = some (.int .i64 x.1) ∧ W'.cell? ⟨q, 1, none⟩ = some (.int .u32 x.2.1) ∧ W'.cell? ⟨q, 2, none⟩ = some (.int .u64 x.2.2) ∧ W'.cell? ⟨s.L, 0, none⟩ = some (.slice A xs.length c) ∧ W'.cell? ⟨s.L, 1, none⟩ = some (.map (some s.M)) ∧ Hid (W'.heap[p]? = some (.cells #[.pointer (some ⟨s.L, 0, none⟩)] 78 (0, 0))) ∧ Hid (PushS s xs x.key W W')) w') ∧ Hid (PushE s xs x.key W w') := by
    intro w h
    obtain ⟨w', hr, h1, h2, h3⟩ := h.2.2.2.2.2.2.2.out.store ⟨hx.1, hx.2.1⟩
    exact ⟨w', hr, KM w w' h3 h1 h, h2⟩
  dsimp only at SH KB EN
  clear KM q0 q1 q2 q3 c0 c1 HS HI HO
  go_region_held3 (fun W' => W'.cell? ⟨p, 0, none⟩ = some (.pointer (some ⟨s.L, 0, none⟩)) ∧ W'.cell? ⟨q, 0, none⟩ = some (.int .i64 x.1) ∧ W'.cell? ⟨q, 1, none⟩ = some (.int .u32 x.2.1) ∧ W'.cell? ⟨q, 2, none⟩ = some (.int .u64 x.2.2) ∧ W'.cell? ⟨s.L, 0, none⟩ = some (.slice A xs.length c) ∧ W'.cell? ⟨s.L, 1, none⟩ = some (.map (some s.M)) ∧ Hid (W'.heap[p]? = some (.cells #[.pointer (some ⟨s.L, 0, none⟩)] 78 (0, 0))) ∧ Hid (PushS s xs x.key W W')) (first | assumption | exact KB _ _ (by assumption) (by assumption))
    (first
      | (go_at_call 32; refine (lease_Lease_who.calls x.1 x.2.1 x.2.2 x.1 x.2.1 _ EX).mono ?_; rintro e w' ⟨rfl, hd⟩)
      | (obtain ⟨w1, hr1, hs1, hf1⟩ := EN _ (by assumption); rw [hr1]; clear EN hr1))
  go_wp2_with fail
  clear SH
  obtain ⟨q0, q1, q2, q3, c0, c1, HPB, -⟩ := hs1
  have HE := hf1.out
  have hE := Lib.hid HE
  have f0 : w1.frozen? ⟨s.L, 0, none⟩ = false := blk_frozen HE.here.list 0
  clear HE hf1 KB
  have HOWN : Hid (w1.drew.ownsRow 0 55 3 (.slice A xs.length c) xs.length (flat xs)) := by
    have := hE.out.here.own
    rw [hv] at this
    exact this
  have hLne := own_ne HOWN.out (show w1.drew.heap[s.L]? = _ from hE.out.here.list) (by decide)
  have HLL := Lib.hid (show w1.drew.heap[s.L]? = _ from hE.out.here.list)
  have HLN := Lib.hid hLne
  have c0' := pw_cell_below (below_alloc (Below.refl _ w1) (.cells #[.int .i64 x.1, .int .u32 x.2.1, .int .u64 x.2.2] 55)) c0
  have q0' := pw_cell_below (below_alloc (Below.refl _ w1) (.cells #[.int .i64 x.1, .int .u32 x.2.1, .int .u64 x.2.2] 55)) q0
  clear hLne f0
  go_region_law (refine step_append_cells (w0 := w1) (W := w1.drew) 0 rfl (.tmp 26) (.tmp 28) 50 55 (.agg #[.int .i64 0, .int .u32 0, .int .u64 0]) 3 24 rfl Try.underlying50 (by kernel_rfl) rfl (by decide) (by decide) (.slice A xs.length c) xs.length (flat xs) x.cs rfl rfl rfl (by simp [Lz.cs, Value.oneCell']) HOWN.out (Below.drew (Below.refl 0 w1)) (Nat.zero_le _) (by omega) ?_; intro v3 w3 hown3 hb3 hg3 hat3; obtain ⟨A3, c3, rfl⟩ := own_slice hown3; have k0 := blk_cell (blk_grown HLL.out hg3 HLN.out) 0; have k2 := blk_cell (blk_grown (show w1.drew.heap[p]? = _ from HPB.out) hg3 (own_ne HOWN.out (show w1.drew.heap[p]? = _ from HPB.out) (by decide))) 0; have k1 := blk_frozen (blk_grown HLL.out hg3 HLN.out) 0; replace hown3 := Lib.hid hown3; replace hg3 := Lib.hid hg3; replace hat3 := Lib.hid hat3; clear hb3)
  all_goals (
    go_wp2_with fail
    go_end0
    have hown4 := hown3.out
    rw [show flat xs ++ x.cs = flat (xs ++ [x]) from by simp [flat]] at hown4
    obtain ⟨r1, r2, r3⟩ := Is'.relist (W := W) (w1 := w1.drew) (s := s) (xs := xs) (ys := xs ++ [x]) hE.out.off.drew (hE.out.here.below (Below.drew (Below.refl _ _))) (v3 := .slice A3 (xs.length + 1) c3) (by rw [hv]; exact hg3.out) (by simpa using hown4) (by rw [hv]; exact hat3.out)
    refine ⟨rfl, _, ⟨r1.list, r1.own, ?_, ?_, ?_⟩, r2, r3⟩
    · obtain ⟨n, hm⟩ := r1.map
      exact ⟨n, hm.congr rfl (fun k p => Pos_push hk k p)⟩
    · intro z hz
      rcases List.mem_append.1 hz with hz | hz
      · exact H.out.okays z hz
      · rw [List.mem_singleton.1 hz]; exact hx
    · rw [List.map_append, List.nodup_append]
      refine ⟨H.out.keys, by simp, fun a ha b hb e => ?_⟩
      simp at hb
      subst hb
      exact hk (e ▸ ha))
end Go.Proofs.Ytfkbiecbnjddmaa
