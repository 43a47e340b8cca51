/- halls (9): both halls of a plan. (Printed by gen_halls.py over the kit's regions.py.) -/
import Derived.Test.YteojldbfebnccaaRRows
namespace Go.Proofs.Yteojldbfebnccaa
open Go.RowKit Go.Proofs.YteojldbfebnccaaW.PrintWords Go.Proofs.YteojldbfebnccaaW.PrintLast Go.Proofs.YteojldbfebnccaaW.PrintMore
set_option linter.unusedVariables false
set_option linter.unusedSimpArgs false
set_option maxRecDepth 100000
theorem rows_m (A : Option Addr) (c : Nat) {l : List (Int × Int)} {w : World} (hl : PrAt w A l) (hc : l.length ≤ c) {n : Nat} (hn : l.length = n) :
    Calls Try.prog 28 #[.slice A n c] w fun e w' => ∃ v, e = .returned (.agg #[v]) ∧ Kd.R k61 61 w' w.heap.size (fun _ => True) v (rowsV l) ∧ Below w.heap.size w w' := by
  subst hn
  exact rows_calls A c l w hl hc
theorem rowsV_len (l : List (Int × Int)) : (rowsV l).length ≤ 8 := by
  unfold rowsV rowsAt
  split
  · simp
  · simp
    omega
/-- A hall's rows that lie in memory. -/
def HallRd (W : World) (v : Value) (l : List S61) : Prop := ∃ A c, v = .slice A l.length c ∧ l.length ≤ c ∧ Kd.C k61 W A l.length l
theorem HallRd.of_R {W : World} {base : Nat} {ok : Nat → Prop} {v : Value} {l : List S61} (h : Kd.R k61 61 W base ok v l) : HallRd W v l := by
  obtain ⟨A, c, e, h1, h2⟩ := Kd.R_reads h
  exact ⟨A, c, e, h1, h2⟩
theorem HallRd.below {W W' : World} {v : Value} {l : List S61} (h : HallRd W v l) (hb : Below W.heap.size W W') : HallRd W' v l := by
  obtain ⟨A, c, e, h1, h2⟩ := h
  exact ⟨A, c, e, h1, Kd.C_below h2 hb⟩
/-- A plan's three slices are read. -/
structure PlanIn (W : World) (pv : Value) (a b : List (Int × Int)) (ch : List Int) : Prop where
  a8 : ∀ x ∈ a, 0 ≤ x.1 ∧ x.1 < 256 ∧ 0 ≤ x.2 ∧ x.2 < 256
  b8 : ∀ x ∈ b, 0 ≤ x.1 ∧ x.1 < 256 ∧ 0 ≤ x.2 ∧ x.2 < 256
  ch8 : ∀ x ∈ ch, 0 ≤ x ∧ x < 256
  small : ch.length ≤ 9223372036854775807
  lies : ∃ A1 c1 A2 c2 A3 c3, pv = .agg #[.slice A1 a.length c1, .slice A2 b.length c2, .slice A3 ch.length c3] ∧ PrAt W A1 a ∧ PrAt W A2 b ∧ (∀ (i : Nat) (x : Int), ch[i]? = some x → ∃ ad, A3 = some ad ∧ W.cell? (ad.add i) = some (.int .u8 x)) ∧ a.length ≤ c1 ∧ b.length ≤ c2 ∧ ch.length ≤ c3
theorem PlanIn.below {W W' : World} {pv : Value} {a b : List (Int × Int)} {ch : List Int} (h : PlanIn W pv a b ch) (hb : Below W.heap.size W W') : PlanIn W' pv a b ch := by
  obtain ⟨h1, h2, h3, h4, A1, c1, A2, c2, A3, c3, e, p1, p2, p3, l1, l2, l3⟩ := h
  refine ⟨h1, h2, h3, h4, A1, c1, A2, c2, A3, c3, e, p1.below hb, p2.below hb, fun i x hx => ?_, l1, l2, l3⟩
  obtain ⟨ad, e, hc⟩ := p3 i x hx
  exact ⟨ad, e, pw_cell_below hb hc⟩
set_option maxHeartbeats 8000000 in
theorem halls_calls {w : World} {pv : Value} {a b : List (Int × Int)} {ch : List Int} (h : PlanIn w pv a b ch) :
    Calls Try.prog 9 #[pv] w fun e w' => ∃ v1 v2, e = .returned (.tuple #[.agg #[v1], .agg #[v2]]) ∧ Kd.R k61 61 w' w.heap.size (fun _ => True) v1 (rowsV a) ∧ Kd.R k61 61 w' w.heap.size (fun _ => True) v2 (rowsV b) ∧ Below w.heap.size w w' := by
  obtain ⟨A1, c1, A2, c2, A3, c3, rfl, p1, p2, p3, l1, l2, l3⟩ := h.lies
  have HL1 := Lib.hid p1
  have HL2 := Lib.hid p2
  have HC1 := Lib.hid l1
  have HC2 := Lib.hid l2
  clear h p1 p2 p3 l1 l2 l3
  obtain ⟨n1, hn1⟩ : ∃ n1, a.length = n1 := ⟨_, rfl⟩
  obtain ⟨n2, hn2⟩ : ∃ n2, b.length = n2 := ⟨_, rfl⟩
  obtain ⟨n3, hn3⟩ : ∃ n3, ch.length = n3 := ⟨_, rfl⟩
  rw [hn1, hn2, hn3]
  have HN1 := Lib.hid hn1
  have HN2 := Lib.hid hn2
  clear hn1 hn2 hn3
  go_enter Try.func9, Try.ntmps9
  go_wp2_with fail
  obtain ⟨w0, hw0⟩ : ∃ w0, ((w.alloc (.cells #[.slice A1 n1 c1, .slice A2 n2 c2, .slice A3 n3 c3] 25)).alloc (.cells #[.slice none 0 0] 29)).alloc (.cells #[.slice none 0 0] 29) = w0 := ⟨_, rfl⟩
  have hb0 : Below w.heap.size w w0 := by rw [← hw0]; exact below_alloc (below_alloc (below_alloc (Below.refl _ _) _) _) _
  have hx0 : w0.heap[w.heap.size]? = some (.cells #[.slice A1 n1 c1, .slice A2 n2 c2, .slice A3 n3 c3] 25 (0, 0)) := by rw [← hw0]; exact blk_alloc (blk_alloc (blk_new w _) _) _
  have hg0 : w0.heap[w.heap.size + 1]? = some (.cells #[.slice none 0 0] 29 (0, 0)) := by
    rw [← hw0]
    exact blk_alloc (by simpa using blk_new (w.alloc (.cells #[.slice A1 n1 c1, .slice A2 n2 c2, .slice A3 n3 c3] 25)) (.cells #[.slice none 0 0] 29)) _
  have hk0 : w0.heap[w.heap.size + 1 + 1]? = some (.cells #[.slice none 0 0] 29 (0, 0)) := by
    rw [← hw0]
    simpa using blk_new ((w.alloc (.cells #[.slice A1 n1 c1, .slice A2 n2 c2, .slice A3 n3 c3] 25)).alloc (.cells #[.slice none 0 0] 29)) (.cells #[.slice none 0 0] 29)
  rw [hw0]
  obtain ⟨B, hB⟩ : ∃ B, w.heap.size = B := ⟨_, rfl⟩
  have HBE := Lib.hid hB
  obtain ⟨G, hG⟩ : ∃ G, w.heap.size + 1 = G := ⟨_, rfl⟩
  have HGE := Lib.hid hG
  obtain ⟨KK, hKK⟩ : ∃ KK, G + 1 = KK := ⟨_, rfl⟩
  have HKE := Lib.hid hKK
  rw [hG, hKK] at hk0
  rw [hG] at hg0
  rw [hB] at hx0
  rw [hG, hKK, hB]
  have HBX := Lib.hid (show w0.drew.heap[B]? = some (.cells #[.slice A1 n1 c1, .slice A2 n2 c2, .slice A3 n3 c3] 25 (0, 0)) from hx0)
  have HG0 := Lib.hid (show w0.drew.heap[G]? = some _ from hg0)
  have HK0 := Lib.hid (show w0.drew.heap[KK]? = some _ from hk0)
  have HB0 := Lib.hid (show Below B w w0.drew from HBE.out ▸ hb0.drew)
  have HL1 := Lib.hid (HL1.out.below (HBE.out ▸ HB0.out))
  have HL2 := Lib.hid (HL2.out.below (HBE.out ▸ HB0.out))
  clear hw0 hb0 hx0 hg0 hk0 hB hG hKK
  have hgk : ¬ G = KK := by have := HKE.out; omega
  have hgk2 : ¬ KK = G := by have := HKE.out; omega
  have b0 := cell_of_row _ _ 0 _ _ _ HBX.out
  have b1 := cell_of_row _ _ 1 _ _ _ HBX.out
  go_wp2_with fail
  refine start_ (n := 8) (S := fun w' => w'.cell? ⟨B, 0, none⟩ = some (.slice A1 n1 c1) ∧ w'.cell? ⟨B, 1, none⟩ = some (.slice A2 n2 c2)) (ds := [6, 7]) #[false, false, false, false, false, false, false, false] (by kernel_rfl) rfl rfl ⟨b0, b1⟩ (fun hHeld => ?_)
  refine pure_ (i := 0) (N := some 4) (v := ?_) (a' := ?_) #[true, false, false, false, false, false, false, false] rfl rfl (by kernel_rfl) (fun _ _ _ h => h) (Or.inl ⟨by rfl, ?_⟩) ?_ ?_
  rotate_left
  · intro w'
    go_simp
    with_reducible rfl
  rotate_left
  · simp only [Act.put, List.setIfInBounds_toArray, List.set_cons_zero, List.set_cons_succ, i64_w, i32_w]
    rfl
  refine pure_ (i := 3) (N := some 7) (v := ?_) (a' := ?_) #[true, false, false, true, false, false, false, false] rfl rfl (by kernel_rfl) (fun _ _ _ h => h) (Or.inl ⟨by rfl, ?_⟩) ?_ ?_
  rotate_left
  · intro w'
    go_simp
    with_reducible rfl
  rotate_left
  · simp only [Act.put, List.setIfInBounds_toArray, List.set_cons_zero, List.set_cons_succ, i64_w, i32_w]
    rfl
  refine take_ (i := 1) (N := some 5) (v := ?_) (a' := ?_) #[true, true, false, true, false, false, false, false] rfl rfl (by kernel_rfl) (fun _ _ _ h => h) (Or.inl ⟨by rfl, ?_⟩) hHeld ?_ ?_
  rotate_left
  · rintro w' ⟨s0, s1⟩
    go_simp
    with_reducible rfl
  rotate_left
  · simp only [Act.put, List.setIfInBounds_toArray, List.set_cons_zero, List.set_cons_succ, i64_w, i32_w]
    rfl
  refine take_ (i := 4) (N := some 8) (v := ?_) (a' := ?_) #[true, true, false, true, true, false, false, false] rfl rfl (by kernel_rfl) (fun _ _ _ h => h) (Or.inl ⟨by rfl, ?_⟩) hHeld ?_ ?_
  rotate_left
  · rintro w' ⟨s0, s1⟩
    go_simp
    with_reducible rfl
  rotate_left
  · simp only [Act.put, List.setIfInBounds_toArray, List.set_cons_zero, List.set_cons_succ, i64_w, i32_w]
    rfl
  refine one_ (i := 2) (N := some 6) #[true, true, true, true, true, false, false, false] rfl rfl (by kernel_rfl) (by decide) (fun K hK => ?_)
  refine goes_ Try.func28 (by kernel_rfl) rfl #[.slice A1 n1 c1] (by rfl) rfl rfl (by simp only [List.map_toArray, List.map_cons, List.map_nil]; rfl) ?_
  with_reducible refine (rows_m A1 c1 HL1.out (by have := HC1.out; omega) HN1.out).mono ?_
  rintro e u1 ⟨v1, rfl, hr1, hb1⟩
  refine ⟨_, rfl, ?_⟩
  have HR1 := Lib.hid hr1
  have HB1 := Lib.hid (below_then HB0.out (by have := HB0.out.size; have := HBE.out; omega) hb1)
  have hp1 := blk_below HBX.out hb1
  have HG1 := Lib.hid (blk_below HG0.out hb1)
  have HK1 := Lib.hid (blk_below HK0.out hb1)
  have HP1 := Lib.hid hp1
  have HL2' := Lib.hid (HL2.out.below hb1)
  have c10 := cell_of_row _ _ 0 _ _ _ hp1
  have c11 := cell_of_row _ _ 1 _ _ _ hp1
  clear hp1 hr1 hb1
  refine hK.out _ _ ⟨c10, c11⟩ (fun hHeld => ?_)
  clear hK K
  refine norm_ (a' := ?_) ?_ ?_
  rotate_left
  · show Act.put _ (some 6) _ = _
    simp only [Act.put, List.setIfInBounds_toArray, List.set_cons_zero, List.set_cons_succ, i64_w, i32_w]
    rfl
  refine one_ (i := 5) (N := some 9) #[true, true, true, true, true, true, false, false] rfl rfl (by kernel_rfl) (by decide) (fun K hK => ?_)
  refine goes_ Try.func28 (by kernel_rfl) rfl #[.slice A2 n2 c2] (by rfl) rfl rfl (by simp only [List.map_toArray, List.map_cons, List.map_nil]; rfl) ?_
  with_reducible refine (rows_m A2 c2 HL2'.out (by have := HC2.out; omega) HN2.out).mono ?_
  rintro e u2 ⟨v2, rfl, hr2, hb2⟩
  refine ⟨_, rfl, ?_⟩
  have HR2 := Lib.hid hr2
  have HB2 := Lib.hid (below_then HB1.out (by have := HB1.out.size; have := HBE.out; omega) hb2)
  have HP2 := Lib.hid (blk_below HP1.out hb2)
  have HG2 := Lib.hid (blk_below HG1.out hb2)
  have HK2 := Lib.hid (blk_below HK1.out hb2)
  have HR1' := Lib.hid (Kd.R_below HR1.out hb2)
  clear hr2 hb2
  obtain ⟨B1, d1, rfl⟩ := Kd.R_slice HR1.out
  obtain ⟨B2, d2, rfl⟩ := Kd.R_slice HR2.out
  have c10 := cell_of_row _ _ 0 _ _ _ HP2.out
  have c11 := cell_of_row _ _ 1 _ _ _ HP2.out
  have g0 := cell_of_row _ _ 0 _ _ _ HG2.out
  have g1 := blk_frozen HG2.out 0
  have k0 : (u2.setCell ⟨G, 0, none⟩ (.slice B1 (rowsV a).length d1)).cell? ⟨KK, 0, none⟩ = some (.slice none 0 0) := cell_of_row _ _ 0 _ _ _ ((Below.heap_setCell _ _ _ _ hgk2).trans HK2.out)
  have k1 : (u2.setCell ⟨G, 0, none⟩ (.slice B1 (rowsV a).length d1)).frozen? ⟨KK, 0, none⟩ = false := blk_frozen ((Below.heap_setCell _ _ _ _ hgk2).trans HK2.out) 0
  refine hK.out _ _ ⟨c10, c11⟩ (fun hHeld => ?_)
  clear hK K
  refine norm_ (a' := ?_) ?_ ?_
  rotate_left
  · show Act.put _ (some 9) _ = _
    simp only [Act.put, List.setIfInBounds_toArray, List.set_cons_zero, List.set_cons_succ, i64_w, i32_w]
    rfl
  refine last_ (i := 6) (N := none) #[true, true, true, true, true, true, true, false] rfl rfl (by kernel_rfl) (by decide) (fun K hK => ?_)
  refine skip_ (w1 := ?_) (by rfl) rfl ?_ ?_
  rotate_left
  · go_simp
    rfl
  refine hK.out _ _ ?_
  clear hK K
  refine last_ (i := 7) (N := none) #[true, true, true, true, true, true, true, true] rfl rfl (by kernel_rfl) (by decide) (fun K hK => ?_)
  refine skip_ (w1 := ?_) (by rfl) rfl ?_ ?_
  rotate_left
  · go_simp
    rfl
  refine hK.out _ _ ?_
  clear hK K
  refine done_ (by kernel_rfl) ?_
  go_wp2_with fail
  refine bodyPost_ret (results_cc rfl _ _ G KK 29 29 #[.slice B1 (rowsV a).length d1] #[.slice B2 (rowsV b).length d2] (0, 0) (0, 0) _ _ rfl ?_ Try.underlying29 rfl (by kernel_rfl) rfl ?_ Try.underlying29 rfl (by kernel_rfl)) rfl ?_
  · exact (Below.heap_setCell _ _ _ _ hgk).trans (by simpa using blk_set HG2.out 0 (.slice B1 (rowsV a).length d1))
  · have := blk_set (show (u2.setCell ⟨G, 0, none⟩ (.slice B1 (rowsV a).length d1)).heap[KK]? = some _ from (Below.heap_setCell _ _ _ _ hgk2).trans HK2.out) 0 (.slice B2 (rowsV b).length d2)
    simpa using this
  · refine ⟨_, _, rfl, Kd.R_lower (R61_set (R61_set HR1'.out HG2.out (by decide) 0 _) ((Below.heap_setCell _ _ _ _ hgk2).trans HK2.out) (by decide) 0 _) (HBE.out ▸ HB0.out.size), Kd.R_lower (R61_set (R61_set HR2.out HG2.out (by decide) 0 _) ((Below.heap_setCell _ _ _ _ hgk2).trans HK2.out) (by decide) 0 _) (by have := HB1.out.size; exact this), ?_⟩
    exact ((HBE.out ▸ HB2.out).setCell (p := ⟨G, 0, none⟩) (by have := HGE.out; have := HBE.out; simp; omega) _).setCell (p := ⟨KK, 0, none⟩) (by have := HGE.out; have := HKE.out; have := HBE.out; simp; omega) _
end Go.Proofs.Yteojldbfebnccaa
