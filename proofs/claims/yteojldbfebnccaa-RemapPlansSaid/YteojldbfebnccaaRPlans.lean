/- RemapPlans: the walk. (Printed by gen_plans.py.) -/
import Derived.Test.YteojldbfebnccaaRTop
import Derived.Test.YteojldbfebnccaaRRefP
namespace Go.Proofs.Yteojldbfebnccaa
open Go.RowKit Go.Proofs.YteojldbfebnccaaW.PrintWords Go.Proofs.YteojldbfebnccaaW.PrintLast Go.Proofs.YteojldbfebnccaaW.PrintMore
set_option linter.unusedVariables false
set_option linter.unusedSimpArgs false
set_option maxRecDepth 100000
section
variable {w W W' : World} {HA HB ca cb : Nat} {RA RB : Option Addr} {ra rb : List S61} {v : Value} {l : List S49}
theorem alike_m {n : Nat} {A : Option Addr} {c : Nat} (h : TopAt w W HA HB RA ca RB cb ra rb (.slice A n c) l) (hn : l.length = n) (oka : OkRows ra) (okb : OkRows rb) (hl : n ≤ 900) :
    Calls Try.prog 24 #[.agg #[.slice RA ra.length ca], .agg #[.slice RB rb.length cb], .slice A n c] W fun e w' => e = .returned (.bool true) ∧ Below W.heap.size W w' := by
  subst hn
  obtain ⟨k, hk⟩ := alike_true oka okb hl
  exact more.foyerlaw19_alike.calls k RA ca ra RB cb rb A c l true W (C61_of_R h.rra).1 (C61_of_R h.rra).2 (C61_of_R h.rrb).1 (C61_of_R h.rrb).2 (C49_of_own h.own).1 (C49_of_own h.own).2 hk
theorem TopAt.appended (h : TopAt w W HA HB RA ca RB cb ra rb v l) {v' : Value} {l' : List S49} (hr : Kd.R k49 49 W' w.heap.size (fun _ => True) v' l') (hb : Below w.heap.size w W') (hg : W.grownBy W' v.ownBlock) : TopAt w W' HA HB RA ca RB cb ra rb v' l' := by
  have hne : ∀ (k : Nat) (cs : Array Value) (t : TypeId), W.heap[k]? = some (.cells cs t (0, 0)) → t ≠ 49 → W'.heap[k]? = W.heap[k]? := by
    intro k cs t hk ht
    refine hg.block k (blk_lt hk) fun e => ?_
    obtain ⟨cs', hc⟩ := own_typed h.own k e.symm
    rw [hk] at hc
    simp at hc
    exact ht hc.2
  exact ⟨(hne _ _ _ h.bA (by decide)).trans h.bA, (hne _ _ _ h.bB (by decide)).trans h.bB, R61_keep h.rra (fun k cs hk => hne k cs 61 hk (by decide)), R61_keep h.rrb (fun k cs hk => hne k cs 61 hk (by decide)), own_of_r49 hr, hb⟩
end
set_option maxHeartbeats 16000000 in
theorem plans_calls {w : World} {pv : Value} {a b : List (Int × Int)} {ch : List Int} (h : PlanIn w pv a b ch) (tw ta tb : Nat) (hw : tw < 256) (hta : ta < 256) (htb : tb < 256) :
    Calls Try.prog 7 #[pv, .agg #[.int .u8 tw, .int .u8 ta, .int .u8 tb]] w fun e w' => e = .returned (.bool true) ∧ Below w.heap.size w w' := by
  have hpi := h
  obtain ⟨A1, c1, A2, c2, A3, c3, rfl, p1, p2, p3, l1, l2, l3⟩ := h.lies
  obtain ⟨oka, cka⟩ := rowsV_ok h.a8
  obtain ⟨okb, ckb⟩ := rowsV_ok h.b8
  clear h
  obtain ⟨ra, hra⟩ : ∃ ra, rowsV a = ra := ⟨_, rfl⟩
  obtain ⟨rb, hrb⟩ : ∃ rb, rowsV b = rb := ⟨_, rfl⟩
  obtain ⟨n1, hn1⟩ : ∃ n1, a.length = n1 := ⟨_, rfl⟩
  obtain ⟨n2, hn2⟩ : ∃ n2, b.length = n2 := ⟨_, rfl⟩
  obtain ⟨n3, hn3⟩ : ∃ n3, ch.length = n3 := ⟨_, rfl⟩
  rw [hra] at oka cka
  rw [hrb] at okb ckb
  rw [hn1, hn2, hn3]
  rw [hn1, hn2, hn3] at hpi
  have HPI := Lib.hid hpi
  have HRA := Lib.hid hra
  have HRB := Lib.hid hrb
  have HKA := Lib.hid oka
  have HKB := Lib.hid okb
  clear hpi hn1 hn2 hn3 hra hrb p1 p2 p3 l1 l2 l3 oka okb cka ckb
  go_enter Try.func7, Try.ntmps7
  go_wp2_with fail
  obtain ⟨w0, hw0⟩ : ∃ w0, (w.alloc (.cells #[.slice A1 n1 c1, .slice A2 n2 c2, .slice A3 n3 c3] 25)).alloc (.cells #[.int .u8 (tw : Int), .int .u8 (ta : Int), .int .u8 (tb : Int)] 52) = w0 := ⟨_, rfl⟩
  have hb0 : Below w.heap.size w w0 := by rw [← hw0]; exact below_alloc (below_alloc (Below.refl _ _) _) _
  have hx0 : w0.heap[w.heap.size]? = some (.cells #[.slice A1 n1 c1, .slice A2 n2 c2, .slice A3 n3 c3] 25 (0, 0)) := by rw [← hw0]; exact blk_alloc (blk_new w _) _
  have ht0 : w0.heap[w.heap.size + 1]? = some (.cells #[.int .u8 (tw : Int), .int .u8 (ta : Int), .int .u8 (tb : Int)] 52 (0, 0)) := by
    rw [← hw0]
    simpa using blk_new (w.alloc (.cells #[.slice A1 n1 c1, .slice A2 n2 c2, .slice A3 n3 c3] 25)) (.cells #[.int .u8 (tw : Int), .int .u8 (ta : Int), .int .u8 (tb : Int)] 52)
  rw [hw0]
  obtain ⟨B, hB⟩ : ∃ B, w.heap.size = B := ⟨_, rfl⟩
  obtain ⟨TB, hTB⟩ : ∃ TB, w.heap.size + 1 = TB := ⟨_, rfl⟩
  rw [hTB] at ht0
  rw [hTB]
  rw [hB] at hx0
  rw [hB]
  have HBE := Lib.hid hB
  have HB0 := Lib.hid hb0
  have HX0 := Lib.hid hx0
  have HT0 := Lib.hid ht0
  clear hw0 hb0 hx0 hB ht0 hTB
  refine (halls_calls (HPI.out.below HB0.out)).mono ?_
  rintro e u1 ⟨v1, v2, rfl, hr1, hr2, hb⟩
  rw [HRA.out] at hr1
  rw [HRB.out] at hr2
  obtain ⟨RA, ca, rfl⟩ := Kd.R_slice hr1
  obtain ⟨RB, cb, rfl⟩ := Kd.R_slice hr2
  have hbx : Below u1.heap.size u1 ((u1.alloc (.cells #[.slice RA ra.length ca] 29)).alloc (.cells #[.slice RB rb.length cb] 29)) := below_alloc (below_alloc (Below.refl _ _) _) _
  have HR1 := Lib.hid (Kd.R_below (Kd.R_lower hr1 HB0.out.size) hbx)
  have HR2 := Lib.hid (Kd.R_below (Kd.R_lower hr2 HB0.out.size) hbx)
  have HB2 := Lib.hid (below_then HB0.out HB0.out.size hb)
  have HB3 := Lib.hid (below_then HB2.out HB2.out.size hbx)
  have HX3 := Lib.hid (blk_below (blk_below HX0.out hb) hbx)
  have HT3 := Lib.hid (blk_below (blk_below HT0.out hb) hbx)
  clear hr1 hr2 hb hbx
  have x0 := cell_of_row _ _ 0 _ _ _ HX3.out
  have x1 := cell_of_row _ _ 1 _ _ _ HX3.out
  have x2 := cell_of_row _ _ 2 _ _ _ HX3.out
  go_wp2_with fail
  obtain ⟨u3, hu3⟩ : ∃ u3, (u1.alloc (.cells #[.slice RA ra.length ca] 29)).alloc (.cells #[.slice RB rb.length cb] 29) = u3 := ⟨_, rfl⟩
  have hA3 : u3.heap[u1.heap.size]? = some (.cells #[.slice RA ra.length ca] 29 (0, 0)) := by rw [← hu3]; exact blk_alloc (blk_new u1 _) _
  have hB3 : u3.heap[u1.heap.size + 1]? = some (.cells #[.slice RB rb.length cb] 29 (0, 0)) := by
    rw [← hu3]
    simpa using blk_new (u1.alloc (.cells #[.slice RA ra.length ca] 29)) (.cells #[.slice RB rb.length cb] 29)
  rw [hu3] at HR1 HR2 HB3 HX3 HT3
  rw [hu3]
  obtain ⟨HA, hHA⟩ : ∃ HA, u1.heap.size = HA := ⟨_, rfl⟩
  obtain ⟨HB, hHB⟩ : ∃ HB, HA + 1 = HB := ⟨_, rfl⟩
  rw [hHA] at hA3
  rw [hHA, hHB] at hB3
  rw [hHA, hHB]
  have HA3 := Lib.hid hA3
  have HBB3 := Lib.hid hB3
  clear hu3 hA3 hB3 hHA hHB HB2 x0 x1 x2
  refine (moves_calls (HPI.out.below HB3.out)).mono ?_
  rintro e u4 ⟨v, rfl, l, hg, hr, hb⟩
  rw [HRA.out, HRB.out] at hg
  have HG := Lib.hid hg
  have HT := Lib.hid (show TopAt w u4 HA HB RA ca RB cb ra rb v l from ⟨blk_below HA3.out hb, blk_below HBB3.out hb, Kd.R_below HR1.out hb, Kd.R_below HR2.out hb, own_weaken (own_of_r49 hr) HB3.out.size, below_then HB3.out HB3.out.size hb⟩)
  have HT4 := Lib.hid (blk_below HT3.out hb)
  clear hg hr hb HA3 HBB3 HR1 HR2 HB3
  have hlen := HG.out.len
  obtain ⟨nl, hnl⟩ : ∃ nl, l.length = nl := ⟨_, rfl⟩
  rw [hnl] at hlen
  have HNL := Lib.hid hnl
  clear hnl
  obtain ⟨LA, lc, rfl⟩ := own_slice HT.out.own
  rw [HNL.out] at HT
  rw [HNL.out]
  have a9 := cell_of_row _ _ 0 _ _ _ HT.out.bA
  have b9 := cell_of_row _ _ 0 _ _ _ HT.out.bB
  go_wp2_with fail
  refine (alike_m HT.out HNL.out HKA.out HKB.out (by omega)).mono ?_
  rintro e u9 ⟨rfl, hb⟩
  have HTA := Lib.hid (HT.out.below hb)
  have hb5 := hb
  clear hb a9 b9
  have HT5 := Lib.hid (blk_below HT4.out hb5)
  clear hb5
  have t0 := cell_of_row _ _ 0 _ _ _ HT5.out
  have t1 := cell_of_row _ _ 1 _ _ _ HT5.out
  have t2 := cell_of_row _ _ 2 _ _ _ HT5.out
  by_cases hl0 : nl = 0
  · have e2 : decide ((0 : Int) < (nl : Int)) = false := decide_eq_false (by omega)
    have e3 : decide (0 < nl) = false := decide_eq_false (by omega)
    have HL0 := Lib.hid hl0
    clear hl0
    have a9 := cell_of_row _ _ 0 _ _ _ HTA.out.bA
    have b9 := cell_of_row _ _ 0 _ _ _ HTA.out.bB
    go_wp2_with fail
    refine (alike_m HTA.out HNL.out HKA.out HKB.out (by omega)).mono ?_
    rintro e u9 ⟨rfl, hb⟩
    have HF := Lib.hid (HTA.out.below hb)
    clear hb a9 b9
    go_wp2_with fail
    refine (works_calls _).mono ?_
    rintro e u10 ⟨rfl, hb⟩
    have HZ := Lib.hid (HF.out.below hb)
    clear hb
    go_wp2_with fail
    go_ret
    exact ⟨rfl, HZ.out.b⟩
  · obtain ⟨g, lc', hv⟩ : ∃ g lc', (.slice LA nl lc : Value) = .slice (some ⟨g, 0, none⟩) nl lc' := by
      rcases HTA.out.own.2 with ⟨_, hn⟩ | ⟨g, cap, cur, e, _⟩
      · rw [HNL.out] at hn; exact absurd hn hl0
      · rw [HNL.out] at e; exact ⟨g, cap, e⟩
    simp only [Value.slice.injEq] at hv
    obtain ⟨rfl, _, rfl⟩ := hv
    have e2 : decide ((0 : Int) < (nl : Int)) = true := decide_eq_true (by omega)
    have e3 : decide (0 < nl) = true := decide_eq_true (by omega)
    have e4 : ¬ nl = 0 := hl0
    obtain ⟨k, hk⟩ : ∃ k, ta % nl = k := ⟨_, rfl⟩
    have hkl : k < nl := by rw [← hk]; exact Nat.mod_lt _ (by omega)
    have hk1 : (ta : Int) % (nl : Int) = (k : Int) := by rw [← hk]; simp
    have hk2 : (ta : Int).tmod (nl : Int) = (k : Int) := by rw [Int.tmod_eq_emod_of_nonneg (by omega)]; exact hk1
    have wta : wrap64 (ta : Int) = (ta : Int) := by unfold wrap64; omega
    have wtb : wrap64 (tb : Int) = (tb : Int) := by unfold wrap64; omega
    have k0 : (0 : Int) ≤ (k : Int) := by omega
    have kl : (k : Int) < (nl : Int) := by omega
    clear hk
    obtain ⟨x, hx⟩ : ∃ x, l[k]? = some x := ⟨_, List.getElem?_eq_getElem (by rw [HNL.out]; exact hkl)⟩
    obtain ⟨m0, m1, f0, f1⟩ := own49_cells HTA.out.own hx
    have HXX := Lib.hid hx
    clear hx
    by_cases q0 : tw % 3 = 0
    · have c0a : ((tw : Int) % 3 == 0) = true := by rw [beq_iff_eq]; omega
      have c0b : ((tw : Int).tmod 3 == 0) = true := by rw [Int.tmod_eq_emod_of_nonneg (by omega)]; exact c0a
      have c0c : (tw % 3 == 0) = true := by rw [beq_iff_eq]; omega
      have HS := Lib.hid (HTA.out.stored (k * 2) (.int .i64 (tb : Int)) (flat2_set0 HXX.out _) (by rw [List.length_set]))
      have HLN := Lib.hid (show (l.set k ⟨(tb : Int), x.f1⟩).length = nl by rw [List.length_set]; exact HNL.out)
      have a9 := cell_of_row _ _ 0 _ _ _ HS.out.bA
      have b9 := cell_of_row _ _ 0 _ _ _ HS.out.bB
      go_wp2_with fail
      refine (alike_m HS.out HLN.out HKA.out HKB.out (by omega)).mono ?_
      rintro e u9 ⟨rfl, hb⟩
      have HF := Lib.hid (HS.out.below hb)
      clear hb a9 b9
      go_wp2_with fail
      refine (works_calls _).mono ?_
      rintro e u10 ⟨rfl, hb⟩
      have HZ := Lib.hid (HF.out.below hb)
      clear hb
      go_wp2_with fail
      go_ret
      exact ⟨rfl, HZ.out.b⟩
    · by_cases q1 : tw % 3 = 1
      · have c0a : ((tw : Int) % 3 == 0) = false := by rw [beq_eq_false_iff_ne]; omega
        have c0b : ((tw : Int).tmod 3 == 0) = false := by rw [Int.tmod_eq_emod_of_nonneg (by omega)]; exact c0a
        have c0c : (tw % 3 == 0) = false := by rw [beq_eq_false_iff_ne]; omega
        have c1a : ((tw : Int) % 3 == 1) = true := by rw [beq_iff_eq]; omega
        have c1b : ((tw : Int).tmod 3 == 1) = true := by rw [Int.tmod_eq_emod_of_nonneg (by omega)]; exact c1a
        have c1c : (tw % 3 == 1) = true := by rw [beq_iff_eq]; omega
        have HS := Lib.hid (HTA.out.stored (k * 2 + 1) (.int .i64 (tb : Int)) (flat2_set1 HXX.out _) (by rw [List.length_set]))
        have HLN := Lib.hid (show (l.set k ⟨x.f0, (tb : Int)⟩).length = nl by rw [List.length_set]; exact HNL.out)
        have a9 := cell_of_row _ _ 0 _ _ _ HS.out.bA
        have b9 := cell_of_row _ _ 0 _ _ _ HS.out.bB
        go_wp2_with fail
        refine (alike_m HS.out HLN.out HKA.out HKB.out (by omega)).mono ?_
        rintro e u9 ⟨rfl, hb⟩
        have HF := Lib.hid (HS.out.below hb)
        clear hb a9 b9
        go_wp2_with fail
        refine (works_calls _).mono ?_
        rintro e u10 ⟨rfl, hb⟩
        have HZ := Lib.hid (HF.out.below hb)
        clear hb
        go_wp2_with fail
        go_ret
        exact ⟨rfl, HZ.out.b⟩
      · have q2 : tw % 3 = 2 := by omega
        have c0a : ((tw : Int) % 3 == 0) = false := by rw [beq_eq_false_iff_ne]; omega
        have c0b : ((tw : Int).tmod 3 == 0) = false := by rw [Int.tmod_eq_emod_of_nonneg (by omega)]; exact c0a
        have c0c : (tw % 3 == 0) = false := by rw [beq_eq_false_iff_ne]; omega
        have c1a : ((tw : Int) % 3 == 1) = false := by rw [beq_eq_false_iff_ne]; omega
        have c1b : ((tw : Int).tmod 3 == 1) = false := by rw [Int.tmod_eq_emod_of_nonneg (by omega)]; exact c1a
        have c1c : (tw % 3 == 1) = false := by rw [beq_eq_false_iff_ne]; omega
        have HR9 := Lib.hid (r49_of_own HTA.out.own)
        have hol : (l.length + 1) * 16 ≤ 140737488355328 := by have := HNL.out; omega
        have HOL := Lib.hid hol
        clear hol
        go_wp2_with ((with_reducible refine gate_builtin (b := .append) (xs := #[.tmp 35, .tmp 39]) rfl ?_); at_builtin; refine Kd.R_append k49 (w0 := w) w.heap.size rfl (.tmp 35) (.tmp 39) 32 49 (.agg #[.int .i64 0, .int .i64 0]) 16 rfl Try.underlying32 info49 rfl (by decide) (by decide) (.slice (some ⟨g, 0, none⟩) nl lc) l x [.int .i64 x.f0, .int .i64 x.f1] (fun _ => True) (fun _ => False) rfl rfl (k49_mkM _ _ _ _) (fun _ h => h.elim) (fun _ _ => trivial) HR9.out HTA.out.b HTA.out.b.size HOL.out ?_; intro v1 z1 hR1 hb1 hg1 hat1; have HLN := Lib.hid (show (l ++ [x]).length = nl + 1 by rw [List.length_append, List.length_singleton, HNL.out]); obtain ⟨LB, lb, hv1⟩ := Kd.R_slice hR1; rw [HLN.out] at hv1; subst hv1; have HS := Lib.hid (HTA.out.appended hR1 hb1 hg1); clear hR1 hb1 hg1 hat1 m0 m1 f0 f1 t0 t1 t2; have a9 := cell_of_row _ _ 0 _ _ _ HS.out.bA; have b9 := cell_of_row _ _ 0 _ _ _ HS.out.bB)
        refine (alike_m HS.out HLN.out HKA.out HKB.out (by omega)).mono ?_
        rintro e u9 ⟨rfl, hb⟩
        have HF := Lib.hid (HS.out.below hb)
        clear hb a9 b9
        go_wp2_with fail
        refine (works_calls _).mono ?_
        rintro e u10 ⟨rfl, hb⟩
        have HZ := Lib.hid (HF.out.below hb)
        clear hb
        go_wp2_with fail
        go_ret
        exact ⟨rfl, HZ.out.b⟩
end Go.Proofs.Yteojldbfebnccaa
