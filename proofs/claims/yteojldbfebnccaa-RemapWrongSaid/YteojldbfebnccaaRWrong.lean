/- RemapWrong: the walk. (Printed by gen_wrong.py.) -/
import Derived.Test.YteojldbfebnccaaRTop
namespace Go.Proofs.Yteojldbfebnccaa
open Go.RowKit Go.Proofs.YteojldbfebnccaaW.PrintWords Go.Proofs.YteojldbfebnccaaW.PrintLast Go.Proofs.YteojldbfebnccaaW.PrintMore
set_option linter.unusedVariables false
set_option linter.unusedSimpArgs false
set_option maxRecDepth 100000
set_option maxHeartbeats 16000000 in
theorem wrong_calls {w : World} {pv : Value} {a b : List (Int × Int)} {ch : List Int} (h : PlanIn w pv a b ch) (tw ta tb : Nat) (hw : tw < 256) (hta : ta < 256) (htb : tb < 256) :
    Calls Try.prog 5 #[pv, .agg #[.int .u8 tw, .int .u8 ta, .int .u8 tb]] w fun e w' => e = .returned (.bool true) ∧ Below w.heap.size w w' := by
  have hpi := h
  obtain ⟨A1, c1, A2, c2, A3, c3, rfl, p1, p2, p3, l1, l2, l3⟩ := h.lies
  obtain ⟨oka, cka⟩ := rowsV_ok h.a8
  obtain ⟨okb, ckb⟩ := rowsV_ok h.b8
  clear h
  obtain ⟨ra, hra⟩ : ∃ ra, rowsV a = ra := ⟨_, rfl⟩
  obtain ⟨rb, hrb⟩ : ∃ rb, rowsV b = rb := ⟨_, rfl⟩
  obtain ⟨n1, hn1⟩ : ∃ n1, a.length = n1 := ⟨_, rfl⟩
  obtain ⟨n2, hn2⟩ : ∃ n2, b.length = n2 := ⟨_, rfl⟩
  obtain ⟨n3, hn3⟩ : ∃ n3, ch.length = n3 := ⟨_, rfl⟩
  rw [hra] at oka cka
  rw [hrb] at okb ckb
  rw [hn1, hn2, hn3]
  rw [hn1, hn2, hn3] at hpi
  have HPI := Lib.hid hpi
  have HRA := Lib.hid hra
  have HRB := Lib.hid hrb
  have HKA := Lib.hid cka
  have HKB := Lib.hid ckb
  clear hpi hn1 hn2 hn3 hra hrb p1 p2 p3 l1 l2 l3 oka okb cka ckb
  go_enter Try.func5, Try.ntmps5
  go_wp2_with fail
  obtain ⟨w0, hw0⟩ : ∃ w0, (w.alloc (.cells #[.slice A1 n1 c1, .slice A2 n2 c2, .slice A3 n3 c3] 25)).alloc (.cells #[.int .u8 (tw : Int), .int .u8 (ta : Int), .int .u8 (tb : Int)] 52) = w0 := ⟨_, rfl⟩
  have hb0 : Below w.heap.size w w0 := by rw [← hw0]; exact below_alloc (below_alloc (Below.refl _ _) _) _
  have hx0 : w0.heap[w.heap.size]? = some (.cells #[.slice A1 n1 c1, .slice A2 n2 c2, .slice A3 n3 c3] 25 (0, 0)) := by rw [← hw0]; exact blk_alloc (blk_new w _) _
  have ht0 : w0.heap[w.heap.size + 1]? = some (.cells #[.int .u8 (tw : Int), .int .u8 (ta : Int), .int .u8 (tb : Int)] 52 (0, 0)) := by
    rw [← hw0]
    simpa using blk_new (w.alloc (.cells #[.slice A1 n1 c1, .slice A2 n2 c2, .slice A3 n3 c3] 25)) (.cells #[.int .u8 (tw : Int), .int .u8 (ta : Int), .int .u8 (tb : Int)] 52)
  rw [hw0]
  obtain ⟨B, hB⟩ : ∃ B, w.heap.size = B := ⟨_, rfl⟩
  obtain ⟨TB, hTB⟩ : ∃ TB, w.heap.size + 1 = TB := ⟨_, rfl⟩
  rw [hTB] at ht0
  rw [hTB]
  rw [hB] at hx0
  rw [hB]
  have HBE := Lib.hid hB
  have HB0 := Lib.hid hb0
  have HX0 := Lib.hid hx0
  have HT0 := Lib.hid ht0
  clear hw0 hb0 hx0 hB ht0 hTB
  refine (works_calls w0).mono ?_
  rintro e w1 ⟨rfl, hb⟩
  have HB1 := Lib.hid (below_then HB0.out HB0.out.size hb)
  have HX1 := Lib.hid (blk_below HX0.out hb)
  have HT1 := Lib.hid (blk_below HT0.out hb)
  clear hb HB0 HX0
  have x0 := cell_of_row _ _ 0 _ _ _ HX1.out
  have x1 := cell_of_row _ _ 1 _ _ _ HX1.out
  have x2 := cell_of_row _ _ 2 _ _ _ HX1.out
  go_wp2_with fail
  refine (halls_calls (HPI.out.below HB1.out)).mono ?_
  rintro e u1 ⟨v1, v2, rfl, hr1, hr2, hb⟩
  rw [HRA.out] at hr1
  rw [HRB.out] at hr2
  obtain ⟨RA, ca, rfl⟩ := Kd.R_slice hr1
  obtain ⟨RB, cb, rfl⟩ := Kd.R_slice hr2
  have hbx : Below u1.heap.size u1 ((u1.alloc (.cells #[.slice RA ra.length ca] 29)).alloc (.cells #[.slice RB rb.length cb] 29)) := below_alloc (below_alloc (Below.refl _ _) _) _
  have HR1 := Lib.hid (Kd.R_below (Kd.R_lower hr1 HB1.out.size) hbx)
  have HR2 := Lib.hid (Kd.R_below (Kd.R_lower hr2 HB1.out.size) hbx)
  have HB2 := Lib.hid (below_then HB1.out HB1.out.size hb)
  have HB3 := Lib.hid (below_then HB2.out HB2.out.size hbx)
  have HX3 := Lib.hid (blk_below (blk_below HX1.out hb) hbx)
  have HT3 := Lib.hid (blk_below (blk_below HT1.out hb) hbx)
  clear hr1 hr2 hb hbx x0 x1 x2
  have x0 := cell_of_row _ _ 0 _ _ _ HX3.out
  have x1 := cell_of_row _ _ 1 _ _ _ HX3.out
  have x2 := cell_of_row _ _ 2 _ _ _ HX3.out
  go_wp2_with fail
  obtain ⟨u3, hu3⟩ : ∃ u3, (u1.alloc (.cells #[.slice RA ra.length ca] 29)).alloc (.cells #[.slice RB rb.length cb] 29) = u3 := ⟨_, rfl⟩
  have hA3 : u3.heap[u1.heap.size]? = some (.cells #[.slice RA ra.length ca] 29 (0, 0)) := by rw [← hu3]; exact blk_alloc (blk_new u1 _) _
  have hB3 : u3.heap[u1.heap.size + 1]? = some (.cells #[.slice RB rb.length cb] 29 (0, 0)) := by
    rw [← hu3]
    simpa using blk_new (u1.alloc (.cells #[.slice RA ra.length ca] 29)) (.cells #[.slice RB rb.length cb] 29)
  rw [hu3] at HR1 HR2 HB3 HX3 HT3
  rw [hu3]
  obtain ⟨HA, hHA⟩ : ∃ HA, u1.heap.size = HA := ⟨_, rfl⟩
  obtain ⟨HB, hHB⟩ : ∃ HB, HA + 1 = HB := ⟨_, rfl⟩
  rw [hHA] at hA3
  rw [hHA, hHB] at hB3
  rw [hHA, hHB]
  have HA3 := Lib.hid hA3
  have HBB3 := Lib.hid hB3
  clear hu3 hA3 hB3 hHA hHB HB2 x0 x1 x2
  refine (moves_calls (HPI.out.below HB3.out)).mono ?_
  rintro e u4 ⟨v, rfl, l, hg, hr, hb⟩
  rw [HRA.out, HRB.out] at hg
  have HG := Lib.hid hg
  have HT := Lib.hid (show TopAt w u4 HA HB RA ca RB cb ra rb v l from ⟨blk_below HA3.out hb, blk_below HBB3.out hb, Kd.R_below HR1.out hb, Kd.R_below HR2.out hb, own_weaken (own_of_r49 hr) HB3.out.size, below_then HB3.out HB3.out.size hb⟩)
  have HT4 := Lib.hid (blk_below HT3.out hb)
  clear hg hr hb HA3 HBB3 HR1 HR2 HB3
  have hlen := HG.out.len
  obtain ⟨nl, hnl⟩ : ∃ nl, l.length = nl := ⟨_, rfl⟩
  rw [hnl] at hlen
  have HNL := Lib.hid hnl
  clear hnl
  by_cases hl0 : nl = 0
  · have hnil : l = [] := List.eq_nil_of_length_eq_zero (by rw [HNL.out]; exact hl0)
    obtain ⟨LA, lc, rfl⟩ := own_slice HT.out.own
    subst hl0
    rw [HNL.out]
    go_wp2_with fail
    go_ret
    exact ⟨rfl, HT.out.b⟩
  · obtain ⟨g, lc, rfl⟩ : ∃ g lc, v = .slice (some ⟨g, 0, none⟩) nl lc := by
      rcases HT.out.own.2 with ⟨_, hn⟩ | ⟨g, cap, cur, e, _⟩
      · rw [HNL.out] at hn; exact absurd hn hl0
      · rw [HNL.out] at e; exact ⟨g, cap, e⟩
    obtain ⟨k, hk⟩ : ∃ k, ta % nl = k := ⟨_, rfl⟩
    have hkl : k < nl := by rw [← hk]; exact Nat.mod_lt _ (by omega)
    have hk1 : (ta : Int) % (nl : Int) = (k : Int) := by rw [← hk]; simp
    have hk2 : (ta : Int).tmod (nl : Int) = (k : Int) := by rw [Int.tmod_eq_emod_of_nonneg (by omega)]; exact hk1
    have e0 : ((nl : Int) == 0) = false := by rw [beq_eq_false_iff_ne]; omega
    have e1 : (nl == 0) = false := by rw [beq_eq_false_iff_ne]; omega
    have wta : wrap64 (ta : Int) = (ta : Int) := by unfold wrap64; omega
    have wtb : wrap64 (tb : Int) = (tb : Int) := by unfold wrap64; omega
    have k0 : (0 : Int) ≤ (k : Int) := by omega
    have kl : (k : Int) < (nl : Int) := by omega
    clear hk
    obtain ⟨x, hx⟩ : ∃ x, l[k]? = some x := ⟨_, List.getElem?_eq_getElem (by rw [HNL.out]; exact hkl)⟩
    have hxr : x = rd_T49 l (k : Int) := by
      have h9 := rd49 (l := l) (i := k) (by rw [HNL.out]; exact hkl)
      rw [hx] at h9
      exact Option.some.inj h9
    obtain ⟨m0, m1, f0, f1⟩ := own49_cells HT.out.own hx
    have t0 := cell_of_row _ _ 0 _ _ _ HT4.out
    have t1 := cell_of_row _ _ 1 _ _ _ HT4.out
    have t2 := cell_of_row _ _ 2 _ _ _ HT4.out
    have HXR := Lib.hid hxr
    have HXX := Lib.hid hx
    have hkl' : k < l.length := by rw [HNL.out]; exact hkl
    have HKL := Lib.hid hkl'
    clear hxr hx hkl'
    by_cases q0 : tw % 4 = 0
    · have c0a : ((tw : Int) % 4 == 0) = true := by rw [beq_iff_eq]; omega
      have c0b : ((tw : Int).tmod 4 == 0) = true := by rw [Int.tmod_eq_emod_of_nonneg (by omega)]; exact c0a
      have c0c : (tw % 4 == 0) = true := by rw [beq_iff_eq]; omega
      have HS := Lib.hid (HT.out.stored (k * 2 + 1) (.int .i64 (64 + (tb : Int))) (flat2_set1 HXX.out _) (by rw [List.length_set]))
      have HV := Lib.hid (check_seat HG.out HKA.out HKB.out HKL.out (y := ⟨x.f0, 64 + (tb : Int)⟩) (by rw [HXR.out]) (.inr (by show (64 : Int) ≤ 64 + (tb : Int); omega)))
      have HLN := Lib.hid (show (l.set k ⟨x.f0, 64 + (tb : Int)⟩).length = nl by rw [List.length_set]; exact HNL.out)
      have a9 := cell_of_row _ _ 0 _ _ _ HS.out.bA
      have b9 := cell_of_row _ _ 0 _ _ _ HS.out.bB
      go_wp2_with fail
      refine (chk_m HS.out HLN.out HV.out).mono ?_
      rintro e u9 ⟨rfl, hb⟩
      have HF := Lib.hid (below_then HS.out.b HS.out.b.size hb)
      clear hb a9 b9
      go_wp2_with fail
      go_ret
      exact ⟨by simp, HF.out⟩
    · by_cases q1 : tw % 4 = 1
      · have c0a : ((tw : Int) % 4 == 0) = false := by rw [beq_eq_false_iff_ne]; omega
        have c0b : ((tw : Int).tmod 4 == 0) = false := by rw [Int.tmod_eq_emod_of_nonneg (by omega)]; exact c0a
        have c0c : (tw % 4 == 0) = false := by rw [beq_eq_false_iff_ne]; omega
        have c1a : ((tw : Int) % 4 == 1) = true := by rw [beq_iff_eq]; omega
        have c1b : ((tw : Int).tmod 4 == 1) = true := by rw [Int.tmod_eq_emod_of_nonneg (by omega)]; exact c1a
        have c1c : (tw % 4 == 1) = true := by rw [beq_iff_eq]; omega
        have HS := Lib.hid (HT.out.stored (k * 2 + 1) (.int .i64 (-1)) (flat2_set1 HXX.out _) (by rw [List.length_set]))
        have HV := Lib.hid (check_seat HG.out HKA.out HKB.out HKL.out (y := ⟨x.f0, -1⟩) (by rw [HXR.out]) (.inl (by show (-1 : Int) < 0; omega)))
        have HLN := Lib.hid (show (l.set k ⟨x.f0, -1⟩).length = nl by rw [List.length_set]; exact HNL.out)
        have a9 := cell_of_row _ _ 0 _ _ _ HS.out.bA
        have b9 := cell_of_row _ _ 0 _ _ _ HS.out.bB
        go_wp2_with fail
        refine (chk_m HS.out HLN.out HV.out).mono ?_
        rintro e u9 ⟨rfl, hb⟩
        have HF := Lib.hid (below_then HS.out.b HS.out.b.size hb)
        clear hb a9 b9
        go_wp2_with fail
        go_ret
        exact ⟨by simp, HF.out⟩
      · by_cases q2 : tw % 4 = 2
        · have c0a : ((tw : Int) % 4 == 0) = false := by rw [beq_eq_false_iff_ne]; omega
          have c0b : ((tw : Int).tmod 4 == 0) = false := by rw [Int.tmod_eq_emod_of_nonneg (by omega)]; exact c0a
          have c0c : (tw % 4 == 0) = false := by rw [beq_eq_false_iff_ne]; omega
          have c1a : ((tw : Int) % 4 == 1) = false := by rw [beq_eq_false_iff_ne]; omega
          have c1b : ((tw : Int).tmod 4 == 1) = false := by rw [Int.tmod_eq_emod_of_nonneg (by omega)]; exact c1a
          have c1c : (tw % 4 == 1) = false := by rw [beq_eq_false_iff_ne]; omega
          have c2a : ((tw : Int) % 4 == 2) = true := by rw [beq_iff_eq]; omega
          have c2b : ((tw : Int).tmod 4 == 2) = true := by rw [Int.tmod_eq_emod_of_nonneg (by omega)]; exact c2a
          have c2c : (tw % 4 == 2) = true := by rw [beq_iff_eq]; omega
          by_cases hk0 : k = 0
          · have d0 : ((k : Int) == 0) = true := by rw [beq_iff_eq]; omega
            have d1 : (k == 0) = true := by rw [beq_iff_eq]; omega
            go_wp2_with fail
            go_ret
            exact ⟨rfl, HT.out.b⟩
          · have d0 : ((k : Int) == 0) = false := by rw [beq_eq_false_iff_ne]; omega
            have d1 : (k == 0) = false := by rw [beq_eq_false_iff_ne]; omega
            have hy := rd49 (l := l) (i := k - 1) (by rw [HNL.out]; omega)
            obtain ⟨y, hye⟩ : ∃ y, rd_T49 l ((k - 1 : Nat) : Int) = y := ⟨_, rfl⟩
            rw [hye] at hy
            obtain ⟨km, hkm⟩ : ∃ km, k - 1 = km := ⟨_, rfl⟩
            rw [hkm] at hy
            obtain ⟨y0, y1, _, _⟩ := own49_cells HT.out.own hy
            have s0 : IntKind.i64.wrap ((k : Int) - 1) = (km : Int) := by rw [IntWalk.i64_in _ (by omega)]; omega
            have s1 : (k : Int) - 1 = (km : Int) := by omega
            have s2 : (0 : Int) ≤ (km : Int) := by omega
            have s3 : (km : Int) < (nl : Int) := by omega
            have HS := Lib.hid (HT.out.stored (k * 2) (.int .i64 y.f0) (flat2_set0 HXX.out _) (by rw [List.length_set]))
            have HV := Lib.hid (check_order HG.out HKA.out HKB.out HKL.out hk0 (y := ⟨y.f0, x.f1⟩) (by rw [hye]))
            clear hy hye hkm hk0
            have HLN := Lib.hid (show (l.set k ⟨y.f0, x.f1⟩).length = nl by rw [List.length_set]; exact HNL.out)
            have a9 := cell_of_row _ _ 0 _ _ _ HS.out.bA
            have b9 := cell_of_row _ _ 0 _ _ _ HS.out.bB
            go_wp2_with fail
            refine (chk_m HS.out HLN.out HV.out).mono ?_
            rintro e u9 ⟨rfl, hb⟩
            have HF := Lib.hid (below_then HS.out.b HS.out.b.size hb)
            clear hb a9 b9
            go_wp2_with fail
            go_ret
            exact ⟨by simp, HF.out⟩
        · have q3 : tw % 4 = 3 := by omega
          have c0a : ((tw : Int) % 4 == 0) = false := by rw [beq_eq_false_iff_ne]; omega
          have c0b : ((tw : Int).tmod 4 == 0) = false := by rw [Int.tmod_eq_emod_of_nonneg (by omega)]; exact c0a
          have c0c : (tw % 4 == 0) = false := by rw [beq_eq_false_iff_ne]; omega
          have c1a : ((tw : Int) % 4 == 1) = false := by rw [beq_eq_false_iff_ne]; omega
          have c1b : ((tw : Int).tmod 4 == 1) = false := by rw [Int.tmod_eq_emod_of_nonneg (by omega)]; exact c1a
          have c1c : (tw % 4 == 1) = false := by rw [beq_eq_false_iff_ne]; omega
          have c2a : ((tw : Int) % 4 == 2) = false := by rw [beq_eq_false_iff_ne]; omega
          have c2b : ((tw : Int).tmod 4 == 2) = false := by rw [Int.tmod_eq_emod_of_nonneg (by omega)]; exact c2a
          have c2c : (tw % 4 == 2) = false := by rw [beq_eq_false_iff_ne]; omega
          by_cases hk0 : k = 0
          · have d0 : ((k : Int) == 0) = true := by rw [beq_iff_eq]; omega
            have d1 : (k == 0) = true := by rw [beq_iff_eq]; omega
            go_wp2_with fail
            go_ret
            exact ⟨rfl, HT.out.b⟩
          · have d0 : ((k : Int) == 0) = false := by rw [beq_eq_false_iff_ne]; omega
            have d1 : (k == 0) = false := by rw [beq_eq_false_iff_ne]; omega
            obtain ⟨km, hkm⟩ : ∃ km, tb % k = km := ⟨_, rfl⟩
            have hkmk : km < k := by rw [← hkm]; exact Nat.mod_lt _ (by omega)
            have s0 : (tb : Int) % (k : Int) = (km : Int) := by rw [← hkm]; simp
            have s1 : (tb : Int).tmod (k : Int) = (km : Int) := by rw [Int.tmod_eq_emod_of_nonneg (by omega)]; exact s0
            have s2 : (0 : Int) ≤ (km : Int) := by omega
            have s3 : (km : Int) < (nl : Int) := by omega
            have hy := rd49 (l := l) (i := km) (by rw [HNL.out]; omega)
            obtain ⟨y, hye⟩ : ∃ y, rd_T49 l (km : Int) = y := ⟨_, rfl⟩
            rw [hye] at hy
            obtain ⟨y0, y1, _, _⟩ := own49_cells HT.out.own hy
            have HS := Lib.hid (HT.out.stored (k * 2 + 1) (.int .i64 y.f1) (flat2_set1 HXX.out _) (by rw [List.length_set]))
            have HV := Lib.hid (check_twice HG.out HKA.out HKB.out HKL.out hkmk (y := ⟨x.f0, y.f1⟩) (by rw [HXR.out]) (by rw [hye]))
            clear hy hye hkm hkmk
            have HLN := Lib.hid (show (l.set k ⟨x.f0, y.f1⟩).length = nl by rw [List.length_set]; exact HNL.out)
            have a9 := cell_of_row _ _ 0 _ _ _ HS.out.bA
            have b9 := cell_of_row _ _ 0 _ _ _ HS.out.bB
            go_wp2_with fail
            refine (chk_m HS.out HLN.out HV.out).mono ?_
            rintro e u9 ⟨rfl, hb⟩
            have HF := Lib.hid (below_then HS.out.b HS.out.b.size hb)
            clear hb a9 b9
            go_wp2_with fail
            go_ret
            exact ⟨by simp, HF.out⟩
end Go.Proofs.Yteojldbfebnccaa
