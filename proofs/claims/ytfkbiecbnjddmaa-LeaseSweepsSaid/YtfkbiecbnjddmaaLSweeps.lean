/- LeaseSweeps: the walk. -/
import Derived.Test.YtfkbiecbnjddmaaLSwPure
import Derived.Test.YtfkbiecbnjddmaaLGiven
namespace Go.Proofs.Ytfkbiecbnjddmaa
open Go.RowKit Go.Proofs.YtfkbiecbnjddmaaW.PrintWords Go.Proofs.YtfkbiecbnjddmaaW.PrintLast Go.Proofs.YtfkbiecbnjddmaaW.PrintMore
attribute [local go_sem] min2_int min_two
attribute [local go_sem high] eqA34
set_option linter.unusedVariables false
theorem idx0 (x y z : Int) (w : World) : (Instr.index 24 (.agg #[.int .u64 x, .int .u64 y, .int .u64 z]) (.int .i64 0)).run Try.prog w = .ok (.int .u64 x) w := by kernel_rfl
theorem idx1 (x y z : Int) (w : World) : (Instr.index 24 (.agg #[.int .u64 x, .int .u64 y, .int .u64 z]) (.int .i64 1)).run Try.prog w = .ok (.int .u64 y) w := by kernel_rfl
theorem idx2 (x y z : Int) (w : World) : (Instr.index 24 (.agg #[.int .u64 x, .int .u64 y, .int .u64 z]) (.int .i64 2)).run Try.prog w = .ok (.int .u64 z) w := by kernel_rfl
theorem R_C {w : World} {base : Nat} {ok : Nat → Prop} {v : Value} {xs : List S34} (h : Kd.R k34 34 w base ok v xs) : ∃ A c, v = .slice A xs.length c ∧ xs.length ≤ c ∧ Kd.C k34 w A xs.length xs := Kd.R_reads h
set_option maxHeartbeats 4000000
set_option maxRecDepth 100000
theorem sweeps_calls (a0 a1 : Int) (h0 : 0 ≤ a0) (h1 : 0 ≤ a1) (A2 : Option Addr) (c2 : Nat) (l2 : List S34) (W : World) (hr2 : Kd.C k34 W A2 l2.length l2) (hc2 : l2.length ≤ c2) :
    Calls Try.prog 3 #[.int .u64 a0, .int .u64 a1, .slice A2 l2.length c2] W fun e w' => e = .returned (.bool true) ∧ Below W.heap.size W w' := by
  obtain ⟨n, hn⟩ : ∃ n, l2.length = n := ⟨_, rfl⟩
  obtain ⟨m, hm1, hm2, hmin⟩ : ∃ m : Nat, m ≤ n ∧ m ≤ 40 ∧ (if (40 : Int) < (n : Int) then (40 : Int) else (n : Int)) = (m : Int) := by
    by_cases h : (40 : Int) < (n : Int)
    · exact ⟨40, by omega, by omega, by rw [if_pos h]; rfl⟩
    · exact ⟨n, by omega, by omega, by rw [if_neg h]⟩
  have hCt := Kd.C_take (m := m) hr2 (by omega)
  rw [hn] at hr2 hc2 ⊢
  have HR2 := Lib.hid hr2
  have HN := Lib.hid hn
  obtain ⟨l, hl⟩ : ∃ l, l2.take m = l := ⟨_, rfl⟩
  have hll : l.length = m := by rw [← hl, List.length_take]; omega
  have HL := Lib.hid hl
  have HLL := Lib.hid hll
  rw [hl, hll] at hCt
  have HCT := Lib.hid hCt
  obtain ⟨i0, hi0, _, hsz, _⟩ := info_parts info34
  have hcut : ∀ w : World, (Instr.slice 23 (.slice A2 n c2) none (some (.int .i64 (m : Int))) none).run Try.prog w = .ok (.slice A2 m c2) w := by
    have := cut_to (P := Try.prog) 23 34 .i64 Try.underlying23 hi0 A2 n c2 (m : Int) (by omega) (by omega) hc2
    simpa using this
  have q1 : (m : Int) ≤ (c2 : Int) := by omega
  have q0 : (0 : Int) ≤ (m : Int) := by omega
  clear hr2 hn hl hll hCt hi0 hsz
  go_enter Try.func3, Try.ntmps3
  go_wp2_with (first | ((with_reducible refine gate_dst (N := 19) rfl ?_); refine Kd.R_lit k34 W.heap.size 34 ?hg (N := 19) ?hd (xs := ([] : List (S34))) (inner := []) (ok := fun _ => True) (okp := fun _ => True) ?hr ?hp (fun _ hk => hk) trivial (Below.refl _ W) (Nat.le_refl _) (by simp) ?_; (case hd => rfl); (case hg => rfl); (case hr => first | (go_simp; done) | (go_simp; rfl)); (case hp => exact (Reps.none _ _)); intro v1 w1 ho1 hb1 hg1 hnew1; have HO1 := Lib.hid ho1; have HB1 := Lib.hid hb1; clear ho1 hb1 hg1 hnew1) | ((with_reducible refine gate_builtin (b := .append) (xs := #[.tmp 19, .tmp 24]) rfl ?_); at_builtin; refine Kd.R_append_rows k34 (w0 := W) W.heap.size rfl (.tmp 19) (.tmp 24) 23 34 (.agg #[(.bool false), (.int .u32 0), (.string ⟨#[]⟩), (.int .i64 0), (.int .i64 0), (.int .i64 0), (.int .u64 0)]) 56 rfl Try.underlying23 info34 rfl (by decide) (by omega) v1 ([] : List S34) l A2 m c2 (fun _ => True) (fun _ => False) rfl rfl HO1.out ?aR (fun _ _ h => h) (fun _ h => h.elim) (fun _ _ => trivial) HB1.out HB1.out.size ?aL ?_; (case aR => exact (Kd.C_below HCT.out HB1.out)); (case aL => (simp only [List.length_nil]; omega)); intro v7 w2 ho2 hb2 hg2 hat2; have HO2 := Lib.hid ho2; have HB2 := Lib.hid hb2; clear ho2 hb2 hg2 hat2))
  obtain ⟨A7, c7, hv7, hc7, hC7⟩ := Kd.R_reads HO2.out
  simp only [List.nil_append] at hv7 hc7 hC7
  rw [HLL.out] at hv7 hc7 hC7
  subst hv7
  have HC7 := Lib.hid hC7
  clear hC7
  go_wp2_with fail
  go_loopw [32] (fun v32 wr => ∃ j : Nat, v32 = .int .i64 j ∧ j ≤ 3 ∧ Hid (Kd.C k34 wr A7 m l) ∧ Hid (Below W.heap.size W wr)) (fun v _ => 3 - (intOf v).toNat)
  case atStart => exact ⟨0, rfl, by omega, HC7, HB2⟩
  case round =>
    clear HC7 HO2 HO1
    obtain ⟨j, rfl, hj, HC, HB⟩ := hrel
    by_cases h3 : j < 3
    · rcases (by omega : j = 0 ∨ j = 1 ∨ j = 2) with rfl | rfl | rfl
      · obtain ⟨t, htt⟩ : ∃ t, a1 = t := ⟨_, rfl⟩
        have ht : 0 ≤ t := by omega
        go_wp2_with fail
        rw [idx0]
        rw [htt]
        have HTT := Lib.hid htt
        clear htt
        go_wp2_with fail
        obtain ⟨r1, r2, hT⟩ := till_some a0 t
        have HT := Lib.hid hT
        clear hT
        refine (lease_Till.calls a0 t r1 r2 _ HT.out).mono ?_
        rintro e w4 ⟨rfl, hd4⟩
        have HC4 := Lib.hid (Kd.C_below HC.out hd4.below)
        have HB4 := Lib.hid (below_then HB.out HB.out.size hd4.below)
        clear hd4
        go_wp2_with fail
        refine (foyerref26_Till.calls a0 t r1 r2 _ (by rw [till_same _ _ ht]; exact HT.out)).mono ?_
        rintro e w5 ⟨rfl, hd5⟩
        have HC5 := Lib.hid (Kd.C_below HC4.out hd5.below)
        have HB5 := Lib.hid (below_then HB4.out HB4.out.size hd5.below)
        clear hd5 HC4 HB4 HT
        go_wp2_with fail
        have hcs := lease_Sweep.calls A7 c7 l t (stayL l t) (goneL l t) w5 (by rw [HLL.out]; exact HC5.out) (by rw [HLL.out]; exact hc7) (by rw [lease_Sweep.f, if_pos (by rw [HLL.out]; omega)])
        rw [HLL.out] at hcs
        refine hcs.mono ?_
        clear hcs
        rintro e w6 ⟨v0, v1', rfl, hs6, hg6, hb6⟩
        obtain ⟨As, cs, rfl, hcs6, hCs6⟩ := R_C hs6
        obtain ⟨Ag, cg, rfl, hcg6, hCg6⟩ := R_C hg6
        have HC6 := Lib.hid (Kd.C_below HC5.out hb6)
        have HB6 := Lib.hid (below_then HB5.out HB5.out.size hb6)
        have HS6 := Lib.hid hCs6
        have HG6 := Lib.hid hCg6
        clear hs6 hg6 hb6 hCs6 hCg6 HC5 HB5
        have hsl : (stayL l t).length ≤ 40 := Nat.le_trans (List.length_filter_le _ _) (by rw [HLL.out]; omega)
        have hgl : (goneL l t).length ≤ 40 := Nat.le_trans (List.length_filter_le _ _) (by rw [HLL.out]; omega)
        obtain ⟨ns, hns⟩ : ∃ ns, (stayL l t).length = ns := ⟨_, rfl⟩
        obtain ⟨ng, hng⟩ : ∃ ng, (goneL l t).length = ng := ⟨_, rfl⟩
        have HNS := Lib.hid hns
        have HNG := Lib.hid hng
        rw [hns] at hcs6 hsl ⊢
        rw [hng] at hcg6 hgl ⊢
        clear hns hng
        go_wp2_with fail
        have hcs := foyerref26_Sweep.calls 60 A7 c7 l t (stayL l t) (goneL l t) w6 (by rw [HLL.out]; exact HC6.out) (by rw [HLL.out]; exact hc7) (ref_sweep t l (by rw [HLL.out]; omega))
        rw [HLL.out] at hcs
        refine hcs.mono ?_
        clear hcs
        rintro e w7 ⟨v0, v1', rfl, hs7, hg7, hb7⟩
        obtain ⟨Bs, ds, rfl, hcs7, hCs7⟩ := R_C hs7
        obtain ⟨Bg, dg, rfl, hcg7, hCg7⟩ := R_C hg7
        have HC7 := Lib.hid (Kd.C_below HC6.out hb7)
        have HB7 := Lib.hid (below_then HB6.out HB6.out.size hb7)
        have HS6' := Lib.hid (Kd.C_below HS6.out hb7)
        have HG6' := Lib.hid (Kd.C_below HG6.out hb7)
        have HS7 := Lib.hid hCs7
        have HG7 := Lib.hid hCg7
        clear hs7 hg7 hb7 hCs7 hCg7 HC6 HB6 HS6 HG6
        rw [HNS.out] at hcs7 ⊢
        rw [HNG.out] at hcg7 ⊢
        go_wp2_with fail
        have hcs := foyerlaw26_recs.calls 60 As cs (stayL l t) Bs ds (stayL l t) true w7 HS6'.out (by rw [HNS.out]; exact hcs6) HS7.out (by rw [HNS.out]; exact hcs7) (recs_same _ (by rw [HNS.out]; exact hsl))
        rw [HNS.out] at hcs
        refine hcs.mono ?_
        clear hcs
        rintro e w8 ⟨rfl, hd8⟩
        have HC8 := Lib.hid (Kd.C_below HC7.out hd8.below)
        have HB8 := Lib.hid (below_then HB7.out HB7.out.size hd8.below)
        have HG8 := Lib.hid (Kd.C_below HG6'.out hd8.below)
        have HG8' := Lib.hid (Kd.C_below HG7.out hd8.below)
        clear hd8 HC7 HB7 HS6' HG6' HS7 HG7
        go_wp2_with fail
        have hcs := foyerlaw26_recs.calls 60 Ag cg (goneL l t) Bg dg (goneL l t) true w8 HG8.out (by rw [HNG.out]; exact hcg6) HG8'.out (by rw [HNG.out]; exact hcg7) (recs_same _ (by rw [HNG.out]; exact hgl))
        rw [HNG.out] at hcs
        refine hcs.mono ?_
        clear hcs
        rintro e w9 ⟨rfl, hd9⟩
        have HC9 := Lib.hid (Kd.C_below HC8.out hd9.below)
        have HB9 := Lib.hid (below_then HB8.out HB8.out.size hd9.below)
        clear hd9 HC8 HB8 HG8 HG8'
        go_wp2_with fail
        go_loopw [18] (fun v18 wi => ∃ i : Nat, v18 = .int .i64 i ∧ i ≤ m ∧ Hid (Kd.C k34 wi A7 m l) ∧ Hid (Below W.heap.size W wi)) (fun v _ => m - (intOf v).toNat)
        case atStart => exact ⟨0, rfl, by omega, HC9, HB9⟩
        case round =>
          clear HC9 HB9
          obtain ⟨i, rfl, hi, HCi, HBi⟩ := hrel
          by_cases hlt : i < m
          · have p0 : (0 : Int) ≤ (i : Int) := by omega
            have q0 : (i : Int) < (m : Int) := by omega
            have q2 : (i : Int) < (n : Int) := by omega
            obtain ⟨ad, ea, x0, x1, x2, x3, x4, x5, x6⟩ := at_T34 HCi.out (i : Int) p0 q0
            obtain ⟨ad2, eb, y0, y1, y2, y3, y4, y5, y6⟩ := at_T34 (Kd.C_below HR2.out HBi.out) (i : Int) p0 q2
            subst ea eb
            obtain ⟨x, hx⟩ : ∃ x, rd_T34 l (i : Int) = x := ⟨_, rfl⟩
            have hx2 : rd_T34 l2 (i : Int) = x := by
              rw [← hx, ← HL.out]
              simp [rd_T34, List.getD_eq_getElem?_getD, hlt]
            rw [hx] at x0 x1 x2 x3 x4 x5 x6
            rw [hx2] at y0 y1 y2 y3 y4 y5 y6
            simp only [Int.toNat_natCast] at x0 x1 x2 x3 x4 x5 x6 y0 y1 y2 y3 y4 y5 y6
            obtain ⟨g, hg⟩ : ∃ g, goneB t x = g := ⟨_, rfl⟩
            have G1 := Lib.hid (show lease_Gone.f x.f0 x.f1 x.f2 x.f3 x.f4 x.f5 x.f6 t = some g by rw [gone_eq, hg])
            have G2 := Lib.hid (show foyerref26_Gone.f x.f0 x.f1 x.f2 x.f3 x.f4 x.f5 x.f6 t = some g by rw [ref_gone_eq, hg])
            clear hx hx2 hg
            go_wp2_with fail
            have KB : ∀ w w', Below w.heap.size w w' → (fun W' => W'.cell? (ad.add (i * 7)) = some (.bool x.f0) ∧ W'.cell? ⟨(ad.add (i * 7)).block, (ad.add (i * 7)).off + 1, none⟩ = some (.int .u32 x.f1) ∧ W'.cell? ⟨(ad.add (i * 7)).block, (ad.add (i * 7)).off + 2, none⟩ = some (.string x.f2) ∧ W'.cell? ⟨(ad.add (i * 7)).block, (ad.add (i * 7)).off + 3, none⟩ = some (.int .i64 x.f3) ∧ W'.cell? ⟨(ad.add (i * 7)).block, (ad.add (i * 7)).off + 4, none⟩ = some (.int .i64 x.f4) ∧ W'.cell? ⟨(ad.add (i * 7)).block, (ad.add (i * 7)).off + 5, none⟩ = some (.int .i64 x.f5) ∧ W'.cell? ⟨(ad.add (i * 7)).block, (ad.add (i * 7)).off + 6, none⟩ = some (.int .u64 x.f6) ∧ W'.cell? (ad2.add (i * 7)) = some (.bool x.f0) ∧ W'.cell? ⟨(ad2.add (i * 7)).block, (ad2.add (i * 7)).off + 1, none⟩ = some (.int .u32 x.f1) ∧ W'.cell? ⟨(ad2.add (i * 7)).block, (ad2.add (i * 7)).off + 2, none⟩ = some (.string x.f2) ∧ W'.cell? ⟨(ad2.add (i * 7)).block, (ad2.add (i * 7)).off + 3, none⟩ = some (.int .i64 x.f3) ∧ W'.cell? ⟨(ad2.add (i * 7)).block, (ad2.add (i * 7)).off + 4, none⟩ = some (.int .i64 x.f4) ∧ W'.cell? ⟨(ad2.add (i * 7)).block, (ad2.add (i * 7)).off + 5, none⟩ = some (.int .i64 x.f5) ∧ W'.cell? ⟨(ad2.add (i * 7)).block, (ad2.add (i * 7)).off + 6, none⟩ = some (.int .u64 x.f6) ∧ Hid (Below wr.heap.size wr W')) w → (fun W' => W'.cell? (ad.add (i * 7)) = some (.bool x.f0) ∧ W'.cell? ⟨(ad.add (i * 7)).block, (ad.add (i * 7)).off + 1, none⟩ = some (.int .u32 x.f1) ∧ W'.cell? ⟨(ad.add (i * 7)).block, (ad.add (i * 7)).off + 2, none⟩ = some (.string x.f2) ∧ W'.cell? ⟨(ad.add (i * 7)).block, (ad.add (i * 7)).off + 3, none⟩ = some (.int .i64 x.f3) ∧ W'.cell? ⟨(ad.add (i * 7)).block, (ad.add (i * 7)).off + 4, none⟩ = some (.int .i64 x.f4) ∧ W'.cell? ⟨(ad.add (i * 7)).block, (ad.add (i * 7)).off + 5, none⟩ = some (.int .i64 x.f5) ∧ W'.cell? ⟨(ad.add (i * 7)).block, (ad.add (i * 7)).off + 6, none⟩ = some (.int .u64 x.f6) ∧ W'.cell? (ad2.add (i * 7)) = some (.bool x.f0) ∧ W'.cell? ⟨(ad2.add (i * 7)).block, (ad2.add (i * 7)).off + 1, none⟩ = some (.int .u32 x.f1) ∧ W'.cell? ⟨(ad2.add (i * 7)).block, (ad2.add (i * 7)).off + 2, none⟩ = some (.string x.f2) ∧ W'.cell? ⟨(ad2.add (i * 7)).block, (ad2.add (i * 7)).off + 3, none⟩ = some (.int .i64 x.f3) ∧ W'.cell? ⟨(ad2.add (i * 7)).block, (ad2.add (i * 7)).off + 4, none⟩ = some (.int .i64 x.f4) ∧ W'.cell? ⟨(ad2.add (i * 7)).block, (ad2.add (i * 7)).off + 5, none⟩ = some (.int .i64 x.f5) ∧ W'.cell? ⟨(ad2.add (i * 7)).block, (ad2.add (i * 7)).off + 6, none⟩ = some (.int .u64 x.f6) ∧ Hid (Below wr.heap.size wr W')) w' := by
              rintro w w' hb ⟨a1, a2, a3, a4, a5, a6, a7, c1, c2, c3, c4, c5, c6, c7, d⟩
              exact ⟨pw_cell_below hb a1, pw_cell_below hb a2, pw_cell_below hb a3, pw_cell_below hb a4, pw_cell_below hb a5, pw_cell_below hb a6, pw_cell_below hb a7, pw_cell_below hb c1, pw_cell_below hb c2, pw_cell_below hb c3, pw_cell_below hb c4, pw_cell_below hb c5, pw_cell_below hb c6, pw_cell_below hb c7, Lib.hid (below_then d.out d.out.size hb)⟩
            have SH := KB wr wr.drew (Below.drew (Below.refl _ _)) ⟨x0, x1, x2, x3, x4, x5, x6, y0, y1, y2, y3, y4, y5, y6, Lib.hid (Below.refl _ _)⟩
            have FIN : ∀ w, (fun W' => W'.cell? (ad.add (i * 7)) = some (.bool x.f0) ∧ W'.cell? ⟨(ad.add (i * 7)).block, (ad.add (i * 7)).off + 1, none⟩ = some (.int .u32 x.f1) ∧ W'.cell? ⟨(ad.add (i * 7)).block, (ad.add (i * 7)).off + 2, none⟩ = some (.string x.f2) ∧ W'.cell? ⟨(ad.add (i * 7)).block, (ad.add (i * 7)).off + 3, none⟩ = some (.int .i64 x.f3) ∧ W'.cell? ⟨(ad.add (i * 7)).block, (ad.add (i * 7)).off + 4, none⟩ = some (.int .i64 x.f4) ∧ W'.cell? ⟨(ad.add (i * 7)).block, (ad.add (i * 7)).off + 5, none⟩ = some (.int .i64 x.f5) ∧ W'.cell? ⟨(ad.add (i * 7)).block, (ad.add (i * 7)).off + 6, none⟩ = some (.int .u64 x.f6) ∧ W'.cell? (ad2.add (i * 7)) = some (.bool x.f0) ∧ W'.cell? ⟨(ad2.add (i * 7)).block, (ad2.add (i * 7)).off + 1, none⟩ = some (.int .u32 x.f1) ∧ W'.cell? ⟨(ad2.add (i * 7)).block, (ad2.add (i * 7)).off + 2, none⟩ = some (.string x.f2) ∧ W'.cell? ⟨(ad2.add (i * 7)).block, (ad2.add (i * 7)).off + 3, none⟩ = some (.int .i64 x.f3) ∧ W'.cell? ⟨(ad2.add (i * 7)).block, (ad2.add (i * 7)).off + 4, none⟩ = some (.int .i64 x.f4) ∧ W'.cell? ⟨(ad2.add (i * 7)).block, (ad2.add (i * 7)).off + 5, none⟩ = some (.int .i64 x.f5) ∧ W'.cell? ⟨(ad2.add (i * 7)).block, (ad2.add (i * 7)).off + 6, none⟩ = some (.int .u64 x.f6) ∧ Hid (Below wr.heap.size wr W')) w → Below wr.heap.size wr w := fun w h => h.2.2.2.2.2.2.2.2.2.2.2.2.2.2.out
            dsimp only at SH KB FIN
            replace KB := Lib.hid KB
            replace FIN := Lib.hid FIN
            clear x0 x1 x2 x3 x4 x5 x6 y0 y1 y2 y3 y4 y5 y6
            go_region_held3 (fun W' => W'.cell? (ad.add (i * 7)) = some (.bool x.f0) ∧ W'.cell? ⟨(ad.add (i * 7)).block, (ad.add (i * 7)).off + 1, none⟩ = some (.int .u32 x.f1) ∧ W'.cell? ⟨(ad.add (i * 7)).block, (ad.add (i * 7)).off + 2, none⟩ = some (.string x.f2) ∧ W'.cell? ⟨(ad.add (i * 7)).block, (ad.add (i * 7)).off + 3, none⟩ = some (.int .i64 x.f3) ∧ W'.cell? ⟨(ad.add (i * 7)).block, (ad.add (i * 7)).off + 4, none⟩ = some (.int .i64 x.f4) ∧ W'.cell? ⟨(ad.add (i * 7)).block, (ad.add (i * 7)).off + 5, none⟩ = some (.int .i64 x.f5) ∧ W'.cell? ⟨(ad.add (i * 7)).block, (ad.add (i * 7)).off + 6, none⟩ = some (.int .u64 x.f6) ∧ W'.cell? (ad2.add (i * 7)) = some (.bool x.f0) ∧ W'.cell? ⟨(ad2.add (i * 7)).block, (ad2.add (i * 7)).off + 1, none⟩ = some (.int .u32 x.f1) ∧ W'.cell? ⟨(ad2.add (i * 7)).block, (ad2.add (i * 7)).off + 2, none⟩ = some (.string x.f2) ∧ W'.cell? ⟨(ad2.add (i * 7)).block, (ad2.add (i * 7)).off + 3, none⟩ = some (.int .i64 x.f3) ∧ W'.cell? ⟨(ad2.add (i * 7)).block, (ad2.add (i * 7)).off + 4, none⟩ = some (.int .i64 x.f4) ∧ W'.cell? ⟨(ad2.add (i * 7)).block, (ad2.add (i * 7)).off + 5, none⟩ = some (.int .i64 x.f5) ∧ W'.cell? ⟨(ad2.add (i * 7)).block, (ad2.add (i * 7)).off + 6, none⟩ = some (.int .u64 x.f6) ∧ Hid (Below wr.heap.size wr W')) (first | assumption | exact KB.out _ _ (by assumption) (by assumption))
              (first
                | (go_at_call 13; refine (lease_Gone.calls x.f0 x.f1 x.f2 x.f3 x.f4 x.f5 x.f6 t g _ G1.out).mono ?_; rintro e w' ⟨rfl, hd⟩)
                | (go_at_call 14; refine (foyerref26_Gone.calls x.f0 x.f1 x.f2 x.f3 x.f4 x.f5 x.f6 t g _ G2.out).mono ?_; rintro e w' ⟨rfl, hd⟩))
            have HF := Lib.hid (FIN.out _ (by assumption))
            have HCf := Lib.hid (Kd.C_below HCi.out HF.out)
            have HBf := Lib.hid (below_then HBi.out HBi.out.size HF.out)
            clear SH
            go_wp2_with fail
            go_roundw
            case rel => exact ⟨i + 1, by simp, by omega, HCf, HBf⟩
            case measure => simp [intOf]; omega
          · obtain rfl : i = m := by omega
            have et := HTT.out
            clear HTT
            subst et
            go_wp2_with fail
            go_roundw
            case rel => exact ⟨1, by simp, by omega, HCi, HBi⟩
            case measure => simp [intOf]
      · obtain ⟨t, htt⟩ : ∃ t, (a1 % 10002) = t := ⟨_, rfl⟩
        have ht : 0 ≤ t := by omega
        go_wp2_with fail
        rw [idx1]
        rw [htt]
        have HTT := Lib.hid htt
        clear htt
        go_wp2_with fail
        obtain ⟨r1, r2, hT⟩ := till_some a0 t
        have HT := Lib.hid hT
        clear hT
        refine (lease_Till.calls a0 t r1 r2 _ HT.out).mono ?_
        rintro e w4 ⟨rfl, hd4⟩
        have HC4 := Lib.hid (Kd.C_below HC.out hd4.below)
        have HB4 := Lib.hid (below_then HB.out HB.out.size hd4.below)
        clear hd4
        go_wp2_with fail
        refine (foyerref26_Till.calls a0 t r1 r2 _ (by rw [till_same _ _ ht]; exact HT.out)).mono ?_
        rintro e w5 ⟨rfl, hd5⟩
        have HC5 := Lib.hid (Kd.C_below HC4.out hd5.below)
        have HB5 := Lib.hid (below_then HB4.out HB4.out.size hd5.below)
        clear hd5 HC4 HB4 HT
        go_wp2_with fail
        have hcs := lease_Sweep.calls A7 c7 l t (stayL l t) (goneL l t) w5 (by rw [HLL.out]; exact HC5.out) (by rw [HLL.out]; exact hc7) (by rw [lease_Sweep.f, if_pos (by rw [HLL.out]; omega)])
        rw [HLL.out] at hcs
        refine hcs.mono ?_
        clear hcs
        rintro e w6 ⟨v0, v1', rfl, hs6, hg6, hb6⟩
        obtain ⟨As, cs, rfl, hcs6, hCs6⟩ := R_C hs6
        obtain ⟨Ag, cg, rfl, hcg6, hCg6⟩ := R_C hg6
        have HC6 := Lib.hid (Kd.C_below HC5.out hb6)
        have HB6 := Lib.hid (below_then HB5.out HB5.out.size hb6)
        have HS6 := Lib.hid hCs6
        have HG6 := Lib.hid hCg6
        clear hs6 hg6 hb6 hCs6 hCg6 HC5 HB5
        have hsl : (stayL l t).length ≤ 40 := Nat.le_trans (List.length_filter_le _ _) (by rw [HLL.out]; omega)
        have hgl : (goneL l t).length ≤ 40 := Nat.le_trans (List.length_filter_le _ _) (by rw [HLL.out]; omega)
        obtain ⟨ns, hns⟩ : ∃ ns, (stayL l t).length = ns := ⟨_, rfl⟩
        obtain ⟨ng, hng⟩ : ∃ ng, (goneL l t).length = ng := ⟨_, rfl⟩
        have HNS := Lib.hid hns
        have HNG := Lib.hid hng
        rw [hns] at hcs6 hsl ⊢
        rw [hng] at hcg6 hgl ⊢
        clear hns hng
        go_wp2_with fail
        have hcs := foyerref26_Sweep.calls 60 A7 c7 l t (stayL l t) (goneL l t) w6 (by rw [HLL.out]; exact HC6.out) (by rw [HLL.out]; exact hc7) (ref_sweep t l (by rw [HLL.out]; omega))
        rw [HLL.out] at hcs
        refine hcs.mono ?_
        clear hcs
        rintro e w7 ⟨v0, v1', rfl, hs7, hg7, hb7⟩
        obtain ⟨Bs, ds, rfl, hcs7, hCs7⟩ := R_C hs7
        obtain ⟨Bg, dg, rfl, hcg7, hCg7⟩ := R_C hg7
        have HC7 := Lib.hid (Kd.C_below HC6.out hb7)
        have HB7 := Lib.hid (below_then HB6.out HB6.out.size hb7)
        have HS6' := Lib.hid (Kd.C_below HS6.out hb7)
        have HG6' := Lib.hid (Kd.C_below HG6.out hb7)
        have HS7 := Lib.hid hCs7
        have HG7 := Lib.hid hCg7
        clear hs7 hg7 hb7 hCs7 hCg7 HC6 HB6 HS6 HG6
        rw [HNS.out] at hcs7 ⊢
        rw [HNG.out] at hcg7 ⊢
        go_wp2_with fail
        have hcs := foyerlaw26_recs.calls 60 As cs (stayL l t) Bs ds (stayL l t) true w7 HS6'.out (by rw [HNS.out]; exact hcs6) HS7.out (by rw [HNS.out]; exact hcs7) (recs_same _ (by rw [HNS.out]; exact hsl))
        rw [HNS.out] at hcs
        refine hcs.mono ?_
        clear hcs
        rintro e w8 ⟨rfl, hd8⟩
        have HC8 := Lib.hid (Kd.C_below HC7.out hd8.below)
        have HB8 := Lib.hid (below_then HB7.out HB7.out.size hd8.below)
        have HG8 := Lib.hid (Kd.C_below HG6'.out hd8.below)
        have HG8' := Lib.hid (Kd.C_below HG7.out hd8.below)
        clear hd8 HC7 HB7 HS6' HG6' HS7 HG7
        go_wp2_with fail
        have hcs := foyerlaw26_recs.calls 60 Ag cg (goneL l t) Bg dg (goneL l t) true w8 HG8.out (by rw [HNG.out]; exact hcg6) HG8'.out (by rw [HNG.out]; exact hcg7) (recs_same _ (by rw [HNG.out]; exact hgl))
        rw [HNG.out] at hcs
        refine hcs.mono ?_
        clear hcs
        rintro e w9 ⟨rfl, hd9⟩
        have HC9 := Lib.hid (Kd.C_below HC8.out hd9.below)
        have HB9 := Lib.hid (below_then HB8.out HB8.out.size hd9.below)
        clear hd9 HC8 HB8 HG8 HG8'
        go_wp2_with fail
        go_loopw [18] (fun v18 wi => ∃ i : Nat, v18 = .int .i64 i ∧ i ≤ m ∧ Hid (Kd.C k34 wi A7 m l) ∧ Hid (Below W.heap.size W wi)) (fun v _ => m - (intOf v).toNat)
        case atStart => exact ⟨0, rfl, by omega, HC9, HB9⟩
        case round =>
          clear HC9 HB9
          obtain ⟨i, rfl, hi, HCi, HBi⟩ := hrel
          by_cases hlt : i < m
          · have p0 : (0 : Int) ≤ (i : Int) := by omega
            have q0 : (i : Int) < (m : Int) := by omega
            have q2 : (i : Int) < (n : Int) := by omega
            obtain ⟨ad, ea, x0, x1, x2, x3, x4, x5, x6⟩ := at_T34 HCi.out (i : Int) p0 q0
            obtain ⟨ad2, eb, y0, y1, y2, y3, y4, y5, y6⟩ := at_T34 (Kd.C_below HR2.out HBi.out) (i : Int) p0 q2
            subst ea eb
            obtain ⟨x, hx⟩ : ∃ x, rd_T34 l (i : Int) = x := ⟨_, rfl⟩
            have hx2 : rd_T34 l2 (i : Int) = x := by
              rw [← hx, ← HL.out]
              simp [rd_T34, List.getD_eq_getElem?_getD, hlt]
            rw [hx] at x0 x1 x2 x3 x4 x5 x6
            rw [hx2] at y0 y1 y2 y3 y4 y5 y6
            simp only [Int.toNat_natCast] at x0 x1 x2 x3 x4 x5 x6 y0 y1 y2 y3 y4 y5 y6
            obtain ⟨g, hg⟩ : ∃ g, goneB t x = g := ⟨_, rfl⟩
            have G1 := Lib.hid (show lease_Gone.f x.f0 x.f1 x.f2 x.f3 x.f4 x.f5 x.f6 t = some g by rw [gone_eq, hg])
            have G2 := Lib.hid (show foyerref26_Gone.f x.f0 x.f1 x.f2 x.f3 x.f4 x.f5 x.f6 t = some g by rw [ref_gone_eq, hg])
            clear hx hx2 hg
            go_wp2_with fail
            have KB : ∀ w w', Below w.heap.size w w' → (fun W' => W'.cell? (ad.add (i * 7)) = some (.bool x.f0) ∧ W'.cell? ⟨(ad.add (i * 7)).block, (ad.add (i * 7)).off + 1, none⟩ = some (.int .u32 x.f1) ∧ W'.cell? ⟨(ad.add (i * 7)).block, (ad.add (i * 7)).off + 2, none⟩ = some (.string x.f2) ∧ W'.cell? ⟨(ad.add (i * 7)).block, (ad.add (i * 7)).off + 3, none⟩ = some (.int .i64 x.f3) ∧ W'.cell? ⟨(ad.add (i * 7)).block, (ad.add (i * 7)).off + 4, none⟩ = some (.int .i64 x.f4) ∧ W'.cell? ⟨(ad.add (i * 7)).block, (ad.add (i * 7)).off + 5, none⟩ = some (.int .i64 x.f5) ∧ W'.cell? ⟨(ad.add (i * 7)).block, (ad.add (i * 7)).off + 6, none⟩ = some (.int .u64 x.f6) ∧ W'.cell? (ad2.add (i * 7)) = some (.bool x.f0) ∧ W'.cell? ⟨(ad2.add (i * 7)).block, (ad2.add (i * 7)).off + 1, none⟩ = some (.int .u32 x.f1) ∧ W'.cell? ⟨(ad2.add (i * 7)).block, (ad2.add (i * 7)).off + 2, none⟩ = some (.string x.f2) ∧ W'.cell? ⟨(ad2.add (i * 7)).block, (ad2.add (i * 7)).off + 3, none⟩ = some (.int .i64 x.f3) ∧ W'.cell? ⟨(ad2.add (i * 7)).block, (ad2.add (i * 7)).off + 4, none⟩ = some (.int .i64 x.f4) ∧ W'.cell? ⟨(ad2.add (i * 7)).block, (ad2.add (i * 7)).off + 5, none⟩ = some (.int .i64 x.f5) ∧ W'.cell? ⟨(ad2.add (i * 7)).block, (ad2.add (i * 7)).off + 6, none⟩ = some (.int .u64 x.f6) ∧ Hid (Below wr.heap.size wr W')) w → (fun W' => W'.cell? (ad.add (i * 7)) = some (.bool x.f0) ∧ W'.cell? ⟨(ad.add (i * 7)).block, (ad.add (i * 7)).off + 1, none⟩ = some (.int .u32 x.f1) ∧ W'.cell? ⟨(ad.add (i * 7)).block, (ad.add (i * 7)).off + 2, none⟩ = some (.string x.f2) ∧ W'.cell? ⟨(ad.add (i * 7)).block, (ad.add (i * 7)).off + 3, none⟩ = some (.int .i64 x.f3) ∧ W'.cell? ⟨(ad.add (i * 7)).block, (ad.add (i * 7)).off + 4, none⟩ = some (.int .i64 x.f4) ∧ W'.cell? ⟨(ad.add (i * 7)).block, (ad.add (i * 7)).off + 5, none⟩ = some (.int .i64 x.f5) ∧ W'.cell? ⟨(ad.add (i * 7)).block, (ad.add (i * 7)).off + 6, none⟩ = some (.int .u64 x.f6) ∧ W'.cell? (ad2.add (i * 7)) = some (.bool x.f0) ∧ W'.cell? ⟨(ad2.add (i * 7)).block, (ad2.add (i * 7)).off + 1, none⟩ = some (.int .u32 x.f1) ∧ W'.cell? ⟨(ad2.add (i * 7)).block, (ad2.add (i * 7)).off + 2, none⟩ = some (.string x.f2) ∧ W'.cell? ⟨(ad2.add (i * 7)).block, (ad2.add (i * 7)).off + 3, none⟩ = some (.int .i64 x.f3) ∧ W'.cell? ⟨(ad2.add (i * 7)).block, (ad2.add (i * 7)).off + 4, none⟩ = some (.int .i64 x.f4) ∧ W'.cell? ⟨(ad2.add (i * 7)).block, (ad2.add (i * 7)).off + 5, none⟩ = some (.int .i64 x.f5) ∧ W'.cell? ⟨(ad2.add (i * 7)).block, (ad2.add (i * 7)).off + 6, none⟩ = some (.int .u64 x.f6) ∧ Hid (Below wr.heap.size wr W')) w' := by
              rintro w w' hb ⟨a1, a2, a3, a4, a5, a6, a7, c1, c2, c3, c4, c5, c6, c7, d⟩
              exact ⟨pw_cell_below hb a1, pw_cell_below hb a2, pw_cell_below hb a3, pw_cell_below hb a4, pw_cell_below hb a5, pw_cell_below hb a6, pw_cell_below hb a7, pw_cell_below hb c1, pw_cell_below hb c2, pw_cell_below hb c3, pw_cell_below hb c4, pw_cell_below hb c5, pw_cell_below hb c6, pw_cell_below hb c7, Lib.hid (below_then d.out d.out.size hb)⟩
            have SH := KB wr wr.drew (Below.drew (Below.refl _ _)) ⟨x0, x1, x2, x3, x4, x5, x6, y0, y1, y2, y3, y4, y5, y6, Lib.hid (Below.refl _ _)⟩
            have FIN : ∀ w, (fun W' => W'.cell? (ad.add (i * 7)) = some (.bool x.f0) ∧ W'.cell? ⟨(ad.add (i * 7)).block, (ad.add (i * 7)).off + 1, none⟩ = some (.int .u32 x.f1) ∧ W'.cell? ⟨(ad.add (i * 7)).block, (ad.add (i * 7)).off + 2, none⟩ = some (.string x.f2) ∧ W'.cell? ⟨(ad.add (i * 7)).block, (ad.add (i * 7)).off + 3, none⟩ = some (.int .i64 x.f3) ∧ W'.cell? ⟨(ad.add (i * 7)).block, (ad.add (i * 7)).off + 4, none⟩ = some (.int .i64 x.f4) ∧ W'.cell? ⟨(ad.add (i * 7)).block, (ad.add (i * 7)).off + 5, none⟩ = some (.int .i64 x.f5) ∧ W'.cell? ⟨(ad.add (i * 7)).block, (ad.add (i * 7)).off + 6, none⟩ = some (.int .u64 x.f6) ∧ W'.cell? (ad2.add (i * 7)) = some (.bool x.f0) ∧ W'.cell? ⟨(ad2.add (i * 7)).block, (ad2.add (i * 7)).off + 1, none⟩ = some (.int .u32 x.f1) ∧ W'.cell? ⟨(ad2.add (i * 7)).block, (ad2.add (i * 7)).off + 2, none⟩ = some (.string x.f2) ∧ W'.cell? ⟨(ad2.add (i * 7)).block, (ad2.add (i * 7)).off + 3, none⟩ = some (.int .i64 x.f3) ∧ W'.cell? ⟨(ad2.add (i * 7)).block, (ad2.add (i * 7)).off + 4, none⟩ = some (.int .i64 x.f4) ∧ W'.cell? ⟨(ad2.add (i * 7)).block, (ad2.add (i * 7)).off + 5, none⟩ = some (.int .i64 x.f5) ∧ W'.cell? ⟨(ad2.add (i * 7)).block, (ad2.add (i * 7)).off + 6, none⟩ = some (.int .u64 x.f6) ∧ Hid (Below wr.heap.size wr W')) w → Below wr.heap.size wr w := fun w h => h.2.2.2.2.2.2.2.2.2.2.2.2.2.2.out
            dsimp only at SH KB FIN
            replace KB := Lib.hid KB
            replace FIN := Lib.hid FIN
            clear x0 x1 x2 x3 x4 x5 x6 y0 y1 y2 y3 y4 y5 y6
            go_region_held3 (fun W' => W'.cell? (ad.add (i * 7)) = some (.bool x.f0) ∧ W'.cell? ⟨(ad.add (i * 7)).block, (ad.add (i * 7)).off + 1, none⟩ = some (.int .u32 x.f1) ∧ W'.cell? ⟨(ad.add (i * 7)).block, (ad.add (i * 7)).off + 2, none⟩ = some (.string x.f2) ∧ W'.cell? ⟨(ad.add (i * 7)).block, (ad.add (i * 7)).off + 3, none⟩ = some (.int .i64 x.f3) ∧ W'.cell? ⟨(ad.add (i * 7)).block, (ad.add (i * 7)).off + 4, none⟩ = some (.int .i64 x.f4) ∧ W'.cell? ⟨(ad.add (i * 7)).block, (ad.add (i * 7)).off + 5, none⟩ = some (.int .i64 x.f5) ∧ W'.cell? ⟨(ad.add (i * 7)).block, (ad.add (i * 7)).off + 6, none⟩ = some (.int .u64 x.f6) ∧ W'.cell? (ad2.add (i * 7)) = some (.bool x.f0) ∧ W'.cell? ⟨(ad2.add (i * 7)).block, (ad2.add (i * 7)).off + 1, none⟩ = some (.int .u32 x.f1) ∧ W'.cell? ⟨(ad2.add (i * 7)).block, (ad2.add (i * 7)).off + 2, none⟩ = some (.string x.f2) ∧ W'.cell? ⟨(ad2.add (i * 7)).block, (ad2.add (i * 7)).off + 3, none⟩ = some (.int .i64 x.f3) ∧ W'.cell? ⟨(ad2.add (i * 7)).block, (ad2.add (i * 7)).off + 4, none⟩ = some (.int .i64 x.f4) ∧ W'.cell? ⟨(ad2.add (i * 7)).block, (ad2.add (i * 7)).off + 5, none⟩ = some (.int .i64 x.f5) ∧ W'.cell? ⟨(ad2.add (i * 7)).block, (ad2.add (i * 7)).off + 6, none⟩ = some (.int .u64 x.f6) ∧ Hid (Below wr.heap.size wr W')) (first | assumption | exact KB.out _ _ (by assumption) (by assumption))
              (first
                | (go_at_call 13; refine (lease_Gone.calls x.f0 x.f1 x.f2 x.f3 x.f4 x.f5 x.f6 t g _ G1.out).mono ?_; rintro e w' ⟨rfl, hd⟩)
                | (go_at_call 14; refine (foyerref26_Gone.calls x.f0 x.f1 x.f2 x.f3 x.f4 x.f5 x.f6 t g _ G2.out).mono ?_; rintro e w' ⟨rfl, hd⟩))
            have HF := Lib.hid (FIN.out _ (by assumption))
            have HCf := Lib.hid (Kd.C_below HCi.out HF.out)
            have HBf := Lib.hid (below_then HBi.out HBi.out.size HF.out)
            clear SH
            go_wp2_with fail
            go_roundw
            case rel => exact ⟨i + 1, by simp, by omega, HCf, HBf⟩
            case measure => simp [intOf]; omega
          · obtain rfl : i = m := by omega
            have et := HTT.out
            clear HTT
            subst et
            go_wp2_with fail
            go_roundw
            case rel => exact ⟨2, by simp, by omega, HCi, HBi⟩
            case measure => simp [intOf]
      · obtain ⟨t, htt⟩ : ∃ t, (a0 % 7) = t := ⟨_, rfl⟩
        have ht : 0 ≤ t := by omega
        go_wp2_with fail
        rw [idx2]
        rw [htt]
        have HTT := Lib.hid htt
        clear htt
        go_wp2_with fail
        obtain ⟨r1, r2, hT⟩ := till_some a0 t
        have HT := Lib.hid hT
        clear hT
        refine (lease_Till.calls a0 t r1 r2 _ HT.out).mono ?_
        rintro e w4 ⟨rfl, hd4⟩
        have HC4 := Lib.hid (Kd.C_below HC.out hd4.below)
        have HB4 := Lib.hid (below_then HB.out HB.out.size hd4.below)
        clear hd4
        go_wp2_with fail
        refine (foyerref26_Till.calls a0 t r1 r2 _ (by rw [till_same _ _ ht]; exact HT.out)).mono ?_
        rintro e w5 ⟨rfl, hd5⟩
        have HC5 := Lib.hid (Kd.C_below HC4.out hd5.below)
        have HB5 := Lib.hid (below_then HB4.out HB4.out.size hd5.below)
        clear hd5 HC4 HB4 HT
        go_wp2_with fail
        have hcs := lease_Sweep.calls A7 c7 l t (stayL l t) (goneL l t) w5 (by rw [HLL.out]; exact HC5.out) (by rw [HLL.out]; exact hc7) (by rw [lease_Sweep.f, if_pos (by rw [HLL.out]; omega)])
        rw [HLL.out] at hcs
        refine hcs.mono ?_
        clear hcs
        rintro e w6 ⟨v0, v1', rfl, hs6, hg6, hb6⟩
        obtain ⟨As, cs, rfl, hcs6, hCs6⟩ := R_C hs6
        obtain ⟨Ag, cg, rfl, hcg6, hCg6⟩ := R_C hg6
        have HC6 := Lib.hid (Kd.C_below HC5.out hb6)
        have HB6 := Lib.hid (below_then HB5.out HB5.out.size hb6)
        have HS6 := Lib.hid hCs6
        have HG6 := Lib.hid hCg6
        clear hs6 hg6 hb6 hCs6 hCg6 HC5 HB5
        have hsl : (stayL l t).length ≤ 40 := Nat.le_trans (List.length_filter_le _ _) (by rw [HLL.out]; omega)
        have hgl : (goneL l t).length ≤ 40 := Nat.le_trans (List.length_filter_le _ _) (by rw [HLL.out]; omega)
        obtain ⟨ns, hns⟩ : ∃ ns, (stayL l t).length = ns := ⟨_, rfl⟩
        obtain ⟨ng, hng⟩ : ∃ ng, (goneL l t).length = ng := ⟨_, rfl⟩
        have HNS := Lib.hid hns
        have HNG := Lib.hid hng
        rw [hns] at hcs6 hsl ⊢
        rw [hng] at hcg6 hgl ⊢
        clear hns hng
        go_wp2_with fail
        have hcs := foyerref26_Sweep.calls 60 A7 c7 l t (stayL l t) (goneL l t) w6 (by rw [HLL.out]; exact HC6.out) (by rw [HLL.out]; exact hc7) (ref_sweep t l (by rw [HLL.out]; omega))
        rw [HLL.out] at hcs
        refine hcs.mono ?_
        clear hcs
        rintro e w7 ⟨v0, v1', rfl, hs7, hg7, hb7⟩
        obtain ⟨Bs, ds, rfl, hcs7, hCs7⟩ := R_C hs7
        obtain ⟨Bg, dg, rfl, hcg7, hCg7⟩ := R_C hg7
        have HC7 := Lib.hid (Kd.C_below HC6.out hb7)
        have HB7 := Lib.hid (below_then HB6.out HB6.out.size hb7)
        have HS6' := Lib.hid (Kd.C_below HS6.out hb7)
        have HG6' := Lib.hid (Kd.C_below HG6.out hb7)
        have HS7 := Lib.hid hCs7
        have HG7 := Lib.hid hCg7
        clear hs7 hg7 hb7 hCs7 hCg7 HC6 HB6 HS6 HG6
        rw [HNS.out] at hcs7 ⊢
        rw [HNG.out] at hcg7 ⊢
        go_wp2_with fail
        have hcs := foyerlaw26_recs.calls 60 As cs (stayL l t) Bs ds (stayL l t) true w7 HS6'.out (by rw [HNS.out]; exact hcs6) HS7.out (by rw [HNS.out]; exact hcs7) (recs_same _ (by rw [HNS.out]; exact hsl))
        rw [HNS.out] at hcs
        refine hcs.mono ?_
        clear hcs
        rintro e w8 ⟨rfl, hd8⟩
        have HC8 := Lib.hid (Kd.C_below HC7.out hd8.below)
        have HB8 := Lib.hid (below_then HB7.out HB7.out.size hd8.below)
        have HG8 := Lib.hid (Kd.C_below HG6'.out hd8.below)
        have HG8' := Lib.hid (Kd.C_below HG7.out hd8.below)
        clear hd8 HC7 HB7 HS6' HG6' HS7 HG7
        go_wp2_with fail
        have hcs := foyerlaw26_recs.calls 60 Ag cg (goneL l t) Bg dg (goneL l t) true w8 HG8.out (by rw [HNG.out]; exact hcg6) HG8'.out (by rw [HNG.out]; exact hcg7) (recs_same _ (by rw [HNG.out]; exact hgl))
        rw [HNG.out] at hcs
        refine hcs.mono ?_
        clear hcs
        rintro e w9 ⟨rfl, hd9⟩
        have HC9 := Lib.hid (Kd.C_below HC8.out hd9.below)
        have HB9 := Lib.hid (below_then HB8.out HB8.out.size hd9.below)
        clear hd9 HC8 HB8 HG8 HG8'
        go_wp2_with fail
        go_loopw [18] (fun v18 wi => ∃ i : Nat, v18 = .int .i64 i ∧ i ≤ m ∧ Hid (Kd.C k34 wi A7 m l) ∧ Hid (Below W.heap.size W wi)) (fun v _ => m - (intOf v).toNat)
        case atStart => exact ⟨0, rfl, by omega, HC9, HB9⟩
        case round =>
          clear HC9 HB9
          obtain ⟨i, rfl, hi, HCi, HBi⟩ := hrel
          by_cases hlt : i < m
          · have p0 : (0 : Int) ≤ (i : Int) := by omega
            have q0 : (i : Int) < (m : Int) := by omega
            have q2 : (i : Int) < (n : Int) := by omega
            obtain ⟨ad, ea, x0, x1, x2, x3, x4, x5, x6⟩ := at_T34 HCi.out (i : Int) p0 q0
            obtain ⟨ad2, eb, y0, y1, y2, y3, y4, y5, y6⟩ := at_T34 (Kd.C_below HR2.out HBi.out) (i : Int) p0 q2
            subst ea eb
            obtain ⟨x, hx⟩ : ∃ x, rd_T34 l (i : Int) = x := ⟨_, rfl⟩
            have hx2 : rd_T34 l2 (i : Int) = x := by
              rw [← hx, ← HL.out]
              simp [rd_T34, List.getD_eq_getElem?_getD, hlt]
            rw [hx] at x0 x1 x2 x3 x4 x5 x6
            rw [hx2] at y0 y1 y2 y3 y4 y5 y6
            simp only [Int.toNat_natCast] at x0 x1 x2 x3 x4 x5 x6 y0 y1 y2 y3 y4 y5 y6
            obtain ⟨g, hg⟩ : ∃ g, goneB t x = g := ⟨_, rfl⟩
            have G1 := Lib.hid (show lease_Gone.f x.f0 x.f1 x.f2 x.f3 x.f4 x.f5 x.f6 t = some g by rw [gone_eq, hg])
            have G2 := Lib.hid (show foyerref26_Gone.f x.f0 x.f1 x.f2 x.f3 x.f4 x.f5 x.f6 t = some g by rw [ref_gone_eq, hg])
            clear hx hx2 hg
            go_wp2_with fail
            have KB : ∀ w w', Below w.heap.size w w' → (fun W' => W'.cell? (ad.add (i * 7)) = some (.bool x.f0) ∧ W'.cell? ⟨(ad.add (i * 7)).block, (ad.add (i * 7)).off + 1, none⟩ = some (.int .u32 x.f1) ∧ W'.cell? ⟨(ad.add (i * 7)).block, (ad.add (i * 7)).off + 2, none⟩ = some (.string x.f2) ∧ W'.cell? ⟨(ad.add (i * 7)).block, (ad.add (i * 7)).off + 3, none⟩ = some (.int .i64 x.f3) ∧ W'.cell? ⟨(ad.add (i * 7)).block, (ad.add (i * 7)).off + 4, none⟩ = some (.int .i64 x.f4) ∧ W'.cell? ⟨(ad.add (i * 7)).block, (ad.add (i * 7)).off + 5, none⟩ = some (.int .i64 x.f5) ∧ W'.cell? ⟨(ad.add (i * 7)).block, (ad.add (i * 7)).off + 6, none⟩ = some (.int .u64 x.f6) ∧ W'.cell? (ad2.add (i * 7)) = some (.bool x.f0) ∧ W'.cell? ⟨(ad2.add (i * 7)).block, (ad2.add (i * 7)).off + 1, none⟩ = some (.int .u32 x.f1) ∧ W'.cell? ⟨(ad2.add (i * 7)).block, (ad2.add (i * 7)).off + 2, none⟩ = some (.string x.f2) ∧ W'.cell? ⟨(ad2.add (i * 7)).block, (ad2.add (i * 7)).off + 3, none⟩ = some (.int .i64 x.f3) ∧ W'.cell? ⟨(ad2.add (i * 7)).block, (ad2.add (i * 7)).off + 4, none⟩ = some (.int .i64 x.f4) ∧ W'.cell? ⟨(ad2.add (i * 7)).block, (ad2.add (i * 7)).off + 5, none⟩ = some (.int .i64 x.f5) ∧ W'.cell? ⟨(ad2.add (i * 7)).block, (ad2.add (i * 7)).off + 6, none⟩ = some (.int .u64 x.f6) ∧ Hid (Below wr.heap.size wr W')) w → (fun W' => W'.cell? (ad.add (i * 7)) = some (.bool x.f0) ∧ W'.cell? ⟨(ad.add (i * 7)).block, (ad.add (i * 7)).off + 1, none⟩ = some (.int .u32 x.f1) ∧ W'.cell? ⟨(ad.add (i * 7)).block, (ad.add (i * 7)).off + 2, none⟩ = some (.string x.f2) ∧ W'.cell? ⟨(ad.add (i * 7)).block, (ad.add (i * 7)).off + 3, none⟩ = some (.int .i64 x.f3) ∧ W'.cell? ⟨(ad.add (i * 7)).block, (ad.add (i * 7)).off + 4, none⟩ = some (.int .i64 x.f4) ∧ W'.cell? ⟨(ad.add (i * 7)).block, (ad.add (i * 7)).off + 5, none⟩ = some (.int .i64 x.f5) ∧ W'.cell? ⟨(ad.add (i * 7)).block, (ad.add (i * 7)).off + 6, none⟩ = some (.int .u64 x.f6) ∧ W'.cell? (ad2.add (i * 7)) = some (.bool x.f0) ∧ W'.cell? ⟨(ad2.add (i * 7)).block, (ad2.add (i * 7)).off + 1, none⟩ = some (.int .u32 x.f1) ∧ W'.cell? ⟨(ad2.add (i * 7)).block, (ad2.add (i * 7)).off + 2, none⟩ = some (.string x.f2) ∧ W'.cell? ⟨(ad2.add (i * 7)).block, (ad2.add (i * 7)).off + 3, none⟩ = some (.int .i64 x.f3) ∧ W'.cell? ⟨(ad2.add (i * 7)).block, (ad2.add (i * 7)).off + 4, none⟩ = some (.int .i64 x.f4) ∧ W'.cell? ⟨(ad2.add (i * 7)).block, (ad2.add (i * 7)).off + 5, none⟩ = some (.int .i64 x.f5) ∧ W'.cell? ⟨(ad2.add (i * 7)).block, (ad2.add (i * 7)).off + 6, none⟩ = some (.int .u64 x.f6) ∧ Hid (Below wr.heap.size wr W')) w' := by
              rintro w w' hb ⟨a1, a2, a3, a4, a5, a6, a7, c1, c2, c3, c4, c5, c6, c7, d⟩
              exact ⟨pw_cell_below hb a1, pw_cell_below hb a2, pw_cell_below hb a3, pw_cell_below hb a4, pw_cell_below hb a5, pw_cell_below hb a6, pw_cell_below hb a7, pw_cell_below hb c1, pw_cell_below hb c2, pw_cell_below hb c3, pw_cell_below hb c4, pw_cell_below hb c5, pw_cell_below hb c6, pw_cell_below hb c7, Lib.hid (below_then d.out d.out.size hb)⟩
            have SH := KB wr wr.drew (Below.drew (Below.refl _ _)) ⟨x0, x1, x2, x3, x4, x5, x6, y0, y1, y2, y3, y4, y5, y6, Lib.hid (Below.refl _ _)⟩
            have FIN : ∀ w, (fun W' => W'.cell? (ad.add (i * 7)) = some (.bool x.f0) ∧ W'.cell? ⟨(ad.add (i * 7)).block, (ad.add (i * 7)).off + 1, none⟩ = some (.int .u32 x.f1) ∧ W'.cell? ⟨(ad.add (i * 7)).block, (ad.add (i * 7)).off + 2, none⟩ = some (.string x.f2) ∧ W'.cell? ⟨(ad.add (i * 7)).block, (ad.add (i * 7)).off + 3, none⟩ = some (.int .i64 x.f3) ∧ W'.cell? ⟨(ad.add (i * 7)).block, (ad.add (i * 7)).off + 4, none⟩ = some (.int .i64 x.f4) ∧ W'.cell? ⟨(ad.add (i * 7)).block, (ad.add (i * 7)).off + 5, none⟩ = some (.int .i64 x.f5) ∧ W'.cell? ⟨(ad.add (i * 7)).block, (ad.add (i * 7)).off + 6, none⟩ = some (.int .u64 x.f6) ∧ W'.cell? (ad2.add (i * 7)) = some (.bool x.f0) ∧ W'.cell? ⟨(ad2.add (i * 7)).block, (ad2.add (i * 7)).off + 1, none⟩ = some (.int .u32 x.f1) ∧ W'.cell? ⟨(ad2.add (i * 7)).block, (ad2.add (i * 7)).off + 2, none⟩ = some (.string x.f2) ∧ W'.cell? ⟨(ad2.add (i * 7)).block, (ad2.add (i * 7)).off + 3, none⟩ = some (.int .i64 x.f3) ∧ W'.cell? ⟨(ad2.add (i * 7)).block, (ad2.add (i * 7)).off + 4, none⟩ = some (.int .i64 x.f4) ∧ W'.cell? ⟨(ad2.add (i * 7)).block, (ad2.add (i * 7)).off + 5, none⟩ = some (.int .i64 x.f5) ∧ W'.cell? ⟨(ad2.add (i * 7)).block, (ad2.add (i * 7)).off + 6, none⟩ = some (.int .u64 x.f6) ∧ Hid (Below wr.heap.size wr W')) w → Below wr.heap.size wr w := fun w h => h.2.2.2.2.2.2.2.2.2.2.2.2.2.2.out
            dsimp only at SH KB FIN
            replace KB := Lib.hid KB
            replace FIN := Lib.hid FIN
            clear x0 x1 x2 x3 x4 x5 x6 y0 y1 y2 y3 y4 y5 y6
            go_region_held3 (fun W' => W'.cell? (ad.add (i * 7)) = some (.bool x.f0) ∧ W'.cell? ⟨(ad.add (i * 7)).block, (ad.add (i * 7)).off + 1, none⟩ = some (.int .u32 x.f1) ∧ W'.cell? ⟨(ad.add (i * 7)).block, (ad.add (i * 7)).off + 2, none⟩ = some (.string x.f2) ∧ W'.cell? ⟨(ad.add (i * 7)).block, (ad.add (i * 7)).off + 3, none⟩ = some (.int .i64 x.f3) ∧ W'.cell? ⟨(ad.add (i * 7)).block, (ad.add (i * 7)).off + 4, none⟩ = some (.int .i64 x.f4) ∧ W'.cell? ⟨(ad.add (i * 7)).block, (ad.add (i * 7)).off + 5, none⟩ = some (.int .i64 x.f5) ∧ W'.cell? ⟨(ad.add (i * 7)).block, (ad.add (i * 7)).off + 6, none⟩ = some (.int .u64 x.f6) ∧ W'.cell? (ad2.add (i * 7)) = some (.bool x.f0) ∧ W'.cell? ⟨(ad2.add (i * 7)).block, (ad2.add (i * 7)).off + 1, none⟩ = some (.int .u32 x.f1) ∧ W'.cell? ⟨(ad2.add (i * 7)).block, (ad2.add (i * 7)).off + 2, none⟩ = some (.string x.f2) ∧ W'.cell? ⟨(ad2.add (i * 7)).block, (ad2.add (i * 7)).off + 3, none⟩ = some (.int .i64 x.f3) ∧ W'.cell? ⟨(ad2.add (i * 7)).block, (ad2.add (i * 7)).off + 4, none⟩ = some (.int .i64 x.f4) ∧ W'.cell? ⟨(ad2.add (i * 7)).block, (ad2.add (i * 7)).off + 5, none⟩ = some (.int .i64 x.f5) ∧ W'.cell? ⟨(ad2.add (i * 7)).block, (ad2.add (i * 7)).off + 6, none⟩ = some (.int .u64 x.f6) ∧ Hid (Below wr.heap.size wr W')) (first | assumption | exact KB.out _ _ (by assumption) (by assumption))
              (first
                | (go_at_call 13; refine (lease_Gone.calls x.f0 x.f1 x.f2 x.f3 x.f4 x.f5 x.f6 t g _ G1.out).mono ?_; rintro e w' ⟨rfl, hd⟩)
                | (go_at_call 14; refine (foyerref26_Gone.calls x.f0 x.f1 x.f2 x.f3 x.f4 x.f5 x.f6 t g _ G2.out).mono ?_; rintro e w' ⟨rfl, hd⟩))
            have HF := Lib.hid (FIN.out _ (by assumption))
            have HCf := Lib.hid (Kd.C_below HCi.out HF.out)
            have HBf := Lib.hid (below_then HBi.out HBi.out.size HF.out)
            clear SH
            go_wp2_with fail
            go_roundw
            case rel => exact ⟨i + 1, by simp, by omega, HCf, HBf⟩
            case measure => simp [intOf]; omega
          · obtain rfl : i = m := by omega
            have et := HTT.out
            clear HTT
            subst et
            go_wp2_with fail
            go_roundw
            case rel => exact ⟨3, by simp, by omega, HCi, HBi⟩
            case measure => simp [intOf]
    · obtain rfl : j = 3 := by omega
      go_wp2_with fail
      refine (works_calls).mono ?_
      rintro e w9 ⟨rfl, hb9⟩
      have HB9 := Lib.hid (below_then HB.out HB.out.size hb9)
      clear hb9
      go_wp2_with fail
      go_ret
      exact ⟨rfl, HB9.out⟩
end Go.Proofs.Ytfkbiecbnjddmaa
