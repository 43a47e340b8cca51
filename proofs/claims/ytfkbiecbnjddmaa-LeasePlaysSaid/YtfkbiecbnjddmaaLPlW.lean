/- LeasePlays: the walk. (Printed by gen_plw.py over the kit's regions.py.) -/
import Derived.Test.YtfkbiecbnjddmaaLPlP
namespace Go.Proofs.Ytfkbiecbnjddmaa
open Go.RowKit Go.MapKept Go.ChangeMaps Go.ChangeShapes Go.Proofs.YtfkbiecbnjddmaaW.PrintWords Go.Proofs.YtfkbiecbnjddmaaW.PrintLast Go.Proofs.YtfkbiecbnjddmaaW.PrintMore
set_option linter.unusedVariables false
set_option linter.unusedSimpArgs false
set_option maxHeartbeats 16000000
set_option maxRecDepth 100000
theorem plays_calls (A0 : Option Addr) (c0 : Nat) (l : List Ac) (W : World) (hr : ActsAt W A0 l) (hc : l.length ≤ c0) :
    Calls Try.prog 5 #[.slice A0 l.length c0] W fun e w' => e = .returned (.bool true) ∧ Below W.heap.size W w' := by
  obtain ⟨n, hn⟩ : ∃ n, l.length = n := ⟨_, rfl⟩
  rw [hn] at hc ⊢
  have HR := Lib.hid hr
  have HN := Lib.hid hn
  clear hr hn
  go_enter Try.func5, Try.ntmps5
  go_wp2_with fail
  refine new_calls.mono ?_
  rintro e w1 ⟨r, s, rfl, hr, hf, hrb, hb⟩
  have HR1 := Lib.hid hr
  have HF1 := Lib.hid hf
  have HB1 := Lib.hid hb
  clear hr hf hb
  go_wp2_with fail
  obtain ⟨w2, hw2⟩ : ∃ w2, w1.alloc (.cells #[.slice none 0 0] 45) = w2 := ⟨_, rfl⟩
  have hb2 : Below w1.heap.size w1 w2 := by rw [← hw2]; exact below_alloc (Below.refl _ _) _
  have H2 := Lib.hid (show PlAt W w2 r w1.heap.size s [] [] none 0 0 from ⟨HR1.out.below hb2, ⟨by rw [← hw2]; exact blk_new w1 _, Nat.le_refl _, by simp, .inl rfl⟩, HF1.out, HB1.out.size, below_then HB1.out HB1.out.size hb2, by simp, ⟨.refl _, .nil, by simp⟩⟩)
  rw [hw2]
  obtain ⟨Q, hQ⟩ : ∃ Q, w1.heap.size = Q := ⟨_, rfl⟩
  rw [hQ] at H2
  rw [hQ]
  clear hw2 hb2 hQ HR1 HF1 HB1
  go_loopw [5] (fun v5 wr => ∃ (i : Nat) (s : St) (xs L : List Lz) (A : Option Addr) (c : Nat), v5 = .int .i64 i ∧ i ≤ n ∧ i ≤ 120 ∧ Hid (PlAt W wr r Q s xs L A c i)) (fun v5 _ => n - (intOf v5).toNat)
  case atStart => exact ⟨0, s, [], [], none, 0, rfl, Nat.zero_le _, by omega, H2⟩
  case round =>
    clear H2
    obtain ⟨i, s, xs, L, A, c, rfl, hi, hi2, HO⟩ := hrel
    by_cases hlt : i < n ∧ i < 120
    · obtain ⟨x, hx⟩ : ∃ x, l[i]? = some x := ⟨_, List.getElem?_eq_getElem (by rw [HN.out]; exact hlt.1)⟩
      obtain ⟨hok, ad, ea, x0, x1, x2, x3⟩ := (HR.out.below HO.out.b) i x hx
      subst ea
      have p0 : (0 : Int) ≤ (i : Int) := by omega
      have q0 : (i : Int) < (n : Int) := by omega
      have q1 : (i : Int) < 120 := by omega
      have q2 : decide ((i : Int) < (n : Int)) = true := decide_eq_true q0
      have q3 : decide ((i : Int) < 120) = true := decide_eq_true q1
      have HX := Lib.hid hx
      have HOK := Lib.hid hok
      clear hx hok
      have HKE := Lib.hid (show okKey (wrap64 x.2.1, x.2.2.1) by
        have w1 := HOK.out.2.1
        have w2 := HOK.out.2.2.1
        refine ⟨?_, w2⟩
        simp [Lit.wf, IntKind.min, IntKind.max, IntKind.signed, IntKind.bits] at w1 ⊢
        unfold wrap64
        omega)
      by_cases h3 : x.1.tmod 5 = 3
      · have g3 : (x.1.tmod 5 == 3) = true := beq_iff_eq.2 h3
        clear h3
        go_wp2_with fail
        obtain ⟨w4, hw4⟩ : ∃ w4, wr.alloc (.cells #[.int .u8 x.1, .int .i8 x.2.1, .int .u32 x.2.2.1, .int .u64 x.2.2.2] 48) = w4 := ⟨_, rfl⟩
        rw [hw4]
        have hb4 : Below wr.heap.size wr w4 := by rw [← hw4]; exact below_alloc (Below.refl _ _) _
        have HX4 := Lib.hid (show w4.heap[wr.heap.size]? = some (.cells #[.int .u8 x.1, .int .i8 x.2.1, .int .u32 x.2.2.1, .int .u64 x.2.2.2] 48 (0, 0)) by rw [← hw4]; exact blk_new wr _)
        have HO4 := Lib.hid (HO.out.below hb4)
        clear hw4 hb4 x0 x1 x2 x3 HO
        obtain ⟨P, hP⟩ : ∃ P, wr.heap.size = P := ⟨_, rfl⟩
        rw [hP] at HX4
        rw [hP]
        clear hP
        have y0 : w4.cell? ⟨P, 0, none⟩ = some (.int .u8 x.1) := cell_of_row _ _ 0 _ _ _ HX4.out
        have hlen : xs.length ≤ 900 := by have := HO4.out.len; omega
        have y1 := cell_of_row _ _ 1 _ _ _ HX4.out
        have y2 := cell_of_row _ _ 2 _ _ _ HX4.out
        have HOD := Lib.hid (HO4.out.below (Below.drew (Below.refl _ _)))
        have HPD := Lib.hid (show w4.drew.heap[P]? = some (.cells #[.int .u8 x.1, .int .i8 x.2.1, .int .u32 x.2.2.1, .int .u64 x.2.2.2] 48 (0, 0)) from HX4.out)
        refine start_ (n := 15) (S := fun w' => w'.cell? ⟨P, 1, none⟩ = some (.int .i8 x.2.1) ∧ w'.cell? ⟨P, 2, none⟩ = some (.int .u32 x.2.2.1)) (ds := []) #[false, false, false, false, false, false, false, false, false, false, false, false, false, false, false] (by kernel_rfl) rfl rfl ⟨pw_cell_below (Below.drew (Below.refl _ _)) y1, pw_cell_below (Below.drew (Below.refl _ _)) y2⟩ (fun hHeld => ?_)
        refine pure_ (i := 0) (N := some 59) (v := ?_) (a' := ?_) #[true, false, false, false, false, false, false, false, false, false, false, false, false, false, false] rfl rfl (by kernel_rfl) (fun _ _ _ h => h) (Or.inl ⟨by rfl, ?_⟩) ?_ ?_
        rotate_left
        · intro w'
          go_simp
          with_reducible rfl
        rotate_left
        · simp only [Act.put, List.setIfInBounds_toArray, List.set_cons_zero, List.set_cons_succ, i64_w, i32_w]
          rfl
        refine pure_ (i := 1) (N := some 60) (v := ?_) (a' := ?_) #[true, true, false, false, false, false, false, false, false, false, false, false, false, false, false] rfl rfl (by kernel_rfl) (fun _ _ _ h => h) (Or.inl ⟨by rfl, ?_⟩) ?_ ?_
        rotate_left
        · intro w'
          go_simp
          with_reducible rfl
        rotate_left
        · simp only [Act.put, List.setIfInBounds_toArray, List.set_cons_zero, List.set_cons_succ, i64_w, i32_w]
          rfl
        refine pure_ (i := 4) (N := some 63) (v := ?_) (a' := ?_) #[true, true, false, false, true, false, false, false, false, false, false, false, false, false, false] rfl rfl (by kernel_rfl) (fun _ _ _ h => h) (Or.inl ⟨by rfl, ?_⟩) ?_ ?_
        rotate_left
        · intro w'
          go_simp
          with_reducible rfl
        rotate_left
        · simp only [Act.put, List.setIfInBounds_toArray, List.set_cons_zero, List.set_cons_succ, i64_w, i32_w]
          rfl
        refine pure_ (i := 7) (N := some 66) (v := ?_) (a' := ?_) #[true, true, false, false, true, false, false, true, false, false, false, false, false, false, false] rfl rfl (by kernel_rfl) (fun _ _ _ h => h) (Or.inl ⟨by rfl, ?_⟩) ?_ ?_
        rotate_left
        · intro w'
          go_simp
          with_reducible rfl
        rotate_left
        · simp only [Act.put, List.setIfInBounds_toArray, List.set_cons_zero, List.set_cons_succ, i64_w, i32_w]
          rfl
        refine pure_ (i := 8) (N := some 67) (v := ?_) (a' := ?_) #[true, true, false, false, true, false, false, true, true, false, false, false, false, false, false] rfl rfl (by kernel_rfl) (fun _ _ _ h => h) (Or.inl ⟨by rfl, ?_⟩) ?_ ?_
        rotate_left
        · intro w'
          go_simp
          with_reducible rfl
        rotate_left
        · simp only [Act.put, List.setIfInBounds_toArray, List.set_cons_zero, List.set_cons_succ, i64_w, i32_w]
          rfl
        refine pure_ (i := 11) (N := some 70) (v := ?_) (a' := ?_) #[true, true, false, false, true, false, false, true, true, false, false, true, false, false, false] rfl rfl (by kernel_rfl) (fun _ _ _ h => h) (Or.inl ⟨by rfl, ?_⟩) ?_ ?_
        rotate_left
        · intro w'
          go_simp
          with_reducible rfl
        rotate_left
        · simp only [Act.put, List.setIfInBounds_toArray, List.set_cons_zero, List.set_cons_succ, i64_w, i32_w]
          rfl
        refine take_ (i := 2) (N := some 61) (v := ?_) (a' := ?_) #[true, true, true, false, true, false, false, true, true, false, false, true, false, false, false] rfl rfl (by kernel_rfl) (fun _ _ _ h => h) (Or.inl ⟨by rfl, ?_⟩) hHeld ?_ ?_
        rotate_left
        · rintro w' ⟨s0, s1⟩
          go_simp
          with_reducible rfl
        rotate_left
        · simp only [Act.put, List.setIfInBounds_toArray, List.set_cons_zero, List.set_cons_succ, i64_w, i32_w]
          rfl
        refine pure_ (i := 3) (N := some 62) (v := ?_) (a' := ?_) #[true, true, true, true, true, false, false, true, true, false, false, true, false, false, false] rfl rfl (by kernel_rfl) (fun _ _ _ h => h) (Or.inl ⟨by rfl, ?_⟩) ?_ ?_
        rotate_left
        · intro w'
          go_simp
          with_reducible rfl
        rotate_left
        · simp only [Act.put, List.setIfInBounds_toArray, List.set_cons_zero, List.set_cons_succ, i64_w, i32_w]
          rfl
        refine take_ (i := 5) (N := some 64) (v := ?_) (a' := ?_) #[true, true, true, true, true, true, false, true, true, false, false, true, false, false, false] rfl rfl (by kernel_rfl) (fun _ _ _ h => h) (Or.inl ⟨by rfl, ?_⟩) hHeld ?_ ?_
        rotate_left
        · rintro w' ⟨s0, s1⟩
          go_simp
          with_reducible rfl
        rotate_left
        · simp only [Act.put, List.setIfInBounds_toArray, List.set_cons_zero, List.set_cons_succ, i64_w, i32_w]
          rfl
        refine take_ (i := 9) (N := some 68) (v := ?_) (a' := ?_) #[true, true, true, true, true, true, false, true, true, true, false, true, false, false, false] rfl rfl (by kernel_rfl) (fun _ _ _ h => h) (Or.inl ⟨by rfl, ?_⟩) hHeld ?_ ?_
        rotate_left
        · rintro w' ⟨s0, s1⟩
          go_simp
          with_reducible rfl
        rotate_left
        · simp only [Act.put, List.setIfInBounds_toArray, List.set_cons_zero, List.set_cons_succ, i64_w, i32_w]
          rfl
        refine pure_ (i := 10) (N := some 69) (v := ?_) (a' := ?_) #[true, true, true, true, true, true, false, true, true, true, true, true, false, false, false] rfl rfl (by kernel_rfl) (fun _ _ _ h => h) (Or.inl ⟨by rfl, ?_⟩) ?_ ?_
        rotate_left
        · intro w'
          go_simp
          with_reducible rfl
        rotate_left
        · simp only [Act.put, List.setIfInBounds_toArray, List.set_cons_zero, List.set_cons_succ, i64_w, i32_w]
          rfl
        refine take_ (i := 12) (N := some 71) (v := ?_) (a' := ?_) #[true, true, true, true, true, true, false, true, true, true, true, true, true, false, false] rfl rfl (by kernel_rfl) (fun _ _ _ h => h) (Or.inl ⟨by rfl, ?_⟩) hHeld ?_ ?_
        rotate_left
        · rintro w' ⟨s0, s1⟩
          go_simp
          with_reducible rfl
        rotate_left
        · simp only [Act.put, List.setIfInBounds_toArray, List.set_cons_zero, List.set_cons_succ, i64_w, i32_w]
          rfl
        refine one_ (i := 6) (N := some 65) #[true, true, true, true, true, true, true, true, true, true, true, true, true, false, false] rfl rfl (by kernel_rfl) (by decide) (fun K hK => ?_)
        refine goes_ Try.func17 (by kernel_rfl) rfl #[.pointer (some ⟨r, 0, none⟩), .int .i64 (wrap64 x.2.1), .int .u32 x.2.2.1] (by rfl) rfl rfl (by simp only [List.map_toArray, List.map_cons, List.map_nil]; rfl) ?_
        with_reducible refine (drop_any HOD.out.row (by omega) (wrap64 x.2.1) x.2.2.1 HKE.out).mono ?_
        rintro e w5 ⟨p1, rfl, zs, hrel1, ho1⟩
        refine ⟨_, rfl, ?_⟩
        have HRL1 := Lib.hid hrel1
        have HP5 := Lib.hid (HOD.out.keeps ho1.off HPD.out (by decide) (by decide))
        obtain ⟨s5, ys, hp5, hm5⟩ := HOD.out.mid ho1
        have HM5 := Lib.hid hm5
        have HPM5 := Lib.hid hp5
        have c51 := cell_of_row _ _ 1 _ _ _ HP5.out
        have c52 := cell_of_row _ _ 2 _ _ _ HP5.out
        clear ho1 hp5 hm5 hrel1
        refine hK.out _ _ ⟨c51, c52⟩ (fun hHeld => ?_)
        clear hK K
        refine norm_ (a' := ?_) ?_ ?_
        rotate_left
        · show Act.put _ (some 65) _ = _
          simp only [Act.put, List.setIfInBounds_toArray, List.set_cons_zero, List.set_cons_succ, i64_w, i32_w]
          rfl
        refine one_ (i := 13) (N := some 72) #[true, true, true, true, true, true, true, true, true, true, true, true, true, true, false] rfl rfl (by kernel_rfl) (by decide) (fun K hK => ?_)
        refine goes_ Try.func18 (by kernel_rfl) rfl #[.pointer (some ⟨Q, 0, none⟩), .int .i64 (wrap64 x.2.1), .int .u32 x.2.2.1] (by rfl) rfl rfl (by simp only [List.map_toArray, List.map_cons, List.map_nil]; rfl) ?_
        with_reducible refine (rdrop_any HM5.out.ref (wrap64 x.2.1) x.2.2.1).mono ?_
        rintro e w6 ⟨p2, rfl, L2, A2, c2, hrel2, href2, ho2⟩
        refine ⟨_, rfl, ?_⟩
        have HP6 := Lib.hid (off_keeps HM5.out.ref.box ho2 HP5.out (by decide))
        have htw := HO4.out.twin.drop HRL1.out hrel2
        have HP6E := Lib.hid htw.1
        have hpn : (p1 != p2) = false := by rw [htw.1]; exact bne_self_eq_false _
        have HO6 := Lib.hid (HM5.out.done href2 ho2 (htw.2.of_perm HPM5.out) (show ys.length ≤ i + 1 by have h1 := HRL1.out.len; have h2 := HPM5.out.length_eq; have h3 := HO4.out.len; omega))
        have c61 := cell_of_row _ _ 1 _ _ _ HP6.out
        have c62 := cell_of_row _ _ 2 _ _ _ HP6.out
        clear hrel2 href2 ho2 htw
        refine hK.out _ _ ⟨c61, c62⟩ (fun hHeld => ?_)
        clear hK K
        refine norm_ (a' := ?_) ?_ ?_
        rotate_left
        · show Act.put _ (some 72) _ = _
          simp only [Act.put, List.setIfInBounds_toArray, List.set_cons_zero, List.set_cons_succ, i64_w, i32_w]
          rfl
        refine pure_ (i := 14) (N := some 73) (v := ?_) (a' := ?_) #[true, true, true, true, true, true, true, true, true, true, true, true, true, true, true] rfl rfl (by kernel_rfl) (fun _ _ _ h => h) (Or.inl ⟨by rfl, ?_⟩) ?_ ?_
        rotate_left
        · intro w'
          go_simp
          with_reducible rfl
        rotate_left
        · simp only [Act.put, List.setIfInBounds_toArray, List.set_cons_zero, List.set_cons_succ, i64_w, i32_w]
          rfl
        refine done_ (by kernel_rfl) ?_
        have HLN := Lib.hid (show ys.length ≤ 1000 by have := HO6.out.len; omega)
        obtain ⟨z, hz⟩ : ∃ z, ix ys 0 = z := ⟨_, rfl⟩
        obtain ⟨b, hb⟩ : ∃ b, decide (0 < ys.length) = b := ⟨_, rfl⟩
        obtain ⟨m, hm⟩ : ∃ m, ys.length = m := ⟨_, rfl⟩
        have HZ := Lib.hid hz
        have HBB := Lib.hid hb
        have HM := Lib.hid hm
        clear hz hb hm
        have HZ2 := Lib.hid (show ix L2 0 = z from (HO6.out.twin.first HO6.out.row.heap).trans HZ.out)
        have HLL := Lib.hid (show L2.length = m from HO6.out.twin.len.trans HM.out)
        have HBB2 := Lib.hid (show decide (0 < L2.length) = b by rw [HO6.out.twin.len]; exact HBB.out)
        go_wp2_with fail
        refine (first_m HO6.out.row HLN.out HZ.out HBB.out).mono ?_
        rintro e v6 ⟨rfl, hb⟩
        have HT6 := Lib.hid (HO6.out.below hb)
        clear hb
        go_wp2_with fail
        obtain ⟨v7, hv7⟩ : ∃ v7, v6.alloc (.cells #[.int .i64 z.1, .int .u32 z.2.1, .int .u64 z.2.2] 55) = v7 := ⟨_, rfl⟩
        have HF7 := Lib.hid (show v7.heap[v6.heap.size]? = some (.cells #[.int .i64 z.1, .int .u32 z.2.1, .int .u64 z.2.2] 55 (0, 0)) by rw [← hv7]; exact blk_new v6 _)
        have HT7 := Lib.hid (HT6.out.below (show Below v6.heap.size v6 v7 by rw [← hv7]; exact below_alloc (Below.refl _ _) _))
        rw [hv7]
        clear hv7
        obtain ⟨F, hF⟩ : ∃ F, v6.heap.size = F := ⟨_, rfl⟩
        rw [hF] at HF7
        rw [hF]
        clear hF
        refine (rfirst_m HT7.out.ref HZ2.out HBB2.out).mono ?_
        rintro e v8 ⟨rfl, hb⟩
        have HT8 := Lib.hid (HT7.out.below hb)
        have HF8 := Lib.hid (blk_below HF7.out hb)
        clear hb
        go_wp2_with fail
        obtain ⟨v9, hv9⟩ : ∃ v9, v8.alloc (.cells #[.int .i64 z.1, .int .u32 z.2.1, .int .u64 z.2.2] 56) = v9 := ⟨_, rfl⟩
        have hb9 : Below v8.heap.size v8 v9 := by rw [← hv9]; exact below_alloc (Below.refl _ _) _
        have HG9 := Lib.hid (show v9.heap[v8.heap.size]? = some (.cells #[.int .i64 z.1, .int .u32 z.2.1, .int .u64 z.2.2] 56 (0, 0)) by rw [← hv9]; exact blk_new v8 _)
        have HT9 := Lib.hid (HT8.out.below hb9)
        have HF9 := Lib.hid (blk_below HF8.out hb9)
        rw [hv9]
        clear hv9 hb9
        obtain ⟨G, hG⟩ : ∃ G, v8.heap.size = G := ⟨_, rfl⟩
        rw [hG] at HG9
        rw [hG]
        clear hG
        have HT9d := Lib.hid (HT9.out.below (Below.drew (Below.refl _ _)))
        have qc := cell_of_row _ _ 0 _ _ _ HT9d.out.ref.box
        rw [HLL.out] at qc
        have f0 := pw_cell_below (Below.drew (Below.refl _ _)) (cell_of_row _ _ 0 _ _ _ HF9.out)
        have f1 := pw_cell_below (Below.drew (Below.refl _ _)) (cell_of_row _ _ 1 _ _ _ HF9.out)
        have f2 := pw_cell_below (Below.drew (Below.refl _ _)) (cell_of_row _ _ 2 _ _ _ HF9.out)
        have g0 := pw_cell_below (Below.drew (Below.refl _ _)) (cell_of_row _ _ 0 _ _ _ HG9.out)
        have g1 := pw_cell_below (Below.drew (Below.refl _ _)) (cell_of_row _ _ 1 _ _ _ HG9.out)
        have g2 := pw_cell_below (Below.drew (Below.refl _ _)) (cell_of_row _ _ 2 _ _ _ HG9.out)
        have hbn : (b != b) = false := bne_self_eq_false _
        have hmn : ((m : Int) != (m : Int)) = false := bne_self_eq_false _
        refine start_ (n := 19) (S := fun w' => w'.cell? ⟨F, 0, none⟩ = some (.int .i64 z.1) ∧ w'.cell? ⟨F, 1, none⟩ = some (.int .u32 z.2.1) ∧ w'.cell? ⟨F, 2, none⟩ = some (.int .u64 z.2.2) ∧ w'.cell? ⟨G, 0, none⟩ = some (.int .i64 z.1) ∧ w'.cell? ⟨G, 1, none⟩ = some (.int .u32 z.2.1) ∧ w'.cell? ⟨G, 2, none⟩ = some (.int .u64 z.2.2) ∧ w'.cell? ⟨Q, 0, none⟩ = some (.slice A2 m c2)) (ds := []) #[false, false, false, false, false, false, false, false, false, false, false, false, false, false, false, false, false, false, false] (by kernel_rfl) rfl rfl ⟨f0, f1, f2, g0, g1, g2, qc⟩ (fun hHeld => ?_)
        refine take_ (i := 0) (N := some 115) (v := ?_) (a' := ?_) #[true, false, false, false, false, false, false, false, false, false, false, false, false, false, false, false, false, false, false] rfl rfl (by kernel_rfl) (fun _ _ _ h => h) (Or.inl ⟨by rfl, ?_⟩) hHeld ?_ ?_
        rotate_left
        · rintro w' ⟨s0, s1, s2, s3, s4, s5, s6⟩
          go_simp
          with_reducible rfl
        rotate_left
        · simp only [Act.put, List.setIfInBounds_toArray, List.set_cons_zero, List.set_cons_succ, i64_w, i32_w]
          rfl
        refine take_ (i := 1) (N := some 116) (v := ?_) (a' := ?_) #[true, true, false, false, false, false, false, false, false, false, false, false, false, false, false, false, false, false, false] rfl rfl (by kernel_rfl) (fun _ _ _ h => h) (Or.inl ⟨by rfl, ?_⟩) hHeld ?_ ?_
        rotate_left
        · rintro w' ⟨s0, s1, s2, s3, s4, s5, s6⟩
          go_simp
          with_reducible rfl
        rotate_left
        · simp only [Act.put, List.setIfInBounds_toArray, List.set_cons_zero, List.set_cons_succ, i64_w, i32_w]
          rfl
        refine one_ (i := 2) (N := some 117) #[true, true, true, false, false, false, false, false, false, false, false, false, false, false, false, false, false, false, false] rfl rfl (by kernel_rfl) (by decide) (fun K hK => ?_)
        refine goes_ Try.func21 (by kernel_rfl) rfl #[.agg #[.int .i64 z.1, .int .u32 z.2.1, .int .u64 z.2.2], .agg #[.int .i64 z.1, .int .u32 z.2.1, .int .u64 z.2.2]] (by rfl) rfl rfl (by simp only [List.map_toArray, List.map_cons, List.map_nil]; rfl) ?_
        with_reducible refine (same_calls z _).mono ?_
        rintro e u1 ⟨rfl, hbu1⟩
        refine ⟨_, rfl, ?_⟩
        have HU1 := Lib.hid (HT9d.out.below hbu1)
        refine hK.out _ _ ⟨pw_cell_below hbu1 hHeld.1, pw_cell_below hbu1 hHeld.2.1, pw_cell_below hbu1 hHeld.2.2.1, pw_cell_below hbu1 hHeld.2.2.2.1, pw_cell_below hbu1 hHeld.2.2.2.2.1, pw_cell_below hbu1 hHeld.2.2.2.2.2.1, pw_cell_below hbu1 hHeld.2.2.2.2.2.2⟩ (fun hHeld => ?_)
        clear hK K
        refine norm_ (a' := ?_) ?_ ?_
        rotate_left
        · show Act.put _ (some 117) _ = _
          simp only [Act.put, List.setIfInBounds_toArray, List.set_cons_zero, List.set_cons_succ, i64_w, i32_w]
          rfl
        refine pure_ (i := 3) (N := some 118) (v := ?_) (a' := ?_) #[true, true, true, true, false, false, false, false, false, false, false, false, false, false, false, false, false, false, false] rfl rfl (by kernel_rfl) (fun _ _ _ h => h) (Or.inl ⟨by rfl, ?_⟩) ?_ ?_
        rotate_left
        · intro w'
          go_simp
          with_reducible rfl
        rotate_left
        · simp only [Act.put, List.setIfInBounds_toArray, List.set_cons_zero, List.set_cons_succ, i64_w, i32_w]
          rfl
        refine pure_ (i := 4) (N := some 119) (v := ?_) (a' := ?_) #[true, true, true, true, true, false, false, false, false, false, false, false, false, false, false, false, false, false, false] rfl rfl (by kernel_rfl) (fun _ _ _ h => h) (Or.inl ⟨by rfl, ?_⟩) ?_ ?_
        rotate_left
        · intro w'
          go_simp
          with_reducible rfl
        rotate_left
        · simp only [Act.put, List.setIfInBounds_toArray, List.set_cons_zero, List.set_cons_succ, i64_w, i32_w]
          rfl
        refine pure_ (i := 5) (N := some 120) (v := ?_) (a' := ?_) #[true, true, true, true, true, true, false, false, false, false, false, false, false, false, false, false, false, false, false] rfl rfl (by kernel_rfl) (fun _ _ _ h => h) (Or.inl ⟨by rfl, ?_⟩) ?_ ?_
        rotate_left
        · intro w'
          go_simp
          with_reducible rfl
        rotate_left
        · simp only [Act.put, List.setIfInBounds_toArray, List.set_cons_zero, List.set_cons_succ, i64_w, i32_w]
          rfl
        refine pure_ (i := 6) (N := some 121) (v := ?_) (a' := ?_) #[true, true, true, true, true, true, true, false, false, false, false, false, false, false, false, false, false, false, false] rfl rfl (by kernel_rfl) (fun _ _ _ h => h) (Or.inl ⟨by rfl, ?_⟩) ?_ ?_
        rotate_left
        · intro w'
          go_simp
          with_reducible rfl
        rotate_left
        · simp only [Act.put, List.setIfInBounds_toArray, List.set_cons_zero, List.set_cons_succ, i64_w, i32_w]
          rfl
        refine pure_ (i := 7) (N := some 122) (v := ?_) (a' := ?_) #[true, true, true, true, true, true, true, true, false, false, false, false, false, false, false, false, false, false, false] rfl rfl (by kernel_rfl) (fun _ _ _ h => h) (Or.inl ⟨by rfl, ?_⟩) ?_ ?_
        rotate_left
        · intro w'
          go_simp
          with_reducible rfl
        rotate_left
        · simp only [Act.put, List.setIfInBounds_toArray, List.set_cons_zero, List.set_cons_succ, i64_w, i32_w]
          rfl
        refine pure_ (i := 8) (N := some 123) (v := ?_) (a' := ?_) #[true, true, true, true, true, true, true, true, true, false, false, false, false, false, false, false, false, false, false] rfl rfl (by kernel_rfl) (fun _ _ _ h => h) (Or.inl ⟨by rfl, ?_⟩) ?_ ?_
        rotate_left
        · intro w'
          go_simp
          with_reducible rfl
        rotate_left
        · simp only [Act.put, List.setIfInBounds_toArray, List.set_cons_zero, List.set_cons_succ, i64_w, i32_w]
          rfl
        refine pure_ (i := 9) (N := some 124) (v := ?_) (a' := ?_) #[true, true, true, true, true, true, true, true, true, true, false, false, false, false, false, false, false, false, false] rfl rfl (by kernel_rfl) (fun _ _ _ h => h) (Or.inl ⟨by rfl, ?_⟩) ?_ ?_
        rotate_left
        · intro w'
          go_simp
          with_reducible rfl
        rotate_left
        · simp only [Act.put, List.setIfInBounds_toArray, List.set_cons_zero, List.set_cons_succ, i64_w, i32_w]
          rfl
        refine pure_ (i := 10) (N := some 125) (v := ?_) (a' := ?_) #[true, true, true, true, true, true, true, true, true, true, true, false, false, false, false, false, false, false, false] rfl rfl (by kernel_rfl) (fun _ _ _ h => h) (Or.inl ⟨by rfl, ?_⟩) ?_ ?_
        rotate_left
        · intro w'
          go_simp
          with_reducible rfl
        rotate_left
        · simp only [Act.put, List.setIfInBounds_toArray, List.set_cons_zero, List.set_cons_succ, i64_w, i32_w]
          rfl
        refine pure_ (i := 12) (N := some 127) (v := ?_) (a' := ?_) #[true, true, true, true, true, true, true, true, true, true, true, false, true, false, false, false, false, false, false] rfl rfl (by kernel_rfl) (fun _ _ _ h => h) (Or.inl ⟨by rfl, ?_⟩) ?_ ?_
        rotate_left
        · intro w'
          go_simp
          with_reducible rfl
        rotate_left
        · simp only [Act.put, List.setIfInBounds_toArray, List.set_cons_zero, List.set_cons_succ, i64_w, i32_w]
          rfl
        refine pure_ (i := 13) (N := some 128) (v := ?_) (a' := ?_) #[true, true, true, true, true, true, true, true, true, true, true, false, true, true, false, false, false, false, false] rfl rfl (by kernel_rfl) (fun _ _ _ h => h) (Or.inl ⟨by rfl, ?_⟩) ?_ ?_
        rotate_left
        · intro w'
          go_simp
          with_reducible rfl
        rotate_left
        · simp only [Act.put, List.setIfInBounds_toArray, List.set_cons_zero, List.set_cons_succ, i64_w, i32_w]
          rfl
        refine pure_ (i := 14) (N := some 129) (v := ?_) (a' := ?_) #[true, true, true, true, true, true, true, true, true, true, true, false, true, true, true, false, false, false, false] rfl rfl (by kernel_rfl) (fun _ _ _ h => h) (Or.inl ⟨by rfl, ?_⟩) ?_ ?_
        rotate_left
        · intro w'
          go_simp
          with_reducible rfl
        rotate_left
        · simp only [Act.put, List.setIfInBounds_toArray, List.set_cons_zero, List.set_cons_succ, i64_w, i32_w]
          rfl
        refine take_ (i := 15) (N := some 130) (v := ?_) (a' := ?_) #[true, true, true, true, true, true, true, true, true, true, true, false, true, true, true, true, false, false, false] rfl rfl (by kernel_rfl) (fun _ _ _ h => h) (Or.inl ⟨by rfl, ?_⟩) hHeld ?_ ?_
        rotate_left
        · rintro w' ⟨s0, s1, s2, s3, s4, s5, s6⟩
          go_simp
          with_reducible rfl
        rotate_left
        · simp only [Act.put, List.setIfInBounds_toArray, List.set_cons_zero, List.set_cons_succ, i64_w, i32_w]
          rfl
        refine pure_ (i := 16) (N := some 131) (v := ?_) (a' := ?_) #[true, true, true, true, true, true, true, true, true, true, true, false, true, true, true, true, true, false, false] rfl rfl (by kernel_rfl) (fun _ _ _ h => h) (Or.inl ⟨by rfl, ?_⟩) ?_ ?_
        rotate_left
        · intro w'
          go_simp
          with_reducible rfl
        rotate_left
        · simp only [Act.put, List.setIfInBounds_toArray, List.set_cons_zero, List.set_cons_succ, i64_w, i32_w]
          rfl
        refine one_ (i := 11) (N := some 126) #[true, true, true, true, true, true, true, true, true, true, true, true, true, true, true, true, true, false, false] rfl rfl (by kernel_rfl) (by decide) (fun K hK => ?_)
        refine goes_ Try.func26 (by kernel_rfl) rfl #[.pointer (some ⟨r, 0, none⟩)] (by rfl) rfl rfl (by simp only [List.map_toArray, List.map_cons, List.map_nil]; rfl) ?_
        with_reducible refine (rlen_m HU1.out.row HLN.out HM.out).mono ?_
        rintro e u2 ⟨rfl, hbu2⟩
        refine ⟨_, rfl, ?_⟩
        have HU2 := Lib.hid (HU1.out.below hbu2)
        refine hK.out _ _ ⟨pw_cell_below hbu2 hHeld.1, pw_cell_below hbu2 hHeld.2.1, pw_cell_below hbu2 hHeld.2.2.1, pw_cell_below hbu2 hHeld.2.2.2.1, pw_cell_below hbu2 hHeld.2.2.2.2.1, pw_cell_below hbu2 hHeld.2.2.2.2.2.1, pw_cell_below hbu2 hHeld.2.2.2.2.2.2⟩ (fun hHeld => ?_)
        clear hK K
        refine norm_ (a' := ?_) ?_ ?_
        rotate_left
        · show Act.put _ (some 126) _ = _
          simp only [Act.put, List.setIfInBounds_toArray, List.set_cons_zero, List.set_cons_succ, i64_w, i32_w]
          rfl
        refine pure_ (i := 17) (N := some 132) (v := ?_) (a' := ?_) #[true, true, true, true, true, true, true, true, true, true, true, true, true, true, true, true, true, true, false] rfl rfl (by kernel_rfl) (fun _ _ _ h => h) (Or.inl ⟨by rfl, ?_⟩) ?_ ?_
        rotate_left
        · intro w'
          go_simp
          with_reducible rfl
        rotate_left
        · simp only [Act.put, List.setIfInBounds_toArray, List.set_cons_zero, List.set_cons_succ, i64_w, i32_w]
          rfl
        refine pure_ (i := 18) (N := some 133) (v := ?_) (a' := ?_) #[true, true, true, true, true, true, true, true, true, true, true, true, true, true, true, true, true, true, true] rfl rfl (by kernel_rfl) (fun _ _ _ h => h) (Or.inl ⟨by rfl, ?_⟩) ?_ ?_
        rotate_left
        · intro w'
          go_simp
          with_reducible rfl
        rotate_left
        · simp only [Act.put, List.setIfInBounds_toArray, List.set_cons_zero, List.set_cons_succ, i64_w, i32_w]
          rfl
        refine done_ (by kernel_rfl) ?_
        go_wp2_with fail
        go_roundw
        case rel => exact ⟨i + 1, s5, ys, L2, A2, c2, by go_num, by omega, by omega, HU2⟩
        case measure => simp [intOf]; omega
      · by_cases h4 : x.1.tmod 5 = 4
        · have g3 : (x.1.tmod 5 == 3) = false := beq_eq_false_iff_ne.2 h3
          have g4 : (x.1.tmod 5 == 4) = true := beq_iff_eq.2 h4
          clear h3 h4
          go_wp2_with fail
          obtain ⟨w4, hw4⟩ : ∃ w4, wr.alloc (.cells #[.int .u8 x.1, .int .i8 x.2.1, .int .u32 x.2.2.1, .int .u64 x.2.2.2] 48) = w4 := ⟨_, rfl⟩
          rw [hw4]
          have hb4 : Below wr.heap.size wr w4 := by rw [← hw4]; exact below_alloc (Below.refl _ _) _
          have HX4 := Lib.hid (show w4.heap[wr.heap.size]? = some (.cells #[.int .u8 x.1, .int .i8 x.2.1, .int .u32 x.2.2.1, .int .u64 x.2.2.2] 48 (0, 0)) by rw [← hw4]; exact blk_new wr _)
          have HO4 := Lib.hid (HO.out.below hb4)
          clear hw4 hb4 x0 x1 x2 x3 HO
          obtain ⟨P, hP⟩ : ∃ P, wr.heap.size = P := ⟨_, rfl⟩
          rw [hP] at HX4
          rw [hP]
          clear hP
          have y0 : w4.cell? ⟨P, 0, none⟩ = some (.int .u8 x.1) := cell_of_row _ _ 0 _ _ _ HX4.out
          have hlen : xs.length ≤ 900 := by have := HO4.out.len; omega
          have y3 := cell_of_row _ _ 3 _ _ _ HX4.out
          have HOD := Lib.hid (HO4.out.below (Below.drew (Below.refl _ _)))
          have HPD := Lib.hid (show w4.drew.heap[P]? = some (.cells #[.int .u8 x.1, .int .i8 x.2.1, .int .u32 x.2.2.1, .int .u64 x.2.2.2] 48 (0, 0)) from HX4.out)
          refine start_ (n := 10) (S := fun w' => w'.cell? ⟨P, 3, none⟩ = some (.int .u64 x.2.2.2)) (ds := []) #[false, false, false, false, false, false, false, false, false, false] (by kernel_rfl) rfl rfl (pw_cell_below (Below.drew (Below.refl _ _)) y3) (fun hHeld => ?_)
          refine pure_ (i := 0) (N := some 76) (v := ?_) (a' := ?_) #[true, false, false, false, false, false, false, false, false, false] rfl rfl (by kernel_rfl) (fun _ _ _ h => h) (Or.inl ⟨by rfl, ?_⟩) ?_ ?_
          rotate_left
          · intro w'
            go_simp
            with_reducible rfl
          rotate_left
          · simp only [Act.put, List.setIfInBounds_toArray, List.set_cons_zero, List.set_cons_succ, i64_w, i32_w]
            rfl
          refine pure_ (i := 1) (N := some 77) (v := ?_) (a' := ?_) #[true, true, false, false, false, false, false, false, false, false] rfl rfl (by kernel_rfl) (fun _ _ _ h => h) (Or.inl ⟨by rfl, ?_⟩) ?_ ?_
          rotate_left
          · intro w'
            go_simp
            with_reducible rfl
          rotate_left
          · simp only [Act.put, List.setIfInBounds_toArray, List.set_cons_zero, List.set_cons_succ, i64_w, i32_w]
            rfl
          refine pure_ (i := 4) (N := some 80) (v := ?_) (a' := ?_) #[true, true, false, false, true, false, false, false, false, false] rfl rfl (by kernel_rfl) (fun _ _ _ h => h) (Or.inl ⟨by rfl, ?_⟩) ?_ ?_
          rotate_left
          · intro w'
            go_simp
            with_reducible rfl
          rotate_left
          · simp only [Act.put, List.setIfInBounds_toArray, List.set_cons_zero, List.set_cons_succ, i64_w, i32_w]
            rfl
          refine pure_ (i := 5) (N := some 81) (v := ?_) (a' := ?_) #[true, true, false, false, true, true, false, false, false, false] rfl rfl (by kernel_rfl) (fun _ _ _ h => h) (Or.inl ⟨by rfl, ?_⟩) ?_ ?_
          rotate_left
          · intro w'
            go_simp
            with_reducible rfl
          rotate_left
          · simp only [Act.put, List.setIfInBounds_toArray, List.set_cons_zero, List.set_cons_succ, i64_w, i32_w]
            rfl
          refine take_ (i := 2) (N := some 78) (v := ?_) (a' := ?_) #[true, true, true, false, true, true, false, false, false, false] rfl rfl (by kernel_rfl) (fun _ _ _ h => h) (Or.inl ⟨by rfl, ?_⟩) hHeld ?_ ?_
          rotate_left
          · intro w' s0
            go_simp
            with_reducible rfl
          rotate_left
          · simp only [Act.put, List.setIfInBounds_toArray, List.set_cons_zero, List.set_cons_succ, i64_w, i32_w]
            rfl
          refine take_ (i := 6) (N := some 82) (v := ?_) (a' := ?_) #[true, true, true, false, true, true, true, false, false, false] rfl rfl (by kernel_rfl) (fun _ _ _ h => h) (Or.inl ⟨by rfl, ?_⟩) hHeld ?_ ?_
          rotate_left
          · intro w' s0
            go_simp
            with_reducible rfl
          rotate_left
          · simp only [Act.put, List.setIfInBounds_toArray, List.set_cons_zero, List.set_cons_succ, i64_w, i32_w]
            rfl
          refine one_ (i := 3) (N := some 79) #[true, true, true, true, true, true, true, false, false, false] rfl rfl (by kernel_rfl) (by decide) (fun K hK => ?_)
          refine goes_ Try.func19 (by kernel_rfl) rfl #[.pointer (some ⟨r, 0, none⟩), .int .u64 x.2.2.2] (by rfl) rfl rfl (by simp only [List.map_toArray, List.map_cons, List.map_nil]; rfl) ?_
          with_reducible refine (take_calls HOD.out.row (by omega) x.2.2.2).mono ?_
          rintro e w5 ⟨v, rfl, out, rest, ht⟩
          refine ⟨_, rfl, ?_⟩
          have HTK := Lib.hid ht
          have HP5 := Lib.hid (HOD.out.keeps ht.off HPD.out (by decide) (by decide))
          obtain ⟨s5, hm5⟩ := HOD.out.midTake ht
          have HM5 := Lib.hid hm5
          have c53 := cell_of_row _ _ 3 _ _ _ HP5.out
          clear ht hm5
          refine hK.out _ _ (c53) (fun hHeld => ?_)
          clear hK K
          refine norm_ (a' := ?_) ?_ ?_
          rotate_left
          · show Act.put _ (some 79) _ = _
            simp only [Act.put, List.setIfInBounds_toArray, List.set_cons_zero, List.set_cons_succ, i64_w, i32_w]
            rfl
          refine one_ (i := 7) (N := some 83) #[true, true, true, true, true, true, true, true, false, false] rfl rfl (by kernel_rfl) (by decide) (fun K hK => ?_)
          refine goes_ Try.func20 (by kernel_rfl) rfl #[.pointer (some ⟨Q, 0, none⟩), .int .u64 x.2.2.2] (by rfl) rfl rfl (by simp only [List.map_toArray, List.map_cons, List.map_nil]; rfl) ?_
          with_reducible refine (rtake_calls HM5.out.ref x.2.2.2).mono ?_
          rintro e w6 ⟨v2, rfl, m, hup, hown, ⟨A2, c2, href2⟩, ho2⟩
          refine ⟨_, rfl, ?_⟩
          have HP6 := Lib.hid (off_keeps HM5.out.ref.box ho2 HP5.out (by decide))
          obtain ⟨ho6, hg6, hol⟩ := HOD.out.tookBoth HTK.out HM5.out hup hown href2 ho2
          have HO6 := Lib.hid ho6
          have HG6 := Lib.hid hg6
          have HOL := Lib.hid hol
          have c63 := cell_of_row _ _ 3 _ _ _ HP6.out
          clear hup hown href2 ho2 ho6 hg6 hol
          refine hK.out _ _ (c63) (fun hHeld => ?_)
          clear hK K
          refine norm_ (a' := ?_) ?_ ?_
          rotate_left
          · show Act.put _ (some 83) _ = _
            simp only [Act.put, List.setIfInBounds_toArray, List.set_cons_zero, List.set_cons_succ, i64_w, i32_w]
            rfl
          refine pure_ (i := 8) (N := some 7) (v := ?_) (a' := ?_) #[true, true, true, true, true, true, true, true, true, false] rfl rfl (by kernel_rfl) (fun _ _ _ h => h) (Or.inl ⟨by rfl, ?_⟩) ?_ ?_
          rotate_left
          · intro w'
            go_simp
            with_reducible rfl
          rotate_left
          · simp only [Act.put, List.setIfInBounds_toArray, List.set_cons_zero, List.set_cons_succ, i64_w, i32_w]
            rfl
          refine pure_ (i := 9) (N := some 8) (v := ?_) (a' := ?_) #[true, true, true, true, true, true, true, true, true, true] rfl rfl (by kernel_rfl) (fun _ _ _ h => h) (Or.inl ⟨by rfl, ?_⟩) ?_ ?_
          rotate_left
          · intro w'
            go_simp
            with_reducible rfl
          rotate_left
          · simp only [Act.put, List.setIfInBounds_toArray, List.set_cons_zero, List.set_cons_succ, i64_w, i32_w]
            rfl
          refine done_ (by kernel_rfl) ?_
          obtain ⟨Aa, ca, rfl⟩ := own_slice HG6.out.a
          obtain ⟨Ab, cb, rfl⟩ := own_slice HG6.out.b
          obtain ⟨k, hk⟩ : ∃ k, out.length = k := ⟨_, rfl⟩
          have HK := Lib.hid hk
          have hk1 : k ≤ 1000 := by have := HOL.out; omega
          rw [hk]
          clear hk
          have hkn : ((k : Int) != (k : Int)) = false := bne_self_eq_false _
          go_wp2_with fail
          obtain ⟨wa, hwa⟩ : ∃ wa, w6 = wa := ⟨_, rfl⟩
          subst hwa
          go_loopw [9] (fun v9 wr => ∃ j : Nat, v9 = .int .i64 j ∧ j ≤ k ∧ Hid (PlAt W wr r Q s5 rest (L.drop m) A2 c2 (i + 1)) ∧ Hid (GotAt wr (.slice Aa out.length ca) (.slice Ab out.length cb) out)) (fun v9 _ => k - (intOf v9).toNat)
          case atStart => exact ⟨0, rfl, Nat.zero_le _, HO6, HG6⟩
          case round =>
            clear HO6 HG6
            obtain ⟨j, rfl, hj, HO6, HG6⟩ := hrel
            have j0 : (0 : Int) ≤ (j : Int) := by omega
            by_cases hjk : j < k
            · obtain ⟨z, hz⟩ : ∃ z, out[j]? = some z := ⟨_, List.getElem?_eq_getElem (by rw [HK.out]; exact hjk)⟩
              obtain ⟨g, rfl, a0, a1, a2⟩ := cells_own HG6.out.a hz
              obtain ⟨g', rfl, b0, b1, b2⟩ := cells_own HG6.out.b hz
              have j1 : (j : Int) < (k : Int) := by omega
              have j2 : decide ((j : Int) < (k : Int)) = true := decide_eq_true j1
              clear hz
              go_wp2_with fail
              refine start_ (n := 10) (S := fun w' => w'.cell? ⟨g, j * 3, none⟩ = some (.int .i64 z.1) ∧ w'.cell? ⟨g, j * 3 + 1, none⟩ = some (.int .u32 z.2.1) ∧ w'.cell? ⟨g, j * 3 + 2, none⟩ = some (.int .u64 z.2.2) ∧ w'.cell? ⟨g', j * 3, none⟩ = some (.int .i64 z.1) ∧ w'.cell? ⟨g', j * 3 + 1, none⟩ = some (.int .u32 z.2.1) ∧ w'.cell? ⟨g', j * 3 + 2, none⟩ = some (.int .u64 z.2.2)) (ds := []) #[false, false, false, false, false, false, false, false, false, false] (by kernel_rfl) rfl rfl ⟨pw_cell_below (Below.drew (Below.refl _ _)) a0, pw_cell_below (Below.drew (Below.refl _ _)) a1, pw_cell_below (Below.drew (Below.refl _ _)) a2, pw_cell_below (Below.drew (Below.refl _ _)) b0, pw_cell_below (Below.drew (Below.refl _ _)) b1, pw_cell_below (Below.drew (Below.refl _ _)) b2⟩ (fun hHeld => ?_)
              refine pure_ (i := 0) (N := some 95) (v := ?_) (a' := ?_) #[true, false, false, false, false, false, false, false, false, false] rfl rfl (by kernel_rfl) (fun _ _ _ h => h) (Or.inl ⟨by rfl, ?_⟩) ?_ ?_
              rotate_left
              · intro w'
                go_simp
                with_reducible rfl
              rotate_left
              · simp only [Act.put, List.setIfInBounds_toArray, List.set_cons_zero, List.set_cons_succ, i64_w, i32_w]
                rfl
              refine pure_ (i := 1) (N := some 96) (v := ?_) (a' := ?_) #[true, true, false, false, false, false, false, false, false, false] rfl rfl (by kernel_rfl) (fun _ _ _ h => h) (Or.inl ⟨by rfl, ?_⟩) ?_ ?_
              rotate_left
              · intro w'
                go_simp
                with_reducible rfl
              rotate_left
              · simp only [Act.put, List.setIfInBounds_toArray, List.set_cons_zero, List.set_cons_succ, i64_w, i32_w]
                rfl
              refine pure_ (i := 2) (N := some 97) (v := ?_) (a' := ?_) #[true, true, true, false, false, false, false, false, false, false] rfl rfl (by kernel_rfl) (fun _ _ _ h => h) (Or.inl ⟨by rfl, ?_⟩) ?_ ?_
              rotate_left
              · intro w'
                go_simp
                with_reducible rfl
              rotate_left
              · simp only [Act.put, List.setIfInBounds_toArray, List.set_cons_zero, List.set_cons_succ, i64_w, i32_w]
                rfl
              refine pure_ (i := 4) (N := some 99) (v := ?_) (a' := ?_) #[true, true, true, false, true, false, false, false, false, false] rfl rfl (by kernel_rfl) (fun _ _ _ h => h) (Or.inl ⟨by rfl, ?_⟩) ?_ ?_
              rotate_left
              · intro w'
                go_simp
                with_reducible rfl
              rotate_left
              · simp only [Act.put, List.setIfInBounds_toArray, List.set_cons_zero, List.set_cons_succ, i64_w, i32_w]
                rfl
              refine pure_ (i := 5) (N := some 100) (v := ?_) (a' := ?_) #[true, true, true, false, true, true, false, false, false, false] rfl rfl (by kernel_rfl) (fun _ _ _ h => h) (Or.inl ⟨by rfl, ?_⟩) ?_ ?_
              rotate_left
              · intro w'
                go_simp
                with_reducible rfl
              rotate_left
              · simp only [Act.put, List.setIfInBounds_toArray, List.set_cons_zero, List.set_cons_succ, i64_w, i32_w]
                rfl
              refine pure_ (i := 6) (N := some 101) (v := ?_) (a' := ?_) #[true, true, true, false, true, true, true, false, false, false] rfl rfl (by kernel_rfl) (fun _ _ _ h => h) (Or.inl ⟨by rfl, ?_⟩) ?_ ?_
              rotate_left
              · intro w'
                go_simp
                with_reducible rfl
              rotate_left
              · simp only [Act.put, List.setIfInBounds_toArray, List.set_cons_zero, List.set_cons_succ, i64_w, i32_w]
                rfl
              refine take_ (i := 3) (N := some 98) (v := ?_) (a' := ?_) #[true, true, true, true, true, true, true, false, false, false] rfl rfl (by kernel_rfl) (fun _ _ _ h => h) (Or.inl ⟨by rfl, ?_⟩) hHeld ?_ ?_
              rotate_left
              · rintro w' ⟨s0, s1, s2, s3, s4, s5⟩
                go_simp
                with_reducible rfl
              rotate_left
              · simp only [Act.put, List.setIfInBounds_toArray, List.set_cons_zero, List.set_cons_succ, i64_w, i32_w]
                rfl
              refine take_ (i := 7) (N := some 102) (v := ?_) (a' := ?_) #[true, true, true, true, true, true, true, true, false, false] rfl rfl (by kernel_rfl) (fun _ _ _ h => h) (Or.inl ⟨by rfl, ?_⟩) hHeld ?_ ?_
              rotate_left
              · rintro w' ⟨s0, s1, s2, s3, s4, s5⟩
                go_simp
                with_reducible rfl
              rotate_left
              · simp only [Act.put, List.setIfInBounds_toArray, List.set_cons_zero, List.set_cons_succ, i64_w, i32_w]
                rfl
              refine one_ (i := 8) (N := some 103) #[true, true, true, true, true, true, true, true, true, false] rfl rfl (by kernel_rfl) (by decide) (fun K hK => ?_)
              refine goes_ Try.func21 (by kernel_rfl) rfl #[.agg #[.int .i64 z.1, .int .u32 z.2.1, .int .u64 z.2.2], .agg #[.int .i64 z.1, .int .u32 z.2.1, .int .u64 z.2.2]] (by rfl) rfl rfl (by simp only [List.map_toArray, List.map_cons, List.map_nil]; rfl) ?_
              with_reducible refine (same_calls z _).mono ?_
              rintro e u1 ⟨rfl, hbu1⟩
              refine ⟨_, rfl, ?_⟩
              have HU1 := Lib.hid ((HO6.out.below (Below.drew (Below.refl _ _))).below hbu1)
              have HV1 := Lib.hid ((HG6.out.below (Below.drew (Below.refl _ _))).below hbu1)
              refine hK.out _ _ ⟨pw_cell_below hbu1 hHeld.1, pw_cell_below hbu1 hHeld.2.1, pw_cell_below hbu1 hHeld.2.2.1, pw_cell_below hbu1 hHeld.2.2.2.1, pw_cell_below hbu1 hHeld.2.2.2.2.1, pw_cell_below hbu1 hHeld.2.2.2.2.2⟩ (fun hHeld => ?_)
              clear hK K
              refine norm_ (a' := ?_) ?_ ?_
              rotate_left
              · show Act.put _ (some 103) _ = _
                simp only [Act.put, List.setIfInBounds_toArray, List.set_cons_zero, List.set_cons_succ, i64_w, i32_w]
                rfl
              refine pure_ (i := 9) (N := some 104) (v := ?_) (a' := ?_) #[true, true, true, true, true, true, true, true, true, true] rfl rfl (by kernel_rfl) (fun _ _ _ h => h) (Or.inl ⟨by rfl, ?_⟩) ?_ ?_
              rotate_left
              · intro w'
                go_simp
                with_reducible rfl
              rotate_left
              · simp only [Act.put, List.setIfInBounds_toArray, List.set_cons_zero, List.set_cons_succ, i64_w, i32_w]
                rfl
              refine done_ (by kernel_rfl) ?_
              go_wp2_with fail
              go_roundw
              case rel => exact ⟨j + 1, by go_num, by omega, HU1, HV1⟩
              case measure => simp [intOf]; omega
            · have j2 : decide ((j : Int) < (k : Int)) = false := decide_eq_false (by omega)
              have HLN := Lib.hid (show rest.length ≤ 1000 by have := HO6.out.len; omega)
              obtain ⟨z, hz⟩ : ∃ z, ix rest 0 = z := ⟨_, rfl⟩
              obtain ⟨b, hb⟩ : ∃ b, decide (0 < rest.length) = b := ⟨_, rfl⟩
              obtain ⟨mm, hm⟩ : ∃ mm, rest.length = mm := ⟨_, rfl⟩
              have HZ := Lib.hid hz
              have HBB := Lib.hid hb
              have HM := Lib.hid hm
              clear hz hb hm
              have HZ2 := Lib.hid (show ix (L.drop m) 0 = z from (HO6.out.twin.first HO6.out.row.heap).trans HZ.out)
              have HLL := Lib.hid (show (L.drop m).length = mm from HO6.out.twin.len.trans HM.out)
              have HBB2 := Lib.hid (show decide (0 < (L.drop m).length) = b by rw [HO6.out.twin.len]; exact HBB.out)
              go_wp2_with fail
              refine (first_m HO6.out.row HLN.out HZ.out HBB.out).mono ?_
              rintro e v6 ⟨rfl, hb⟩
              have HT6 := Lib.hid (HO6.out.below hb)
              clear hb
              go_wp2_with fail
              obtain ⟨v7, hv7⟩ : ∃ v7, v6.alloc (.cells #[.int .i64 z.1, .int .u32 z.2.1, .int .u64 z.2.2] 55) = v7 := ⟨_, rfl⟩
              have HF7 := Lib.hid (show v7.heap[v6.heap.size]? = some (.cells #[.int .i64 z.1, .int .u32 z.2.1, .int .u64 z.2.2] 55 (0, 0)) by rw [← hv7]; exact blk_new v6 _)
              have HT7 := Lib.hid (HT6.out.below (show Below v6.heap.size v6 v7 by rw [← hv7]; exact below_alloc (Below.refl _ _) _))
              rw [hv7]
              clear hv7
              obtain ⟨F, hF⟩ : ∃ F, v6.heap.size = F := ⟨_, rfl⟩
              rw [hF] at HF7
              rw [hF]
              clear hF
              refine (rfirst_m HT7.out.ref HZ2.out HBB2.out).mono ?_
              rintro e v8 ⟨rfl, hb⟩
              have HT8 := Lib.hid (HT7.out.below hb)
              have HF8 := Lib.hid (blk_below HF7.out hb)
              clear hb
              go_wp2_with fail
              obtain ⟨v9, hv9⟩ : ∃ v9, v8.alloc (.cells #[.int .i64 z.1, .int .u32 z.2.1, .int .u64 z.2.2] 56) = v9 := ⟨_, rfl⟩
              have hb9 : Below v8.heap.size v8 v9 := by rw [← hv9]; exact below_alloc (Below.refl _ _) _
              have HG9 := Lib.hid (show v9.heap[v8.heap.size]? = some (.cells #[.int .i64 z.1, .int .u32 z.2.1, .int .u64 z.2.2] 56 (0, 0)) by rw [← hv9]; exact blk_new v8 _)
              have HT9 := Lib.hid (HT8.out.below hb9)
              have HF9 := Lib.hid (blk_below HF8.out hb9)
              rw [hv9]
              clear hv9 hb9
              obtain ⟨G, hG⟩ : ∃ G, v8.heap.size = G := ⟨_, rfl⟩
              rw [hG] at HG9
              rw [hG]
              clear hG
              have HT9d := Lib.hid (HT9.out.below (Below.drew (Below.refl _ _)))
              have qc := cell_of_row _ _ 0 _ _ _ HT9d.out.ref.box
              rw [HLL.out] at qc
              have f0 := pw_cell_below (Below.drew (Below.refl _ _)) (cell_of_row _ _ 0 _ _ _ HF9.out)
              have f1 := pw_cell_below (Below.drew (Below.refl _ _)) (cell_of_row _ _ 1 _ _ _ HF9.out)
              have f2 := pw_cell_below (Below.drew (Below.refl _ _)) (cell_of_row _ _ 2 _ _ _ HF9.out)
              have g0 := pw_cell_below (Below.drew (Below.refl _ _)) (cell_of_row _ _ 0 _ _ _ HG9.out)
              have g1 := pw_cell_below (Below.drew (Below.refl _ _)) (cell_of_row _ _ 1 _ _ _ HG9.out)
              have g2 := pw_cell_below (Below.drew (Below.refl _ _)) (cell_of_row _ _ 2 _ _ _ HG9.out)
              have hbn : (b != b) = false := bne_self_eq_false _
              have hmn : ((mm : Int) != (mm : Int)) = false := bne_self_eq_false _
              refine start_ (n := 19) (S := fun w' => w'.cell? ⟨F, 0, none⟩ = some (.int .i64 z.1) ∧ w'.cell? ⟨F, 1, none⟩ = some (.int .u32 z.2.1) ∧ w'.cell? ⟨F, 2, none⟩ = some (.int .u64 z.2.2) ∧ w'.cell? ⟨G, 0, none⟩ = some (.int .i64 z.1) ∧ w'.cell? ⟨G, 1, none⟩ = some (.int .u32 z.2.1) ∧ w'.cell? ⟨G, 2, none⟩ = some (.int .u64 z.2.2) ∧ w'.cell? ⟨Q, 0, none⟩ = some (.slice A2 mm c2)) (ds := []) #[false, false, false, false, false, false, false, false, false, false, false, false, false, false, false, false, false, false, false] (by kernel_rfl) rfl rfl ⟨f0, f1, f2, g0, g1, g2, qc⟩ (fun hHeld => ?_)
              refine take_ (i := 0) (N := some 115) (v := ?_) (a' := ?_) #[true, false, false, false, false, false, false, false, false, false, false, false, false, false, false, false, false, false, false] rfl rfl (by kernel_rfl) (fun _ _ _ h => h) (Or.inl ⟨by rfl, ?_⟩) hHeld ?_ ?_
              rotate_left
              · rintro w' ⟨s0, s1, s2, s3, s4, s5, s6⟩
                go_simp
                with_reducible rfl
              rotate_left
              · simp only [Act.put, List.setIfInBounds_toArray, List.set_cons_zero, List.set_cons_succ, i64_w, i32_w]
                rfl
              refine take_ (i := 1) (N := some 116) (v := ?_) (a' := ?_) #[true, true, false, false, false, false, false, false, false, false, false, false, false, false, false, false, false, false, false] rfl rfl (by kernel_rfl) (fun _ _ _ h => h) (Or.inl ⟨by rfl, ?_⟩) hHeld ?_ ?_
              rotate_left
              · rintro w' ⟨s0, s1, s2, s3, s4, s5, s6⟩
                go_simp
                with_reducible rfl
              rotate_left
              · simp only [Act.put, List.setIfInBounds_toArray, List.set_cons_zero, List.set_cons_succ, i64_w, i32_w]
                rfl
              refine one_ (i := 2) (N := some 117) #[true, true, true, false, false, false, false, false, false, false, false, false, false, false, false, false, false, false, false] rfl rfl (by kernel_rfl) (by decide) (fun K hK => ?_)
              refine goes_ Try.func21 (by kernel_rfl) rfl #[.agg #[.int .i64 z.1, .int .u32 z.2.1, .int .u64 z.2.2], .agg #[.int .i64 z.1, .int .u32 z.2.1, .int .u64 z.2.2]] (by rfl) rfl rfl (by simp only [List.map_toArray, List.map_cons, List.map_nil]; rfl) ?_
              with_reducible refine (same_calls z _).mono ?_
              rintro e u1 ⟨rfl, hbu1⟩
              refine ⟨_, rfl, ?_⟩
              have HU1 := Lib.hid (HT9d.out.below hbu1)
              refine hK.out _ _ ⟨pw_cell_below hbu1 hHeld.1, pw_cell_below hbu1 hHeld.2.1, pw_cell_below hbu1 hHeld.2.2.1, pw_cell_below hbu1 hHeld.2.2.2.1, pw_cell_below hbu1 hHeld.2.2.2.2.1, pw_cell_below hbu1 hHeld.2.2.2.2.2.1, pw_cell_below hbu1 hHeld.2.2.2.2.2.2⟩ (fun hHeld => ?_)
              clear hK K
              refine norm_ (a' := ?_) ?_ ?_
              rotate_left
              · show Act.put _ (some 117) _ = _
                simp only [Act.put, List.setIfInBounds_toArray, List.set_cons_zero, List.set_cons_succ, i64_w, i32_w]
                rfl
              refine pure_ (i := 3) (N := some 118) (v := ?_) (a' := ?_) #[true, true, true, true, false, false, false, false, false, false, false, false, false, false, false, false, false, false, false] rfl rfl (by kernel_rfl) (fun _ _ _ h => h) (Or.inl ⟨by rfl, ?_⟩) ?_ ?_
              rotate_left
              · intro w'
                go_simp
                with_reducible rfl
              rotate_left
              · simp only [Act.put, List.setIfInBounds_toArray, List.set_cons_zero, List.set_cons_succ, i64_w, i32_w]
                rfl
              refine pure_ (i := 4) (N := some 119) (v := ?_) (a' := ?_) #[true, true, true, true, true, false, false, false, false, false, false, false, false, false, false, false, false, false, false] rfl rfl (by kernel_rfl) (fun _ _ _ h => h) (Or.inl ⟨by rfl, ?_⟩) ?_ ?_
              rotate_left
              · intro w'
                go_simp
                with_reducible rfl
              rotate_left
              · simp only [Act.put, List.setIfInBounds_toArray, List.set_cons_zero, List.set_cons_succ, i64_w, i32_w]
                rfl
              refine pure_ (i := 5) (N := some 120) (v := ?_) (a' := ?_) #[true, true, true, true, true, true, false, false, false, false, false, false, false, false, false, false, false, false, false] rfl rfl (by kernel_rfl) (fun _ _ _ h => h) (Or.inl ⟨by rfl, ?_⟩) ?_ ?_
              rotate_left
              · intro w'
                go_simp
                with_reducible rfl
              rotate_left
              · simp only [Act.put, List.setIfInBounds_toArray, List.set_cons_zero, List.set_cons_succ, i64_w, i32_w]
                rfl
              refine pure_ (i := 6) (N := some 121) (v := ?_) (a' := ?_) #[true, true, true, true, true, true, true, false, false, false, false, false, false, false, false, false, false, false, false] rfl rfl (by kernel_rfl) (fun _ _ _ h => h) (Or.inl ⟨by rfl, ?_⟩) ?_ ?_
              rotate_left
              · intro w'
                go_simp
                with_reducible rfl
              rotate_left
              · simp only [Act.put, List.setIfInBounds_toArray, List.set_cons_zero, List.set_cons_succ, i64_w, i32_w]
                rfl
              refine pure_ (i := 7) (N := some 122) (v := ?_) (a' := ?_) #[true, true, true, true, true, true, true, true, false, false, false, false, false, false, false, false, false, false, false] rfl rfl (by kernel_rfl) (fun _ _ _ h => h) (Or.inl ⟨by rfl, ?_⟩) ?_ ?_
              rotate_left
              · intro w'
                go_simp
                with_reducible rfl
              rotate_left
              · simp only [Act.put, List.setIfInBounds_toArray, List.set_cons_zero, List.set_cons_succ, i64_w, i32_w]
                rfl
              refine pure_ (i := 8) (N := some 123) (v := ?_) (a' := ?_) #[true, true, true, true, true, true, true, true, true, false, false, false, false, false, false, false, false, false, false] rfl rfl (by kernel_rfl) (fun _ _ _ h => h) (Or.inl ⟨by rfl, ?_⟩) ?_ ?_
              rotate_left
              · intro w'
                go_simp
                with_reducible rfl
              rotate_left
              · simp only [Act.put, List.setIfInBounds_toArray, List.set_cons_zero, List.set_cons_succ, i64_w, i32_w]
                rfl
              refine pure_ (i := 9) (N := some 124) (v := ?_) (a' := ?_) #[true, true, true, true, true, true, true, true, true, true, false, false, false, false, false, false, false, false, false] rfl rfl (by kernel_rfl) (fun _ _ _ h => h) (Or.inl ⟨by rfl, ?_⟩) ?_ ?_
              rotate_left
              · intro w'
                go_simp
                with_reducible rfl
              rotate_left
              · simp only [Act.put, List.setIfInBounds_toArray, List.set_cons_zero, List.set_cons_succ, i64_w, i32_w]
                rfl
              refine pure_ (i := 10) (N := some 125) (v := ?_) (a' := ?_) #[true, true, true, true, true, true, true, true, true, true, true, false, false, false, false, false, false, false, false] rfl rfl (by kernel_rfl) (fun _ _ _ h => h) (Or.inl ⟨by rfl, ?_⟩) ?_ ?_
              rotate_left
              · intro w'
                go_simp
                with_reducible rfl
              rotate_left
              · simp only [Act.put, List.setIfInBounds_toArray, List.set_cons_zero, List.set_cons_succ, i64_w, i32_w]
                rfl
              refine pure_ (i := 12) (N := some 127) (v := ?_) (a' := ?_) #[true, true, true, true, true, true, true, true, true, true, true, false, true, false, false, false, false, false, false] rfl rfl (by kernel_rfl) (fun _ _ _ h => h) (Or.inl ⟨by rfl, ?_⟩) ?_ ?_
              rotate_left
              · intro w'
                go_simp
                with_reducible rfl
              rotate_left
              · simp only [Act.put, List.setIfInBounds_toArray, List.set_cons_zero, List.set_cons_succ, i64_w, i32_w]
                rfl
              refine pure_ (i := 13) (N := some 128) (v := ?_) (a' := ?_) #[true, true, true, true, true, true, true, true, true, true, true, false, true, true, false, false, false, false, false] rfl rfl (by kernel_rfl) (fun _ _ _ h => h) (Or.inl ⟨by rfl, ?_⟩) ?_ ?_
              rotate_left
              · intro w'
                go_simp
                with_reducible rfl
              rotate_left
              · simp only [Act.put, List.setIfInBounds_toArray, List.set_cons_zero, List.set_cons_succ, i64_w, i32_w]
                rfl
              refine pure_ (i := 14) (N := some 129) (v := ?_) (a' := ?_) #[true, true, true, true, true, true, true, true, true, true, true, false, true, true, true, false, false, false, false] rfl rfl (by kernel_rfl) (fun _ _ _ h => h) (Or.inl ⟨by rfl, ?_⟩) ?_ ?_
              rotate_left
              · intro w'
                go_simp
                with_reducible rfl
              rotate_left
              · simp only [Act.put, List.setIfInBounds_toArray, List.set_cons_zero, List.set_cons_succ, i64_w, i32_w]
                rfl
              refine take_ (i := 15) (N := some 130) (v := ?_) (a' := ?_) #[true, true, true, true, true, true, true, true, true, true, true, false, true, true, true, true, false, false, false] rfl rfl (by kernel_rfl) (fun _ _ _ h => h) (Or.inl ⟨by rfl, ?_⟩) hHeld ?_ ?_
              rotate_left
              · rintro w' ⟨s0, s1, s2, s3, s4, s5, s6⟩
                go_simp
                with_reducible rfl
              rotate_left
              · simp only [Act.put, List.setIfInBounds_toArray, List.set_cons_zero, List.set_cons_succ, i64_w, i32_w]
                rfl
              refine pure_ (i := 16) (N := some 131) (v := ?_) (a' := ?_) #[true, true, true, true, true, true, true, true, true, true, true, false, true, true, true, true, true, false, false] rfl rfl (by kernel_rfl) (fun _ _ _ h => h) (Or.inl ⟨by rfl, ?_⟩) ?_ ?_
              rotate_left
              · intro w'
                go_simp
                with_reducible rfl
              rotate_left
              · simp only [Act.put, List.setIfInBounds_toArray, List.set_cons_zero, List.set_cons_succ, i64_w, i32_w]
                rfl
              refine one_ (i := 11) (N := some 126) #[true, true, true, true, true, true, true, true, true, true, true, true, true, true, true, true, true, false, false] rfl rfl (by kernel_rfl) (by decide) (fun K hK => ?_)
              refine goes_ Try.func26 (by kernel_rfl) rfl #[.pointer (some ⟨r, 0, none⟩)] (by rfl) rfl rfl (by simp only [List.map_toArray, List.map_cons, List.map_nil]; rfl) ?_
              with_reducible refine (rlen_m HU1.out.row HLN.out HM.out).mono ?_
              rintro e u2 ⟨rfl, hbu2⟩
              refine ⟨_, rfl, ?_⟩
              have HU2 := Lib.hid (HU1.out.below hbu2)
              refine hK.out _ _ ⟨pw_cell_below hbu2 hHeld.1, pw_cell_below hbu2 hHeld.2.1, pw_cell_below hbu2 hHeld.2.2.1, pw_cell_below hbu2 hHeld.2.2.2.1, pw_cell_below hbu2 hHeld.2.2.2.2.1, pw_cell_below hbu2 hHeld.2.2.2.2.2.1, pw_cell_below hbu2 hHeld.2.2.2.2.2.2⟩ (fun hHeld => ?_)
              clear hK K
              refine norm_ (a' := ?_) ?_ ?_
              rotate_left
              · show Act.put _ (some 126) _ = _
                simp only [Act.put, List.setIfInBounds_toArray, List.set_cons_zero, List.set_cons_succ, i64_w, i32_w]
                rfl
              refine pure_ (i := 17) (N := some 132) (v := ?_) (a' := ?_) #[true, true, true, true, true, true, true, true, true, true, true, true, true, true, true, true, true, true, false] rfl rfl (by kernel_rfl) (fun _ _ _ h => h) (Or.inl ⟨by rfl, ?_⟩) ?_ ?_
              rotate_left
              · intro w'
                go_simp
                with_reducible rfl
              rotate_left
              · simp only [Act.put, List.setIfInBounds_toArray, List.set_cons_zero, List.set_cons_succ, i64_w, i32_w]
                rfl
              refine pure_ (i := 18) (N := some 133) (v := ?_) (a' := ?_) #[true, true, true, true, true, true, true, true, true, true, true, true, true, true, true, true, true, true, true] rfl rfl (by kernel_rfl) (fun _ _ _ h => h) (Or.inl ⟨by rfl, ?_⟩) ?_ ?_
              rotate_left
              · intro w'
                go_simp
                with_reducible rfl
              rotate_left
              · simp only [Act.put, List.setIfInBounds_toArray, List.set_cons_zero, List.set_cons_succ, i64_w, i32_w]
                rfl
              refine done_ (by kernel_rfl) ?_
              go_wp2_with fail
              go_roundw
              case rel => exact ⟨i + 1, s5, rest, (L.drop m), A2, c2, by go_num, by omega, by omega, HU2⟩
              case measure => simp [intOf]; omega
        · have g3 : (x.1.tmod 5 == 3) = false := beq_eq_false_iff_ne.2 h3
          have g4 : (x.1.tmod 5 == 4) = false := beq_eq_false_iff_ne.2 h4
          clear h3 h4
          go_wp2_with fail
          obtain ⟨w4, hw4⟩ : ∃ w4, wr.alloc (.cells #[.int .u8 x.1, .int .i8 x.2.1, .int .u32 x.2.2.1, .int .u64 x.2.2.2] 48) = w4 := ⟨_, rfl⟩
          rw [hw4]
          have hb4 : Below wr.heap.size wr w4 := by rw [← hw4]; exact below_alloc (Below.refl _ _) _
          have HX4 := Lib.hid (show w4.heap[wr.heap.size]? = some (.cells #[.int .u8 x.1, .int .i8 x.2.1, .int .u32 x.2.2.1, .int .u64 x.2.2.2] 48 (0, 0)) by rw [← hw4]; exact blk_new wr _)
          have HO4 := Lib.hid (HO.out.below hb4)
          clear hw4 hb4 x0 x1 x2 x3 HO
          obtain ⟨P, hP⟩ : ∃ P, wr.heap.size = P := ⟨_, rfl⟩
          rw [hP] at HX4
          rw [hP]
          clear hP
          have y0 : w4.cell? ⟨P, 0, none⟩ = some (.int .u8 x.1) := cell_of_row _ _ 0 _ _ _ HX4.out
          have hlen : xs.length ≤ 900 := by have := HO4.out.len; omega
          have HLZ := Lib.hid (show okLz (wrap64 x.2.1, x.2.2.1, x.2.2.2) from ⟨HKE.out.1, HKE.out.2, HOK.out.2.2.2⟩)
          have y1 := cell_of_row _ _ 1 _ _ _ HX4.out
          have y2 := cell_of_row _ _ 2 _ _ _ HX4.out
          have y3 := cell_of_row _ _ 3 _ _ _ HX4.out
          have HOD := Lib.hid (HO4.out.below (Below.drew (Below.refl _ _)))
          have HPD := Lib.hid (show w4.drew.heap[P]? = some (.cells #[.int .u8 x.1, .int .i8 x.2.1, .int .u32 x.2.2.1, .int .u64 x.2.2.2] 48 (0, 0)) from HX4.out)
          refine start_ (n := 21) (S := fun w' => w'.cell? ⟨P, 1, none⟩ = some (.int .i8 x.2.1) ∧ w'.cell? ⟨P, 2, none⟩ = some (.int .u32 x.2.2.1) ∧ w'.cell? ⟨P, 3, none⟩ = some (.int .u64 x.2.2.2)) (ds := []) #[false, false, false, false, false, false, false, false, false, false, false, false, false, false, false, false, false, false, false, false, false] (by kernel_rfl) rfl rfl ⟨pw_cell_below (Below.drew (Below.refl _ _)) y1, pw_cell_below (Below.drew (Below.refl _ _)) y2, pw_cell_below (Below.drew (Below.refl _ _)) y3⟩ (fun hHeld => ?_)
          refine pure_ (i := 0) (N := some 36) (v := ?_) (a' := ?_) #[true, false, false, false, false, false, false, false, false, false, false, false, false, false, false, false, false, false, false, false, false] rfl rfl (by kernel_rfl) (fun _ _ _ h => h) (Or.inl ⟨by rfl, ?_⟩) ?_ ?_
          rotate_left
          · intro w'
            go_simp
            with_reducible rfl
          rotate_left
          · simp only [Act.put, List.setIfInBounds_toArray, List.set_cons_zero, List.set_cons_succ, i64_w, i32_w]
            rfl
          refine pure_ (i := 1) (N := some 37) (v := ?_) (a' := ?_) #[true, true, false, false, false, false, false, false, false, false, false, false, false, false, false, false, false, false, false, false, false] rfl rfl (by kernel_rfl) (fun _ _ _ h => h) (Or.inl ⟨by rfl, ?_⟩) ?_ ?_
          rotate_left
          · intro w'
            go_simp
            with_reducible rfl
          rotate_left
          · simp only [Act.put, List.setIfInBounds_toArray, List.set_cons_zero, List.set_cons_succ, i64_w, i32_w]
            rfl
          refine pure_ (i := 4) (N := some 40) (v := ?_) (a' := ?_) #[true, true, false, false, true, false, false, false, false, false, false, false, false, false, false, false, false, false, false, false, false] rfl rfl (by kernel_rfl) (fun _ _ _ h => h) (Or.inl ⟨by rfl, ?_⟩) ?_ ?_
          rotate_left
          · intro w'
            go_simp
            with_reducible rfl
          rotate_left
          · simp only [Act.put, List.setIfInBounds_toArray, List.set_cons_zero, List.set_cons_succ, i64_w, i32_w]
            rfl
          refine pure_ (i := 6) (N := some 42) (v := ?_) (a' := ?_) #[true, true, false, false, true, false, true, false, false, false, false, false, false, false, false, false, false, false, false, false, false] rfl rfl (by kernel_rfl) (fun _ _ _ h => h) (Or.inl ⟨by rfl, ?_⟩) ?_ ?_
          rotate_left
          · intro w'
            go_simp
            with_reducible rfl
          rotate_left
          · simp only [Act.put, List.setIfInBounds_toArray, List.set_cons_zero, List.set_cons_succ, i64_w, i32_w]
            rfl
          refine pure_ (i := 10) (N := some 46) (v := ?_) (a' := ?_) #[true, true, false, false, true, false, true, false, false, false, true, false, false, false, false, false, false, false, false, false, false] rfl rfl (by kernel_rfl) (fun _ _ _ h => h) (Or.inl ⟨by rfl, ?_⟩) ?_ ?_
          rotate_left
          · intro w'
            go_simp
            with_reducible rfl
          rotate_left
          · simp only [Act.put, List.setIfInBounds_toArray, List.set_cons_zero, List.set_cons_succ, i64_w, i32_w]
            rfl
          refine pure_ (i := 11) (N := some 47) (v := ?_) (a' := ?_) #[true, true, false, false, true, false, true, false, false, false, true, true, false, false, false, false, false, false, false, false, false] rfl rfl (by kernel_rfl) (fun _ _ _ h => h) (Or.inl ⟨by rfl, ?_⟩) ?_ ?_
          rotate_left
          · intro w'
            go_simp
            with_reducible rfl
          rotate_left
          · simp only [Act.put, List.setIfInBounds_toArray, List.set_cons_zero, List.set_cons_succ, i64_w, i32_w]
            rfl
          refine pure_ (i := 14) (N := some 50) (v := ?_) (a' := ?_) #[true, true, false, false, true, false, true, false, false, false, true, true, false, false, true, false, false, false, false, false, false] rfl rfl (by kernel_rfl) (fun _ _ _ h => h) (Or.inl ⟨by rfl, ?_⟩) ?_ ?_
          rotate_left
          · intro w'
            go_simp
            with_reducible rfl
          rotate_left
          · simp only [Act.put, List.setIfInBounds_toArray, List.set_cons_zero, List.set_cons_succ, i64_w, i32_w]
            rfl
          refine pure_ (i := 16) (N := some 52) (v := ?_) (a' := ?_) #[true, true, false, false, true, false, true, false, false, false, true, true, false, false, true, false, true, false, false, false, false] rfl rfl (by kernel_rfl) (fun _ _ _ h => h) (Or.inl ⟨by rfl, ?_⟩) ?_ ?_
          rotate_left
          · intro w'
            go_simp
            with_reducible rfl
          rotate_left
          · simp only [Act.put, List.setIfInBounds_toArray, List.set_cons_zero, List.set_cons_succ, i64_w, i32_w]
            rfl
          refine take_ (i := 2) (N := some 38) (v := ?_) (a' := ?_) #[true, true, true, false, true, false, true, false, false, false, true, true, false, false, true, false, true, false, false, false, false] rfl rfl (by kernel_rfl) (fun _ _ _ h => h) (Or.inl ⟨by rfl, ?_⟩) hHeld ?_ ?_
          rotate_left
          · rintro w' ⟨s0, s1, s2⟩
            go_simp
            with_reducible rfl
          rotate_left
          · simp only [Act.put, List.setIfInBounds_toArray, List.set_cons_zero, List.set_cons_succ, i64_w, i32_w]
            rfl
          refine pure_ (i := 3) (N := some 39) (v := ?_) (a' := ?_) #[true, true, true, true, true, false, true, false, false, false, true, true, false, false, true, false, true, false, false, false, false] rfl rfl (by kernel_rfl) (fun _ _ _ h => h) (Or.inl ⟨by rfl, ?_⟩) ?_ ?_
          rotate_left
          · intro w'
            go_simp
            with_reducible rfl
          rotate_left
          · simp only [Act.put, List.setIfInBounds_toArray, List.set_cons_zero, List.set_cons_succ, i64_w, i32_w]
            rfl
          refine take_ (i := 5) (N := some 41) (v := ?_) (a' := ?_) #[true, true, true, true, true, true, true, false, false, false, true, true, false, false, true, false, true, false, false, false, false] rfl rfl (by kernel_rfl) (fun _ _ _ h => h) (Or.inl ⟨by rfl, ?_⟩) hHeld ?_ ?_
          rotate_left
          · rintro w' ⟨s0, s1, s2⟩
            go_simp
            with_reducible rfl
          rotate_left
          · simp only [Act.put, List.setIfInBounds_toArray, List.set_cons_zero, List.set_cons_succ, i64_w, i32_w]
            rfl
          refine take_ (i := 7) (N := some 43) (v := ?_) (a' := ?_) #[true, true, true, true, true, true, true, true, false, false, true, true, false, false, true, false, true, false, false, false, false] rfl rfl (by kernel_rfl) (fun _ _ _ h => h) (Or.inl ⟨by rfl, ?_⟩) hHeld ?_ ?_
          rotate_left
          · rintro w' ⟨s0, s1, s2⟩
            go_simp
            with_reducible rfl
          rotate_left
          · simp only [Act.put, List.setIfInBounds_toArray, List.set_cons_zero, List.set_cons_succ, i64_w, i32_w]
            rfl
          refine pure_ (i := 8) (N := some 44) (v := ?_) (a' := ?_) #[true, true, true, true, true, true, true, true, true, false, true, true, false, false, true, false, true, false, false, false, false] rfl rfl (by kernel_rfl) (fun _ _ _ h => h) (Or.inl ⟨by rfl, ?_⟩) ?_ ?_
          rotate_left
          · intro w'
            go_simp
            with_reducible rfl
          rotate_left
          · simp only [Act.put, List.setIfInBounds_toArray, List.set_cons_zero, List.set_cons_succ, i64_w, i32_w]
            rfl
          refine take_ (i := 12) (N := some 48) (v := ?_) (a' := ?_) #[true, true, true, true, true, true, true, true, true, false, true, true, true, false, true, false, true, false, false, false, false] rfl rfl (by kernel_rfl) (fun _ _ _ h => h) (Or.inl ⟨by rfl, ?_⟩) hHeld ?_ ?_
          rotate_left
          · rintro w' ⟨s0, s1, s2⟩
            go_simp
            with_reducible rfl
          rotate_left
          · simp only [Act.put, List.setIfInBounds_toArray, List.set_cons_zero, List.set_cons_succ, i64_w, i32_w]
            rfl
          refine pure_ (i := 13) (N := some 49) (v := ?_) (a' := ?_) #[true, true, true, true, true, true, true, true, true, false, true, true, true, true, true, false, true, false, false, false, false] rfl rfl (by kernel_rfl) (fun _ _ _ h => h) (Or.inl ⟨by rfl, ?_⟩) ?_ ?_
          rotate_left
          · intro w'
            go_simp
            with_reducible rfl
          rotate_left
          · simp only [Act.put, List.setIfInBounds_toArray, List.set_cons_zero, List.set_cons_succ, i64_w, i32_w]
            rfl
          refine take_ (i := 15) (N := some 51) (v := ?_) (a' := ?_) #[true, true, true, true, true, true, true, true, true, false, true, true, true, true, true, true, true, false, false, false, false] rfl rfl (by kernel_rfl) (fun _ _ _ h => h) (Or.inl ⟨by rfl, ?_⟩) hHeld ?_ ?_
          rotate_left
          · rintro w' ⟨s0, s1, s2⟩
            go_simp
            with_reducible rfl
          rotate_left
          · simp only [Act.put, List.setIfInBounds_toArray, List.set_cons_zero, List.set_cons_succ, i64_w, i32_w]
            rfl
          refine take_ (i := 17) (N := some 53) (v := ?_) (a' := ?_) #[true, true, true, true, true, true, true, true, true, false, true, true, true, true, true, true, true, true, false, false, false] rfl rfl (by kernel_rfl) (fun _ _ _ h => h) (Or.inl ⟨by rfl, ?_⟩) hHeld ?_ ?_
          rotate_left
          · rintro w' ⟨s0, s1, s2⟩
            go_simp
            with_reducible rfl
          rotate_left
          · simp only [Act.put, List.setIfInBounds_toArray, List.set_cons_zero, List.set_cons_succ, i64_w, i32_w]
            rfl
          refine pure_ (i := 18) (N := some 54) (v := ?_) (a' := ?_) #[true, true, true, true, true, true, true, true, true, false, true, true, true, true, true, true, true, true, true, false, false] rfl rfl (by kernel_rfl) (fun _ _ _ h => h) (Or.inl ⟨by rfl, ?_⟩) ?_ ?_
          rotate_left
          · intro w'
            go_simp
            with_reducible rfl
          rotate_left
          · simp only [Act.put, List.setIfInBounds_toArray, List.set_cons_zero, List.set_cons_succ, i64_w, i32_w]
            rfl
          refine one_ (i := 9) (N := some 45) #[true, true, true, true, true, true, true, true, true, true, true, true, true, true, true, true, true, true, true, false, false] rfl rfl (by kernel_rfl) (by decide) (fun K hK => ?_)
          refine goes_ Try.func22 (by kernel_rfl) rfl #[.pointer (some ⟨r, 0, none⟩), .agg #[.int .i64 (wrap64 x.2.1), .int .u32 x.2.2.1, .int .u64 x.2.2.2]] (by rfl) rfl rfl (by simp only [List.map_toArray, List.map_cons, List.map_nil]; rfl) ?_
          with_reducible refine (add_any HOD.out.row (by omega) (wrap64 x.2.1) x.2.2.1 x.2.2.2 HLZ.out).mono ?_
          rintro e w5 ⟨p1, rfl, zs, hrel1, ho1⟩
          refine ⟨_, rfl, ?_⟩
          have HRL1 := Lib.hid hrel1
          have HP5 := Lib.hid (HOD.out.keeps ho1.off HPD.out (by decide) (by decide))
          obtain ⟨s5, ys, hp5, hm5⟩ := HOD.out.mid ho1
          have HM5 := Lib.hid hm5
          have HPM5 := Lib.hid hp5
          have c51 := cell_of_row _ _ 1 _ _ _ HP5.out
          have c52 := cell_of_row _ _ 2 _ _ _ HP5.out
          have c53 := cell_of_row _ _ 3 _ _ _ HP5.out
          clear ho1 hp5 hm5 hrel1
          refine hK.out _ _ ⟨c51, c52, c53⟩ (fun hHeld => ?_)
          clear hK K
          refine norm_ (a' := ?_) ?_ ?_
          rotate_left
          · show Act.put _ (some 45) _ = _
            simp only [Act.put, List.setIfInBounds_toArray, List.set_cons_zero, List.set_cons_succ, i64_w, i32_w]
            rfl
          refine one_ (i := 19) (N := some 55) #[true, true, true, true, true, true, true, true, true, true, true, true, true, true, true, true, true, true, true, true, false] rfl rfl (by kernel_rfl) (by decide) (fun K hK => ?_)
          refine goes_ Try.func23 (by kernel_rfl) rfl #[.pointer (some ⟨Q, 0, none⟩), .agg #[.int .i64 (wrap64 x.2.1), .int .u32 x.2.2.1, .int .u64 x.2.2.2]] (by rfl) rfl rfl (by simp only [List.map_toArray, List.map_cons, List.map_nil]; rfl) ?_
          with_reducible refine (radd_any HM5.out.ref (by have h1 := HO4.out.twin.len; omega) (wrap64 x.2.1) x.2.2.1 x.2.2.2).mono ?_
          rintro e w6 ⟨p2, rfl, L2, A2, c2, hrel2, href2, ho2⟩
          refine ⟨_, rfl, ?_⟩
          have HP6 := Lib.hid (off_keeps HM5.out.ref.box ho2 HP5.out (by decide))
          have htw := HO4.out.twin.added HRL1.out hrel2
          have HP6E := Lib.hid htw.1
          have hpn : (p1 != p2) = false := by rw [htw.1]; exact bne_self_eq_false _
          have HO6 := Lib.hid (HM5.out.done href2 ho2 (htw.2.of_perm HPM5.out) (show ys.length ≤ i + 1 by have h1 := HRL1.out.len; have h2 := HPM5.out.length_eq; have h3 := HO4.out.len; omega))
          have c61 := cell_of_row _ _ 1 _ _ _ HP6.out
          have c62 := cell_of_row _ _ 2 _ _ _ HP6.out
          have c63 := cell_of_row _ _ 3 _ _ _ HP6.out
          clear hrel2 href2 ho2 htw
          refine hK.out _ _ ⟨c61, c62, c63⟩ (fun hHeld => ?_)
          clear hK K
          refine norm_ (a' := ?_) ?_ ?_
          rotate_left
          · show Act.put _ (some 55) _ = _
            simp only [Act.put, List.setIfInBounds_toArray, List.set_cons_zero, List.set_cons_succ, i64_w, i32_w]
            rfl
          refine pure_ (i := 20) (N := some 56) (v := ?_) (a' := ?_) #[true, true, true, true, true, true, true, true, true, true, true, true, true, true, true, true, true, true, true, true, true] rfl rfl (by kernel_rfl) (fun _ _ _ h => h) (Or.inl ⟨by rfl, ?_⟩) ?_ ?_
          rotate_left
          · intro w'
            go_simp
            with_reducible rfl
          rotate_left
          · simp only [Act.put, List.setIfInBounds_toArray, List.set_cons_zero, List.set_cons_succ, i64_w, i32_w]
            rfl
          refine done_ (by kernel_rfl) ?_
          have HLN := Lib.hid (show ys.length ≤ 1000 by have := HO6.out.len; omega)
          obtain ⟨z, hz⟩ : ∃ z, ix ys 0 = z := ⟨_, rfl⟩
          obtain ⟨b, hb⟩ : ∃ b, decide (0 < ys.length) = b := ⟨_, rfl⟩
          obtain ⟨m, hm⟩ : ∃ m, ys.length = m := ⟨_, rfl⟩
          have HZ := Lib.hid hz
          have HBB := Lib.hid hb
          have HM := Lib.hid hm
          clear hz hb hm
          have HZ2 := Lib.hid (show ix L2 0 = z from (HO6.out.twin.first HO6.out.row.heap).trans HZ.out)
          have HLL := Lib.hid (show L2.length = m from HO6.out.twin.len.trans HM.out)
          have HBB2 := Lib.hid (show decide (0 < L2.length) = b by rw [HO6.out.twin.len]; exact HBB.out)
          go_wp2_with fail
          refine (first_m HO6.out.row HLN.out HZ.out HBB.out).mono ?_
          rintro e v6 ⟨rfl, hb⟩
          have HT6 := Lib.hid (HO6.out.below hb)
          clear hb
          go_wp2_with fail
          obtain ⟨v7, hv7⟩ : ∃ v7, v6.alloc (.cells #[.int .i64 z.1, .int .u32 z.2.1, .int .u64 z.2.2] 55) = v7 := ⟨_, rfl⟩
          have HF7 := Lib.hid (show v7.heap[v6.heap.size]? = some (.cells #[.int .i64 z.1, .int .u32 z.2.1, .int .u64 z.2.2] 55 (0, 0)) by rw [← hv7]; exact blk_new v6 _)
          have HT7 := Lib.hid (HT6.out.below (show Below v6.heap.size v6 v7 by rw [← hv7]; exact below_alloc (Below.refl _ _) _))
          rw [hv7]
          clear hv7
          obtain ⟨F, hF⟩ : ∃ F, v6.heap.size = F := ⟨_, rfl⟩
          rw [hF] at HF7
          rw [hF]
          clear hF
          refine (rfirst_m HT7.out.ref HZ2.out HBB2.out).mono ?_
          rintro e v8 ⟨rfl, hb⟩
          have HT8 := Lib.hid (HT7.out.below hb)
          have HF8 := Lib.hid (blk_below HF7.out hb)
          clear hb
          go_wp2_with fail
          obtain ⟨v9, hv9⟩ : ∃ v9, v8.alloc (.cells #[.int .i64 z.1, .int .u32 z.2.1, .int .u64 z.2.2] 56) = v9 := ⟨_, rfl⟩
          have hb9 : Below v8.heap.size v8 v9 := by rw [← hv9]; exact below_alloc (Below.refl _ _) _
          have HG9 := Lib.hid (show v9.heap[v8.heap.size]? = some (.cells #[.int .i64 z.1, .int .u32 z.2.1, .int .u64 z.2.2] 56 (0, 0)) by rw [← hv9]; exact blk_new v8 _)
          have HT9 := Lib.hid (HT8.out.below hb9)
          have HF9 := Lib.hid (blk_below HF8.out hb9)
          rw [hv9]
          clear hv9 hb9
          obtain ⟨G, hG⟩ : ∃ G, v8.heap.size = G := ⟨_, rfl⟩
          rw [hG] at HG9
          rw [hG]
          clear hG
          have HT9d := Lib.hid (HT9.out.below (Below.drew (Below.refl _ _)))
          have qc := cell_of_row _ _ 0 _ _ _ HT9d.out.ref.box
          rw [HLL.out] at qc
          have f0 := pw_cell_below (Below.drew (Below.refl _ _)) (cell_of_row _ _ 0 _ _ _ HF9.out)
          have f1 := pw_cell_below (Below.drew (Below.refl _ _)) (cell_of_row _ _ 1 _ _ _ HF9.out)
          have f2 := pw_cell_below (Below.drew (Below.refl _ _)) (cell_of_row _ _ 2 _ _ _ HF9.out)
          have g0 := pw_cell_below (Below.drew (Below.refl _ _)) (cell_of_row _ _ 0 _ _ _ HG9.out)
          have g1 := pw_cell_below (Below.drew (Below.refl _ _)) (cell_of_row _ _ 1 _ _ _ HG9.out)
          have g2 := pw_cell_below (Below.drew (Below.refl _ _)) (cell_of_row _ _ 2 _ _ _ HG9.out)
          have hbn : (b != b) = false := bne_self_eq_false _
          have hmn : ((m : Int) != (m : Int)) = false := bne_self_eq_false _
          refine start_ (n := 19) (S := fun w' => w'.cell? ⟨F, 0, none⟩ = some (.int .i64 z.1) ∧ w'.cell? ⟨F, 1, none⟩ = some (.int .u32 z.2.1) ∧ w'.cell? ⟨F, 2, none⟩ = some (.int .u64 z.2.2) ∧ w'.cell? ⟨G, 0, none⟩ = some (.int .i64 z.1) ∧ w'.cell? ⟨G, 1, none⟩ = some (.int .u32 z.2.1) ∧ w'.cell? ⟨G, 2, none⟩ = some (.int .u64 z.2.2) ∧ w'.cell? ⟨Q, 0, none⟩ = some (.slice A2 m c2)) (ds := []) #[false, false, false, false, false, false, false, false, false, false, false, false, false, false, false, false, false, false, false] (by kernel_rfl) rfl rfl ⟨f0, f1, f2, g0, g1, g2, qc⟩ (fun hHeld => ?_)
          refine take_ (i := 0) (N := some 115) (v := ?_) (a' := ?_) #[true, false, false, false, false, false, false, false, false, false, false, false, false, false, false, false, false, false, false] rfl rfl (by kernel_rfl) (fun _ _ _ h => h) (Or.inl ⟨by rfl, ?_⟩) hHeld ?_ ?_
          rotate_left
          · rintro w' ⟨s0, s1, s2, s3, s4, s5, s6⟩
            go_simp
            with_reducible rfl
          rotate_left
          · simp only [Act.put, List.setIfInBounds_toArray, List.set_cons_zero, List.set_cons_succ, i64_w, i32_w]
            rfl
          refine take_ (i := 1) (N := some 116) (v := ?_) (a' := ?_) #[true, true, false, false, false, false, false, false, false, false, false, false, false, false, false, false, false, false, false] rfl rfl (by kernel_rfl) (fun _ _ _ h => h) (Or.inl ⟨by rfl, ?_⟩) hHeld ?_ ?_
          rotate_left
          · rintro w' ⟨s0, s1, s2, s3, s4, s5, s6⟩
            go_simp
            with_reducible rfl
          rotate_left
          · simp only [Act.put, List.setIfInBounds_toArray, List.set_cons_zero, List.set_cons_succ, i64_w, i32_w]
            rfl
          refine one_ (i := 2) (N := some 117) #[true, true, true, false, false, false, false, false, false, false, false, false, false, false, false, false, false, false, false] rfl rfl (by kernel_rfl) (by decide) (fun K hK => ?_)
          refine goes_ Try.func21 (by kernel_rfl) rfl #[.agg #[.int .i64 z.1, .int .u32 z.2.1, .int .u64 z.2.2], .agg #[.int .i64 z.1, .int .u32 z.2.1, .int .u64 z.2.2]] (by rfl) rfl rfl (by simp only [List.map_toArray, List.map_cons, List.map_nil]; rfl) ?_
          with_reducible refine (same_calls z _).mono ?_
          rintro e u1 ⟨rfl, hbu1⟩
          refine ⟨_, rfl, ?_⟩
          have HU1 := Lib.hid (HT9d.out.below hbu1)
          refine hK.out _ _ ⟨pw_cell_below hbu1 hHeld.1, pw_cell_below hbu1 hHeld.2.1, pw_cell_below hbu1 hHeld.2.2.1, pw_cell_below hbu1 hHeld.2.2.2.1, pw_cell_below hbu1 hHeld.2.2.2.2.1, pw_cell_below hbu1 hHeld.2.2.2.2.2.1, pw_cell_below hbu1 hHeld.2.2.2.2.2.2⟩ (fun hHeld => ?_)
          clear hK K
          refine norm_ (a' := ?_) ?_ ?_
          rotate_left
          · show Act.put _ (some 117) _ = _
            simp only [Act.put, List.setIfInBounds_toArray, List.set_cons_zero, List.set_cons_succ, i64_w, i32_w]
            rfl
          refine pure_ (i := 3) (N := some 118) (v := ?_) (a' := ?_) #[true, true, true, true, false, false, false, false, false, false, false, false, false, false, false, false, false, false, false] rfl rfl (by kernel_rfl) (fun _ _ _ h => h) (Or.inl ⟨by rfl, ?_⟩) ?_ ?_
          rotate_left
          · intro w'
            go_simp
            with_reducible rfl
          rotate_left
          · simp only [Act.put, List.setIfInBounds_toArray, List.set_cons_zero, List.set_cons_succ, i64_w, i32_w]
            rfl
          refine pure_ (i := 4) (N := some 119) (v := ?_) (a' := ?_) #[true, true, true, true, true, false, false, false, false, false, false, false, false, false, false, false, false, false, false] rfl rfl (by kernel_rfl) (fun _ _ _ h => h) (Or.inl ⟨by rfl, ?_⟩) ?_ ?_
          rotate_left
          · intro w'
            go_simp
            with_reducible rfl
          rotate_left
          · simp only [Act.put, List.setIfInBounds_toArray, List.set_cons_zero, List.set_cons_succ, i64_w, i32_w]
            rfl
          refine pure_ (i := 5) (N := some 120) (v := ?_) (a' := ?_) #[true, true, true, true, true, true, false, false, false, false, false, false, false, false, false, false, false, false, false] rfl rfl (by kernel_rfl) (fun _ _ _ h => h) (Or.inl ⟨by rfl, ?_⟩) ?_ ?_
          rotate_left
          · intro w'
            go_simp
            with_reducible rfl
          rotate_left
          · simp only [Act.put, List.setIfInBounds_toArray, List.set_cons_zero, List.set_cons_succ, i64_w, i32_w]
            rfl
          refine pure_ (i := 6) (N := some 121) (v := ?_) (a' := ?_) #[true, true, true, true, true, true, true, false, false, false, false, false, false, false, false, false, false, false, false] rfl rfl (by kernel_rfl) (fun _ _ _ h => h) (Or.inl ⟨by rfl, ?_⟩) ?_ ?_
          rotate_left
          · intro w'
            go_simp
            with_reducible rfl
          rotate_left
          · simp only [Act.put, List.setIfInBounds_toArray, List.set_cons_zero, List.set_cons_succ, i64_w, i32_w]
            rfl
          refine pure_ (i := 7) (N := some 122) (v := ?_) (a' := ?_) #[true, true, true, true, true, true, true, true, false, false, false, false, false, false, false, false, false, false, false] rfl rfl (by kernel_rfl) (fun _ _ _ h => h) (Or.inl ⟨by rfl, ?_⟩) ?_ ?_
          rotate_left
          · intro w'
            go_simp
            with_reducible rfl
          rotate_left
          · simp only [Act.put, List.setIfInBounds_toArray, List.set_cons_zero, List.set_cons_succ, i64_w, i32_w]
            rfl
          refine pure_ (i := 8) (N := some 123) (v := ?_) (a' := ?_) #[true, true, true, true, true, true, true, true, true, false, false, false, false, false, false, false, false, false, false] rfl rfl (by kernel_rfl) (fun _ _ _ h => h) (Or.inl ⟨by rfl, ?_⟩) ?_ ?_
          rotate_left
          · intro w'
            go_simp
            with_reducible rfl
          rotate_left
          · simp only [Act.put, List.setIfInBounds_toArray, List.set_cons_zero, List.set_cons_succ, i64_w, i32_w]
            rfl
          refine pure_ (i := 9) (N := some 124) (v := ?_) (a' := ?_) #[true, true, true, true, true, true, true, true, true, true, false, false, false, false, false, false, false, false, false] rfl rfl (by kernel_rfl) (fun _ _ _ h => h) (Or.inl ⟨by rfl, ?_⟩) ?_ ?_
          rotate_left
          · intro w'
            go_simp
            with_reducible rfl
          rotate_left
          · simp only [Act.put, List.setIfInBounds_toArray, List.set_cons_zero, List.set_cons_succ, i64_w, i32_w]
            rfl
          refine pure_ (i := 10) (N := some 125) (v := ?_) (a' := ?_) #[true, true, true, true, true, true, true, true, true, true, true, false, false, false, false, false, false, false, false] rfl rfl (by kernel_rfl) (fun _ _ _ h => h) (Or.inl ⟨by rfl, ?_⟩) ?_ ?_
          rotate_left
          · intro w'
            go_simp
            with_reducible rfl
          rotate_left
          · simp only [Act.put, List.setIfInBounds_toArray, List.set_cons_zero, List.set_cons_succ, i64_w, i32_w]
            rfl
          refine pure_ (i := 12) (N := some 127) (v := ?_) (a' := ?_) #[true, true, true, true, true, true, true, true, true, true, true, false, true, false, false, false, false, false, false] rfl rfl (by kernel_rfl) (fun _ _ _ h => h) (Or.inl ⟨by rfl, ?_⟩) ?_ ?_
          rotate_left
          · intro w'
            go_simp
            with_reducible rfl
          rotate_left
          · simp only [Act.put, List.setIfInBounds_toArray, List.set_cons_zero, List.set_cons_succ, i64_w, i32_w]
            rfl
          refine pure_ (i := 13) (N := some 128) (v := ?_) (a' := ?_) #[true, true, true, true, true, true, true, true, true, true, true, false, true, true, false, false, false, false, false] rfl rfl (by kernel_rfl) (fun _ _ _ h => h) (Or.inl ⟨by rfl, ?_⟩) ?_ ?_
          rotate_left
          · intro w'
            go_simp
            with_reducible rfl
          rotate_left
          · simp only [Act.put, List.setIfInBounds_toArray, List.set_cons_zero, List.set_cons_succ, i64_w, i32_w]
            rfl
          refine pure_ (i := 14) (N := some 129) (v := ?_) (a' := ?_) #[true, true, true, true, true, true, true, true, true, true, true, false, true, true, true, false, false, false, false] rfl rfl (by kernel_rfl) (fun _ _ _ h => h) (Or.inl ⟨by rfl, ?_⟩) ?_ ?_
          rotate_left
          · intro w'
            go_simp
            with_reducible rfl
          rotate_left
          · simp only [Act.put, List.setIfInBounds_toArray, List.set_cons_zero, List.set_cons_succ, i64_w, i32_w]
            rfl
          refine take_ (i := 15) (N := some 130) (v := ?_) (a' := ?_) #[true, true, true, true, true, true, true, true, true, true, true, false, true, true, true, true, false, false, false] rfl rfl (by kernel_rfl) (fun _ _ _ h => h) (Or.inl ⟨by rfl, ?_⟩) hHeld ?_ ?_
          rotate_left
          · rintro w' ⟨s0, s1, s2, s3, s4, s5, s6⟩
            go_simp
            with_reducible rfl
          rotate_left
          · simp only [Act.put, List.setIfInBounds_toArray, List.set_cons_zero, List.set_cons_succ, i64_w, i32_w]
            rfl
          refine pure_ (i := 16) (N := some 131) (v := ?_) (a' := ?_) #[true, true, true, true, true, true, true, true, true, true, true, false, true, true, true, true, true, false, false] rfl rfl (by kernel_rfl) (fun _ _ _ h => h) (Or.inl ⟨by rfl, ?_⟩) ?_ ?_
          rotate_left
          · intro w'
            go_simp
            with_reducible rfl
          rotate_left
          · simp only [Act.put, List.setIfInBounds_toArray, List.set_cons_zero, List.set_cons_succ, i64_w, i32_w]
            rfl
          refine one_ (i := 11) (N := some 126) #[true, true, true, true, true, true, true, true, true, true, true, true, true, true, true, true, true, false, false] rfl rfl (by kernel_rfl) (by decide) (fun K hK => ?_)
          refine goes_ Try.func26 (by kernel_rfl) rfl #[.pointer (some ⟨r, 0, none⟩)] (by rfl) rfl rfl (by simp only [List.map_toArray, List.map_cons, List.map_nil]; rfl) ?_
          with_reducible refine (rlen_m HU1.out.row HLN.out HM.out).mono ?_
          rintro e u2 ⟨rfl, hbu2⟩
          refine ⟨_, rfl, ?_⟩
          have HU2 := Lib.hid (HU1.out.below hbu2)
          refine hK.out _ _ ⟨pw_cell_below hbu2 hHeld.1, pw_cell_below hbu2 hHeld.2.1, pw_cell_below hbu2 hHeld.2.2.1, pw_cell_below hbu2 hHeld.2.2.2.1, pw_cell_below hbu2 hHeld.2.2.2.2.1, pw_cell_below hbu2 hHeld.2.2.2.2.2.1, pw_cell_below hbu2 hHeld.2.2.2.2.2.2⟩ (fun hHeld => ?_)
          clear hK K
          refine norm_ (a' := ?_) ?_ ?_
          rotate_left
          · show Act.put _ (some 126) _ = _
            simp only [Act.put, List.setIfInBounds_toArray, List.set_cons_zero, List.set_cons_succ, i64_w, i32_w]
            rfl
          refine pure_ (i := 17) (N := some 132) (v := ?_) (a' := ?_) #[true, true, true, true, true, true, true, true, true, true, true, true, true, true, true, true, true, true, false] rfl rfl (by kernel_rfl) (fun _ _ _ h => h) (Or.inl ⟨by rfl, ?_⟩) ?_ ?_
          rotate_left
          · intro w'
            go_simp
            with_reducible rfl
          rotate_left
          · simp only [Act.put, List.setIfInBounds_toArray, List.set_cons_zero, List.set_cons_succ, i64_w, i32_w]
            rfl
          refine pure_ (i := 18) (N := some 133) (v := ?_) (a' := ?_) #[true, true, true, true, true, true, true, true, true, true, true, true, true, true, true, true, true, true, true] rfl rfl (by kernel_rfl) (fun _ _ _ h => h) (Or.inl ⟨by rfl, ?_⟩) ?_ ?_
          rotate_left
          · intro w'
            go_simp
            with_reducible rfl
          rotate_left
          · simp only [Act.put, List.setIfInBounds_toArray, List.set_cons_zero, List.set_cons_succ, i64_w, i32_w]
            rfl
          refine done_ (by kernel_rfl) ?_
          go_wp2_with fail
          go_roundw
          case rel => exact ⟨i + 1, s5, ys, L2, A2, c2, by go_num, by omega, by omega, HU2⟩
          case measure => simp [intOf]; omega
    · by_cases h1 : i < n
      · have q3 : decide ((i : Int) < (n : Int)) = true := decide_eq_true (by omega)
        have q4 : decide ((i : Int) < 120) = false := decide_eq_false (by omega)
        go_wp2_with fail
        refine (works_calls).mono ?_
        rintro e w9 ⟨rfl, hb⟩
        have HB9 := Lib.hid (HO.out.below hb)
        clear hb
        go_wp2_with fail
        go_ret
        exact ⟨rfl, HB9.out.b⟩
      · have q3 : decide ((i : Int) < (n : Int)) = false := decide_eq_false (by omega)
        go_wp2_with fail
        refine (works_calls).mono ?_
        rintro e w9 ⟨rfl, hb⟩
        have HB9 := Lib.hid (HO.out.below hb)
        clear hb
        go_wp2_with fail
        go_ret
        exact ⟨rfl, HB9.out.b⟩
end Go.Proofs.Ytfkbiecbnjddmaa
