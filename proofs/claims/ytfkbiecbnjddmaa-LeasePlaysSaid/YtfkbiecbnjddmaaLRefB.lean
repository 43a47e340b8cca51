/- The document's row of leases: Add. (Printed by gen_refb.py.) -/
import Derived.Test.YtfkbiecbnjddmaaLRefA
namespace Go.Proofs.Ytfkbiecbnjddmaa
open Go.RowKit Go.MapKept Go.ChangeMaps Go.Proofs.YtfkbiecbnjddmaaW.PrintWords
set_option linter.unusedVariables false
set_option linter.unusedSimpArgs false
set_option maxRecDepth 100000
set_option maxHeartbeats 8000000
theorem refahead (a b : Lz) : foyerref26_ahead.f a.1 a.2.1 a.2.2 b.1 b.2.1 b.2.2 = some (less a b) := by
  unfold foyerref26_ahead.f less
  split
  · split <;> rfl
  · rfl
/-- those ahead of m go first, that at m does not -/
def PlaceOf (L : List Lz) (m : Nat) (x : Lz) : Prop := m ≤ L.length ∧ (∀ (j : Nat) (y : Lz), j < m → L[j]? = some y → less y x = true) ∧ (∀ y, L[m]? = some y → less y x = false)
def RAddOut (W w' : World) (q : Nat) (A : Option Addr) (c : Nat) (L : List Lz) (x : Lz) (e : Ending) : Prop :=
  (x.key ∈ L.map Lz.key ∧ e = .returned (.int .i64 14) ∧ RefAt w' q A c L) ∨
  (x.key ∉ L.map Lz.key ∧ e = .returned (.int .i64 0) ∧ ∃ m A' c', PlaceOf L m x ∧ RefAt w' q A' c' (L.take m ++ x :: L.drop m))
theorem refa_cells {W : World} {P : Nat} {x : Lz} (h : W.heap[P]? = some (.cells #[.int .i64 x.1, .int .u32 x.2.1, .int .u64 x.2.2] 56 (0, 0))) :
    W.cell? ⟨P, 0, none⟩ = some (.int .i64 x.1) ∧ W.cell? ⟨P, 1, none⟩ = some (.int .u32 x.2.1) ∧ W.cell? ⟨P, 2, none⟩ = some (.int .u64 x.2.2) :=
  ⟨cell_of_row _ _ 0 _ _ _ h, cell_of_row _ _ 1 _ _ _ h, cell_of_row _ _ 2 _ _ _ h⟩
theorem at_ge {v v1 : Value} {s : Nat} (h0 : v.ownBlock = none) (h : v1.ownBlock = v.ownBlock ∨ ∃ b, v1.ownBlock = some b ∧ s ≤ b) : ∀ k, v1.ownBlock = some k → s ≤ k := by
  intro k hk
  rcases h with h | ⟨b, hb, hs⟩
  · rw [h, h0] at hk; cases hk
  · rw [hb] at hk; cases hk; exact hs
theorem at_ge2 {v v1 : Value} {s s1 : Nat} (h0 : ∀ k, v.ownBlock = some k → s ≤ k) (hs1 : s ≤ s1) (h : v1.ownBlock = v.ownBlock ∨ ∃ b, v1.ownBlock = some b ∧ s1 ≤ b) : ∀ k, v1.ownBlock = some k → s ≤ k := by
  intro k hk
  rcases h with h | ⟨b, hb, hs⟩
  · exact h0 k (h ▸ hk)
  · rw [hb] at hk; cases hk; omega
theorem radd_calls {W : World} {q : Nat} {A : Option Addr} {c : Nat} {L : List Lz} (h : RefAt W q A c L) (hl9 : L.length ≤ 900) (x : Lz) :
    Calls Try.prog 23 #[.pointer (some ⟨q, 0, none⟩), x.val] W fun e w' => RAddOut W w' q A c L x e ∧ Off (fun i => i = q) W w' := by
  have H := Lib.hid h
  have hcap := h.cap
  clear h
  obtain ⟨n, hn⟩ : ∃ n, L.length = n := ⟨_, rfl⟩
  rw [hn] at hl9 hcap
  have HN := Lib.hid hn
  clear hn
  obtain ⟨i0, hi0⟩ : ∃ i, Try.prog.info? 56 = some i := by
    cases h : Try.prog.info? 56 with
    | none => have h61 := info56; rw [h] at h61; cases h61
    | some i => exact ⟨i, rfl⟩
  have HCT := Lib.hid (fun (i : Nat) (hi : i ≤ n) => cut_to (P := Try.prog) 43 56 .i64 Try.underlying43 hi0 A n c (i : Int) (by omega) (by omega) hcap)
  have HCF := Lib.hid (fun (i : Nat) (hi : i ≤ n) => cut_from (P := Try.prog) 43 56 .i64 Try.underlying43 hi0 3 (by have := info56; rw [hi0] at this; simpa using congrArg (fun o => (o.map fun p => p.2.1)) this) A n c (i : Int) (by omega) (by omega))
  clear hi0
  unfold Lz.val
  go_enter Try.func23, Try.ntmps23
  go_wp2_with fail
  obtain ⟨w1, hw1⟩ : ∃ w1, W.alloc (.cells #[.int .i64 x.1, .int .u32 x.2.1, .int .u64 x.2.2] 56) = w1 := ⟨_, rfl⟩
  have HB1 := Lib.hid (show Below W.heap.size W w1 by rw [← hw1]; exact below_alloc (Below.refl _ _) _)
  have HP1 := Lib.hid (show w1.heap[W.heap.size]? = some (.cells #[.int .i64 x.1, .int .u32 x.2.1, .int .u64 x.2.2] 56 (0, 0)) by rw [← hw1]; exact blk_new W _)
  have HR1 := Lib.hid (H.out.below HB1.out)
  rw [hw1]
  clear hw1
  obtain ⟨P, hP⟩ : ∃ P, W.heap.size = P := ⟨_, rfl⟩
  have HPE := Lib.hid hP
  rw [hP] at HP1 HB1
  rw [hP]
  clear hP
  refine (find_calls HR1.out x.key).mono ?_
  rintro e w2 ⟨p, rfl, hf, rfl⟩
  rcases hf with ⟨rfl, hno⟩ | ⟨i, y, rfl, hy, hyk⟩
  · have HNO := Lib.hid (show x.key ∉ L.map Lz.key from fun hc => by
      obtain ⟨z, hz, hzk⟩ := List.mem_map.1 hc
      exact hno z hz hzk)
    clear hno
    go_wp2_with fail
    go_loopw [5] (fun v5 wr => ∃ i : Nat, v5 = .int .i64 i ∧ i ≤ n ∧ Hid (∀ (j : Nat) (y : Lz), j < i → L[j]? = some y → less y x = true) ∧ Hid (RefAt wr q A c L) ∧ Hid (wr.heap[P]? = some (.cells #[.int .i64 x.1, .int .u32 x.2.1, .int .u64 x.2.2] 56 (0, 0))) ∧ Hid (Below P W wr)) (fun v5 _ => n - (intOf v5).toNat)
    case atStart => exact ⟨0, rfl, Nat.zero_le _, Lib.hid (fun j y hj => by omega), HR1, HP1, HB1⟩
    case round =>
      clear HR1 HP1 HB1
      obtain ⟨i, rfl, hi, HK, HRW, HPW, HBW⟩ := hrel
      have p0 : (0 : Int) ≤ (i : Int) := by omega
      have q0 : wr.cell? ⟨q, 0, none⟩ = some (.slice A n c) := by have := cell_of_row _ _ 0 _ _ _ HRW.out.box; rw [HN.out] at this; exact this
      obtain ⟨x0, x1, x2⟩ := refa_cells HPW.out
      by_cases hlt : i < n
      · obtain ⟨y, hy⟩ : ∃ y, L[i]? = some y := ⟨_, List.getElem?_eq_getElem (by rw [HN.out]; exact hlt)⟩
        obtain ⟨g, o, rfl, y0, y1, y2⟩ := HRW.out.get hy
        have HY := Lib.hid hy
        clear hy
        have q1 : (i : Int) < (n : Int) := by omega
        have q2 : decide ((i : Int) < (n : Int)) = true := decide_eq_true q1
        obtain ⟨b, hb⟩ : ∃ b, less y x = b := ⟨_, rfl⟩
        have HAH := Lib.hid (show foyerref26_ahead.f y.1 y.2.1 y.2.2 x.1 x.2.1 x.2.2 = some b from by rw [refahead, hb])
        have HLB := Lib.hid hb
        clear hb
        have KB : ∀ w w', Below w.heap.size w w' → (fun W' => W'.cell? ⟨q, 0, none⟩ = some (.slice (some ⟨g, o, none⟩) n c) ∧ W'.cell? ⟨g, o + i * 3, none⟩ = some (.int .i64 y.1) ∧ W'.cell? ⟨g, o + i * 3 + 1, none⟩ = some (.int .u32 y.2.1) ∧ W'.cell? ⟨g, o + i * 3 + 2, none⟩ = some (.int .u64 y.2.2) ∧ W'.cell? ⟨P, 0, none⟩ = some (.int .i64 x.1) ∧ W'.cell? ⟨P, 1, none⟩ = some (.int .u32 x.2.1) ∧ W'.cell? ⟨P, 2, none⟩ = some (.int .u64 x.2.2) ∧ Hid (RefAt W' q (some ⟨g, o, none⟩) c L) ∧ Hid (W'.heap[P]? = some (.cells #[.int .i64 x.1, .int .u32 x.2.1, .int .u64 x.2.2] 56 (0, 0))) ∧ Hid (Below P W W')) w → (fun W' => W'.cell? ⟨q, 0, none⟩ = some (.slice (some ⟨g, o, none⟩) n c) ∧ W'.cell? ⟨g, o + i * 3, none⟩ = some (.int .i64 y.1) ∧ W'.cell? ⟨g, o + i * 3 + 1, none⟩ = some (.int .u32 y.2.1) ∧ W'.cell? ⟨g, o + i * 3 + 2, none⟩ = some (.int .u64 y.2.2) ∧ W'.cell? ⟨P, 0, none⟩ = some (.int .i64 x.1) ∧ W'.cell? ⟨P, 1, none⟩ = some (.int .u32 x.2.1) ∧ W'.cell? ⟨P, 2, none⟩ = some (.int .u64 x.2.2) ∧ Hid (RefAt W' q (some ⟨g, o, none⟩) c L) ∧ Hid (W'.heap[P]? = some (.cells #[.int .i64 x.1, .int .u32 x.2.1, .int .u64 x.2.2] 56 (0, 0))) ∧ Hid (Below P W W')) w' := by
          rintro w w' hb ⟨a1, a2, a3, a4, a5, a6, a7, a8, a9, a10⟩
          exact ⟨pw_cell_below hb a1, pw_cell_below hb a2, pw_cell_below hb a3, pw_cell_below hb a4, pw_cell_below hb a5, pw_cell_below hb a6, pw_cell_below hb a7, Lib.hid (a8.out.below hb), Lib.hid (blk_below a9.out hb), Lib.hid (below_then a10.out (by have := HPE.out; have := a10.out.size; omega) hb)⟩
        have SH := KB wr wr.drew (Below.drew (Below.refl _ _)) ⟨q0, y0, y1, y2, x0, x1, x2, HRW, HPW, HBW⟩
        go_wp2_with fail
        clear q0 y0 y1 y2 x0 x1 x2 HRW HPW HBW
        go_region_held3 (fun W' => W'.cell? ⟨q, 0, none⟩ = some (.slice (some ⟨g, o, none⟩) n c) ∧ W'.cell? ⟨g, o + i * 3, none⟩ = some (.int .i64 y.1) ∧ W'.cell? ⟨g, o + i * 3 + 1, none⟩ = some (.int .u32 y.2.1) ∧ W'.cell? ⟨g, o + i * 3 + 2, none⟩ = some (.int .u64 y.2.2) ∧ W'.cell? ⟨P, 0, none⟩ = some (.int .i64 x.1) ∧ W'.cell? ⟨P, 1, none⟩ = some (.int .u32 x.2.1) ∧ W'.cell? ⟨P, 2, none⟩ = some (.int .u64 x.2.2) ∧ Hid (RefAt W' q (some ⟨g, o, none⟩) c L) ∧ Hid (W'.heap[P]? = some (.cells #[.int .i64 x.1, .int .u32 x.2.1, .int .u64 x.2.2] 56 (0, 0))) ∧ Hid (Below P W W')) (first | assumption | exact KB _ _ (by assumption) (by assumption))
          ((go_at_call 34; refine (foyerref26_ahead.calls y.1 y.2.1 y.2.2 x.1 x.2.1 x.2.2 b _ HAH.out).mono ?_; rintro e w' ⟨rfl, hd⟩))
        clear SH KB
        rename_i hHeld
        obtain ⟨q0, _, _, _, x0, x1, x2, HRZ, HPZ, HBZ⟩ := hHeld
        cases b with
        | true =>
          go_wp2_with fail
          go_roundw
          case rel => exact ⟨i + 1, by go_num, by omega, Lib.hid (fun j z hj hz => by
            rcases Nat.lt_or_ge j i with h | h
            · exact HK.out j z h hz
            · obtain rfl : j = i := by omega
              rw [HY.out] at hz
              cases hz
              exact HLB.out), HRZ, HPZ, HBZ⟩
          case measure => simp [intOf]; omega
        | false =>
          have hct := HCT.out i hi
          have hcf := HCF.out i hi
          simp only [Int.toNat_natCast] at hct hcf
          obtain ⟨A', hA'⟩ : ∃ A', (if c = i then (some ⟨g, o, none⟩ : Option Addr) else Option.map (fun x => x.add (i * 3)) (some ⟨g, o, none⟩ : Option Addr)) = A' := ⟨_, rfl⟩
          rw [hA'] at hcf
          have HA := Lib.hid hA'
          clear hA'
          have HTC := Lib.hid (HRZ.out.takeC (m := i) (by rw [HN.out]; exact hi))
          have HSZ := Lib.hid (show P ≤ w'.heap.size by have := HBZ.out.size; have := HPE.out; omega)
          go_wp2_with (first | ((with_reducible refine gate_builtin (b := .append) (xs := #[.tmp 34, .tmp 40]) rfl ?_); at_builtin; refine Kd.R_append_rows kL (w0 := W) P rfl (.tmp 34) (.tmp 40) 43 56 (.agg #[.int .i64 0, .int .u32 0, .int .u64 0]) 24 rfl Try.underlying43 info56 rfl (by decide) (by decide) (.slice none 0 0) [] (L.take i) (some ⟨g, o, none⟩) i c (fun _ => True) (fun _ => False) rfl rfl (Kd.R_nil _ _ _ _ _) HTC.out (fun x cs h => by rw [kL_open h]; exact kL_mkM _ _ _ _) (fun _ h => h.elim) (fun _ _ => trivial) HBZ.out HSZ.out (by simp; omega) ?_; intro v1 u1 hR1 hb1 hg1 hat1; have HS1 := Lib.hid (show ∀ k, k < w'.heap.size → u1.heap[k]? = w'.heap[k]? from fun k hk => hg1.block k hk (by simp [Value.ownBlock])); have HR1 := Lib.hid hR1; have HB1 := Lib.hid hb1; have HZ1 := Lib.hid hg1.size; have HAT1 := Lib.hid (show ∀ k, v1.ownBlock = some k → w'.heap.size ≤ k from at_ge (by simp [Value.ownBlock]) hat1); have HPP1 := Lib.hid ((HS1.out P (blk_lt HPZ.out)).trans HPZ.out); have HQ1 := Lib.hid ((HS1.out q (blk_lt HRZ.out.box)).trans HRZ.out.box); clear hR1 hb1 hg1 hat1 q0 x0 x1 x2; obtain ⟨x0, x1, x2⟩ := refa_cells HPP1.out) | ((with_reducible refine gate_builtin (b := .append) (xs := #[.tmp 42, .tmp 44]) rfl ?_); at_builtin; refine Kd.R_append kL (w0 := W) P rfl (.tmp 42) (.tmp 44) 43 56 (.agg #[.int .i64 0, .int .u32 0, .int .u64 0]) 24 rfl Try.underlying43 info56 rfl (by decide) (by decide) v1 ([] ++ L.take i) x x.cs (fun _ => True) (fun _ => False) rfl rfl (kL_mkM _ _ _ _) (fun _ h => h.elim) (fun _ _ => trivial) HR1.out HB1.out (Nat.le_trans HSZ.out HZ1.out) (by simp; omega) ?_; intro v2 u2 hR2 hb2 hg2 hat2; have HS2 := Lib.hid (show ∀ k, k < w'.heap.size → u2.heap[k]? = w'.heap[k]? from fun k hk => (hg2.block k (Nat.lt_of_lt_of_le hk HZ1.out) (fun e => by have := HAT1.out k e.symm; omega)).trans (HS1.out k hk)); have HR2 := Lib.hid hR2; have HB2 := Lib.hid hb2; have HZ2 := Lib.hid (Nat.le_trans HZ1.out hg2.size); have HAT2 := Lib.hid (show ∀ k, v2.ownBlock = some k → w'.heap.size ≤ k from at_ge2 HAT1.out HZ1.out hat2); have HQ2 := Lib.hid ((HS2.out q (blk_lt HRZ.out.box)).trans HRZ.out.box); have HRF2 := Lib.hid (HRZ.out.keep (fun k t cs hk _ => HS2.out k (blk_lt hk))); have HDC := Lib.hid (HRF2.out.dropC (m := i) (by rw [HN.out]; exact hi)); clear hR2 hb2 hg2 hat2 x0 x1 x2; have q0 := cell_of_row _ _ 0 _ _ _ HQ2.out; rw [HN.out] at q0 HDC; rw [HA.out] at HDC) | ((with_reducible refine gate_builtin (b := .append) (xs := #[.tmp 47, .tmp 53]) rfl ?_); at_builtin; refine Kd.R_append_rows kL (w0 := W) P rfl (.tmp 47) (.tmp 53) 43 56 (.agg #[.int .i64 0, .int .u32 0, .int .u64 0]) 24 rfl Try.underlying43 info56 rfl (by decide) (by decide) v2 ([] ++ L.take i ++ [x]) (L.drop i) A' (n - i) (c - i) (fun _ => True) (fun _ => False) rfl rfl HR2.out HDC.out (fun x cs h => by rw [kL_open h]; exact kL_mkM _ _ _ _) (fun _ h => h.elim) (fun _ _ => trivial) HB2.out (Nat.le_trans HSZ.out HZ2.out) (by simp; omega) ?_; intro v3 u3 hR3 hb3 hg3 hat3; have HS3 := Lib.hid (show ∀ k, k < w'.heap.size → u3.heap[k]? = w'.heap[k]? from fun k hk => (hg3.block k (Nat.lt_of_lt_of_le hk HZ2.out) (fun e => by have := HAT2.out k e.symm; omega)).trans (HS2.out k hk)); have HR3 := Lib.hid hR3; have HB3 := Lib.hid hb3; have HQ3 := Lib.hid ((HS3.out q (blk_lt HRZ.out.box)).trans HRZ.out.box); clear hR3 hb3 hg3 hat3 q0; obtain ⟨A3, c3, rfl⟩ := Kd.R_slice HR3.out; have f3 := blk_frozen HQ3.out 0; have q3 := cell_of_row _ _ 0 _ _ _ HQ3.out; rw [HN.out] at q3))
          go_ret
          have hown := own_of_kR HR3.out
          rw [List.nil_append, List.append_assoc, List.singleton_append] at hown
          rw [show min i L.length + (L.length - i + 1) = (L.take i ++ x :: L.drop i).length by simp]
          refine ⟨.inr ⟨HNO.out, rfl, i, A3, c3, ⟨by rw [HN.out]; exact hi, HK.out, ?_⟩, ?_⟩, ?_⟩
          · intro z hz
            rw [HY.out] at hz
            cases hz
            exact HLB.out
          · obtain ⟨A4, c4, e4, h4⟩ := RefAt.of_own (q := q) (by have := HN.out; simp; omega) (own_setCell hown (own_ne hown HQ3.out (by decide)) _) (blk_set HQ3.out 0 _)
            cases e4
            exact h4
          · exact Off.set (S := fun i => i = q) (Off.below (HPE.out ▸ HB3.out)) rfl _
      · have q2 : decide ((i : Int) < (n : Int)) = false := decide_eq_false (by omega)
        go_wp2_with fail
        go_quiet (fail)
        generalize hwz : World.drewN wr _ = wz
        have hbz : Below wr.heap.size wr wz := by rw [← hwz]; exact pw_below_drewN (Below.refl _ _) _
        clear hwz
        have HRZ := Lib.hid (HRW.out.below hbz)
        have HPZ := Lib.hid (blk_below HPW.out hbz)
        have HBZ := Lib.hid (below_then HBW.out (by have := HPE.out; have := HBW.out.size; omega) hbz)
        clear hbz HRW HPW HBW q0 x0 x1 x2
        have q0 : wz.cell? ⟨q, 0, none⟩ = some (.slice A n c) := by have := cell_of_row _ _ 0 _ _ _ HRZ.out.box; rw [HN.out] at this; exact this
        obtain ⟨x0, x1, x2⟩ := refa_cells HPZ.out
        have hct := HCT.out i hi
        have hcf := HCF.out i hi
        simp only [Int.toNat_natCast] at hct hcf
        obtain ⟨A', hA'⟩ : ∃ A', (if c = i then (A : Option Addr) else Option.map (fun x => x.add (i * 3)) (A : Option Addr)) = A' := ⟨_, rfl⟩
        rw [hA'] at hcf
        have HA := Lib.hid hA'
        clear hA'
        have HTC := Lib.hid (HRZ.out.takeC (m := i) (by rw [HN.out]; exact hi))
        have HSZ := Lib.hid (show P ≤ wz.heap.size by have := HBZ.out.size; have := HPE.out; omega)
        go_wp2_with (first | ((with_reducible refine gate_builtin (b := .append) (xs := #[.tmp 34, .tmp 40]) rfl ?_); at_builtin; refine Kd.R_append_rows kL (w0 := W) P rfl (.tmp 34) (.tmp 40) 43 56 (.agg #[.int .i64 0, .int .u32 0, .int .u64 0]) 24 rfl Try.underlying43 info56 rfl (by decide) (by decide) (.slice none 0 0) [] (L.take i) (A) i c (fun _ => True) (fun _ => False) rfl rfl (Kd.R_nil _ _ _ _ _) HTC.out (fun x cs h => by rw [kL_open h]; exact kL_mkM _ _ _ _) (fun _ h => h.elim) (fun _ _ => trivial) HBZ.out HSZ.out (by simp; omega) ?_; intro v1 u1 hR1 hb1 hg1 hat1; have HS1 := Lib.hid (show ∀ k, k < wz.heap.size → u1.heap[k]? = wz.heap[k]? from fun k hk => hg1.block k hk (by simp [Value.ownBlock])); have HR1 := Lib.hid hR1; have HB1 := Lib.hid hb1; have HZ1 := Lib.hid hg1.size; have HAT1 := Lib.hid (show ∀ k, v1.ownBlock = some k → wz.heap.size ≤ k from at_ge (by simp [Value.ownBlock]) hat1); have HPP1 := Lib.hid ((HS1.out P (blk_lt HPZ.out)).trans HPZ.out); have HQ1 := Lib.hid ((HS1.out q (blk_lt HRZ.out.box)).trans HRZ.out.box); clear hR1 hb1 hg1 hat1 q0 x0 x1 x2; obtain ⟨x0, x1, x2⟩ := refa_cells HPP1.out) | ((with_reducible refine gate_builtin (b := .append) (xs := #[.tmp 42, .tmp 44]) rfl ?_); at_builtin; refine Kd.R_append kL (w0 := W) P rfl (.tmp 42) (.tmp 44) 43 56 (.agg #[.int .i64 0, .int .u32 0, .int .u64 0]) 24 rfl Try.underlying43 info56 rfl (by decide) (by decide) v1 ([] ++ L.take i) x x.cs (fun _ => True) (fun _ => False) rfl rfl (kL_mkM _ _ _ _) (fun _ h => h.elim) (fun _ _ => trivial) HR1.out HB1.out (Nat.le_trans HSZ.out HZ1.out) (by simp; omega) ?_; intro v2 u2 hR2 hb2 hg2 hat2; have HS2 := Lib.hid (show ∀ k, k < wz.heap.size → u2.heap[k]? = wz.heap[k]? from fun k hk => (hg2.block k (Nat.lt_of_lt_of_le hk HZ1.out) (fun e => by have := HAT1.out k e.symm; omega)).trans (HS1.out k hk)); have HR2 := Lib.hid hR2; have HB2 := Lib.hid hb2; have HZ2 := Lib.hid (Nat.le_trans HZ1.out hg2.size); have HAT2 := Lib.hid (show ∀ k, v2.ownBlock = some k → wz.heap.size ≤ k from at_ge2 HAT1.out HZ1.out hat2); have HQ2 := Lib.hid ((HS2.out q (blk_lt HRZ.out.box)).trans HRZ.out.box); have HRF2 := Lib.hid (HRZ.out.keep (fun k t cs hk _ => HS2.out k (blk_lt hk))); have HDC := Lib.hid (HRF2.out.dropC (m := i) (by rw [HN.out]; exact hi)); clear hR2 hb2 hg2 hat2 x0 x1 x2; have q0 := cell_of_row _ _ 0 _ _ _ HQ2.out; rw [HN.out] at q0 HDC; rw [HA.out] at HDC) | ((with_reducible refine gate_builtin (b := .append) (xs := #[.tmp 47, .tmp 53]) rfl ?_); at_builtin; refine Kd.R_append_rows kL (w0 := W) P rfl (.tmp 47) (.tmp 53) 43 56 (.agg #[.int .i64 0, .int .u32 0, .int .u64 0]) 24 rfl Try.underlying43 info56 rfl (by decide) (by decide) v2 ([] ++ L.take i ++ [x]) (L.drop i) A' (n - i) (c - i) (fun _ => True) (fun _ => False) rfl rfl HR2.out HDC.out (fun x cs h => by rw [kL_open h]; exact kL_mkM _ _ _ _) (fun _ h => h.elim) (fun _ _ => trivial) HB2.out (Nat.le_trans HSZ.out HZ2.out) (by simp; omega) ?_; intro v3 u3 hR3 hb3 hg3 hat3; have HS3 := Lib.hid (show ∀ k, k < wz.heap.size → u3.heap[k]? = wz.heap[k]? from fun k hk => (hg3.block k (Nat.lt_of_lt_of_le hk HZ2.out) (fun e => by have := HAT2.out k e.symm; omega)).trans (HS2.out k hk)); have HR3 := Lib.hid hR3; have HB3 := Lib.hid hb3; have HQ3 := Lib.hid ((HS3.out q (blk_lt HRZ.out.box)).trans HRZ.out.box); clear hR3 hb3 hg3 hat3 q0; obtain ⟨A3, c3, rfl⟩ := Kd.R_slice HR3.out; have f3 := blk_frozen HQ3.out 0; have q3 := cell_of_row _ _ 0 _ _ _ HQ3.out; rw [HN.out] at q3))
        go_ret
        have hown := own_of_kR HR3.out
        rw [List.nil_append, List.append_assoc, List.singleton_append] at hown
        rw [show min i L.length + (L.length - i + 1) = (L.take i ++ x :: L.drop i).length by simp]
        refine ⟨.inr ⟨HNO.out, rfl, i, A3, c3, ⟨by rw [HN.out]; exact hi, HK.out, ?_⟩, ?_⟩, ?_⟩
        · intro z hz
          have := (List.getElem?_eq_some_iff.1 hz).1
          rw [HN.out] at this
          omega
        · obtain ⟨A4, c4, e4, h4⟩ := RefAt.of_own (q := q) (by have := HN.out; simp; omega) (own_setCell hown (own_ne hown HQ3.out (by decide)) _) (blk_set HQ3.out 0 _)
          cases e4
          exact h4
        · exact Off.set (S := fun i => i = q) (Off.below (HPE.out ▸ HB3.out)) rfl _
  · have HIN := Lib.hid (show x.key ∈ L.map Lz.key from List.mem_map.2 ⟨y, List.mem_of_getElem? hy, hyk⟩)
    clear hy hyk
    have p0 : (0 : Int) ≤ (i : Int) := by omega
    go_wp2_with fail
    go_ret
    exact ⟨.inl ⟨HIN.out, rfl, HR1.out⟩, Off.below (HPE.out ▸ HB1.out)⟩
end Go.Proofs.Ytfkbiecbnjddmaa
