/- The document's row of leases: First and Take. -/
import Derived.Test.YtfkbiecbnjddmaaLRef
namespace Go.Proofs.Ytfkbiecbnjddmaa
open Go.RowKit Go.MapKept Go.ChangeMaps Go.Proofs.YtfkbiecbnjddmaaW.PrintWords
set_option linter.unusedVariables false
set_option linter.unusedSimpArgs false
set_option maxRecDepth 100000
set_option maxHeartbeats 4000000
/-- those ahead of m are over, that at m is not -/
def UpTo (L : List Lz) (m : Nat) (now : Int) : Prop := m ≤ L.length ∧ (∀ (j : Nat) (y : Lz), j < m → L[j]? = some y → y.2.2 ≤ now) ∧ (∀ y, L[m]? = some y → now < y.2.2)
theorem RefAt.takeC {W : World} {q : Nat} {A : Option Addr} {c : Nat} {L : List Lz} (h : RefAt W q A c L) {m : Nat} (hm : m ≤ L.length) : Kd.C kL W A m (L.take m) := by
  have := Kd.C_take h.C hm
  rwa [List.length_take, Nat.min_eq_left hm] at this
theorem RefAt.dropC {W : World} {q : Nat} {A : Option Addr} {c : Nat} {L : List Lz} (h : RefAt W q A c L) {m : Nat} (hm : m ≤ L.length) : Kd.C kL W (if c = m then A else A.map (·.add (m * 3))) (L.length - m) (L.drop m) := by
  have := Kd.C_drop h.C hm h.cap
  rwa [List.length_drop] at this
theorem rfirst_calls {W : World} {q : Nat} {A : Option Addr} {c : Nat} {L : List Lz} (h : RefAt W q A c L) :
    Calls Try.prog 25 #[.pointer (some ⟨q, 0, none⟩)] W fun e w' => e = .returned (.tuple #[(ix L 0).val, .bool (decide (0 < L.length))]) ∧ Below W.heap.size W w' := by
  have HB := Lib.hid (below_alloc (Below.refl W.heap.size W) (.cells #[.int .i64 0, .int .u32 0, .int .u64 0] 56))
  have H := Lib.hid (h.below HB.out)
  have q1 := cell_of_row _ _ 0 _ _ _ h.box
  have n1 : L.length ≤ 1000 := h.len
  clear h
  have q0 : (W.alloc (.cells #[.int .i64 0, .int .u32 0, .int .u64 0] 56)).cell? ⟨q, 0, none⟩ = some (.slice A L.length c) := cell_of_row _ _ 0 _ _ _ H.out.box
  cases L with
  | nil =>
    go_enter Try.func25, Try.ntmps25
    go_wp2_with fail
    refine bodyPost_ret (results_ct rfl _ _ W.heap.size 56 #[.int .i64 0, .int .u32 0, .int .u64 0] (0, 0) _ rfl (blk_new W _) Try.underlying56 rfl (by kernel_rfl)) rfl ?_
    exact ⟨rfl, HB.out⟩
  | cons x t =>
    obtain ⟨g, o, rfl, x0, x1, x2⟩ := H.out.get (i := 0) (x := x) rfl
    simp only [Nat.zero_mul, Nat.add_zero] at x0 x1 x2
    obtain ⟨n, hn⟩ : ∃ n, (x :: t).length = n + 1 := ⟨t.length, rfl⟩
    rw [hn] at q0 q1
    have e0 : (((n + 1 : Nat) : Int) == 0) = false := beq_eq_false_iff_ne.2 (by omega)
    have e1 : (0 : Int) < ((n + 1 : Nat) : Int) := by omega
    have HN := Lib.hid hn
    clear hn
    go_enter Try.func25, Try.ntmps25
    go_wp2_with fail
    refine bodyPost_ret (results_ct rfl _ _ W.heap.size 56 #[.int .i64 x.1, .int .u32 x.2.1, .int .u64 x.2.2] (0, 0) _ rfl (blk_new W _) Try.underlying56 rfl (by kernel_rfl)) rfl ?_
    exact ⟨by simp [ix, Lz.val], below_alloc (Below.refl _ _) _⟩
theorem rtake_calls {W : World} {q : Nat} {A : Option Addr} {c : Nat} {L : List Lz} (h : RefAt W q A c L) (now : Int) :
    Calls Try.prog 20 #[.pointer (some ⟨q, 0, none⟩), .int .u64 now] W fun e w' => ∃ v, e = .returned v ∧ ∃ m, UpTo L m now ∧
      w'.ownsRow W.heap.size 56 3 v m (flat (L.take m)) ∧ (∃ A' c', RefAt w' q A' c' (L.drop m)) ∧ Off (fun i => i = q) W w' := by
  have H := Lib.hid h
  have q0 : W.cell? ⟨q, 0, none⟩ = some (.slice A L.length c) := cell_of_row _ _ 0 _ _ _ h.box
  have n1 : L.length ≤ 1000 := h.len
  have hcap := h.cap
  clear h
  obtain ⟨n, hn⟩ : ∃ n, L.length = n := ⟨_, rfl⟩
  rw [hn] at q0 n1 hcap
  have HN := Lib.hid hn
  clear hn
  obtain ⟨i0, hi0⟩ : ∃ i, Try.prog.info? 56 = some i := by
    cases h : Try.prog.info? 56 with
    | none => have h61 := info56; rw [h] at h61; cases h61
    | some i => exact ⟨i, rfl⟩
  have HCT := Lib.hid (fun (i : Nat) (hi : i ≤ n) => cut_to (P := Try.prog) 43 56 .i64 Try.underlying43 hi0 A n c (i : Int) (by omega) (by omega) hcap)
  have HCF := Lib.hid (fun (i : Nat) (hi : i ≤ n) => cut_from (P := Try.prog) 43 56 .i64 Try.underlying43 hi0 3 (by have := info56; rw [hi0] at this; simpa using congrArg (fun o => (o.map fun p => p.2.1)) this) A n c (i : Int) (by omega) (by omega))
  clear hi0
  go_enter Try.func20, Try.ntmps20
  go_wp2_with fail
  go_loop [5] (fun v5 => ∃ i : Nat, v5 = .int .i64 i ∧ i ≤ n ∧ Hid (∀ (j : Nat) (y : Lz), j < i → L[j]? = some y → y.2.2 ≤ now)) (fun v5 => n - (intOf v5).toNat)
  case atStart => exact ⟨0, rfl, Nat.zero_le _, Lib.hid (fun j y hj => by omega)⟩
  case round =>
    obtain ⟨i, rfl, hi, HK⟩ := hrel
    have p0 : (0 : Int) ≤ (i : Int) := by omega
    by_cases hlt : i < n
    · obtain ⟨x, hx⟩ : ∃ x, L[i]? = some x := ⟨_, List.getElem?_eq_getElem (by rw [HN.out]; exact hlt)⟩
      obtain ⟨g, o, rfl, x0, x1, x2⟩ := H.out.get hx
      have HX := Lib.hid hx
      clear hx
      have q1 : (i : Int) < (n : Int) := by omega
      have q2 : decide ((i : Int) < (n : Int)) = true := decide_eq_true q1
      by_cases h1 : x.2.2 ≤ now
      · have b1 : decide (x.2.2 ≤ now) = true := decide_eq_true h1
        have HE := Lib.hid h1
        clear h1
        go_wp2_with fail
        go_round
        case rel => exact ⟨i + 1, by go_num, by omega, Lib.hid (fun j y hj hy => by
            rcases Nat.lt_or_ge j i with h | h
            · exact HK.out j y h hy
            · obtain rfl : j = i := by omega
              rw [HX.out] at hy
              cases hy
              exact HE.out)⟩
        case measure => simp [intOf]; omega
      · have b1 : decide (x.2.2 ≤ now) = false := decide_eq_false h1
        have HNE := Lib.hid h1
        clear h1
        have hct := HCT.out i hi
        have hcf := HCF.out i hi
        have q3 := cell_of_row _ _ 0 _ _ _ (H.out.below (below_alloc (Below.refl W.heap.size W) (.cells #[] 56))).box
        rw [HN.out] at q3
        have HRC := Lib.hid ((H.out.below (below_alloc (Below.refl W.heap.size W) (.cells #[] 56))).takeC (m := i) (by rw [HN.out]; exact hi))
        have HR0 := Lib.hid (kR_empty W W.heap.size (Nat.le_refl _))
        have HB0 := Lib.hid (below_alloc (Below.refl W.heap.size W) (.cells #[] 56))
        simp only [Int.toNat_natCast] at hct hcf
        obtain ⟨A', hA'⟩ : ∃ A', (if c = i then (some ⟨g, o, none⟩ : Option Addr) else Option.map (fun x => x.add (i * 3)) (some ⟨g, o, none⟩ : Option Addr)) = A' := ⟨_, rfl⟩
        rw [hA'] at hcf
        have HA := Lib.hid hA'
        clear hA'
        go_wp2_with ((with_reducible refine gate_builtin (b := .append) (xs := #[.tmp 28, .tmp 34]) rfl ?_); at_builtin; refine Kd.R_append_rows kL (w0 := W) W.heap.size rfl (.tmp 28) (.tmp 34) 43 56 (.agg #[.int .i64 0, .int .u32 0, .int .u64 0]) 24 rfl Try.underlying43 info56 rfl (by decide) (by decide) (.slice (some ⟨W.heap.size, 0, none⟩) 0 0) [] (L.take i) (some ⟨g, o, none⟩) i c (fun _ => True) (fun _ => False) rfl rfl HR0.out HRC.out (fun x cs h => by rw [kL_open h]; exact kL_mkM _ _ _ _) (fun _ h => h.elim) (fun _ _ => trivial) HB0.out (by simp) (by simp; omega) ?_; intro v1 w1 hR1 hb1 hg1 hat1; have HR1 := Lib.hid hR1; have HB1 := Lib.hid hb1; have hq1 := (hg1.block q (by have := blk_lt H.out.box; simp; omega) (by have := blk_lt H.out.box; simp [Value.ownBlock]; omega)).trans ((H.out.below HB0.out).box); have HQ1 := Lib.hid hq1; clear hR1 hb1 hq1 hg1 hat1 q3 q0; have q4 := cell_of_row _ _ 0 _ _ _ HQ1.out; rw [HN.out] at q4; have f4 := blk_frozen HQ1.out 0)
        go_ret
        refine ⟨v1, rfl, i, ⟨by rw [HN.out]; exact hi, HK.out, ?_⟩, ?_, ⟨A', c - i, H.out.drop (by rw [HN.out]; exact hi) HA.out.symm ?_ ?_⟩, ?_⟩
        · intro y hy
          rw [HX.out] at hy
          cases hy
          have := HNE.out
          omega
        · have := own_of_kR HR1.out
          rw [List.nil_append, List.length_take, HN.out, Nat.min_eq_left hi] at this
          exact own_setCell this (own_ne this HQ1.out (by decide)) _
        · rw [HN.out]; exact blk_set HQ1.out 0 _
        · intro g' cs' hg'
          have hne : g' ≠ q := by
            rintro rfl
            have h9 := H.out.box
            rw [hg'] at h9
            simp at h9
          rw [Below.heap_setCell _ _ _ _ hne]
          exact HB1.out.block g' (blk_lt hg')
        · exact Off.set (S := fun i => i = q) (Off.below HB1.out) rfl _
    · have q2 : decide ((i : Int) < (n : Int)) = false := decide_eq_false (by omega)
      have hct := HCT.out i hi
      have hcf := HCF.out i hi
      have q3 := cell_of_row _ _ 0 _ _ _ (H.out.below (below_alloc (Below.refl W.heap.size W) (.cells #[] 56))).box
      rw [HN.out] at q3
      have HRC := Lib.hid ((H.out.below (below_alloc (Below.refl W.heap.size W) (.cells #[] 56))).takeC (m := i) (by rw [HN.out]; exact hi))
      have HR0 := Lib.hid (kR_empty W W.heap.size (Nat.le_refl _))
      have HB0 := Lib.hid (below_alloc (Below.refl W.heap.size W) (.cells #[] 56))
      simp only [Int.toNat_natCast] at hct hcf
      obtain ⟨A', hA'⟩ : ∃ A', (if c = i then A else Option.map (fun x => x.add (i * 3)) A) = A' := ⟨_, rfl⟩
      rw [hA'] at hcf
      have HA := Lib.hid hA'
      clear hA'
      go_wp2_with ((with_reducible refine gate_builtin (b := .append) (xs := #[.tmp 28, .tmp 34]) rfl ?_); at_builtin; refine Kd.R_append_rows kL (w0 := W) W.heap.size rfl (.tmp 28) (.tmp 34) 43 56 (.agg #[.int .i64 0, .int .u32 0, .int .u64 0]) 24 rfl Try.underlying43 info56 rfl (by decide) (by decide) (.slice (some ⟨W.heap.size, 0, none⟩) 0 0) [] (L.take i) (A) i c (fun _ => True) (fun _ => False) rfl rfl HR0.out HRC.out (fun x cs h => by rw [kL_open h]; exact kL_mkM _ _ _ _) (fun _ h => h.elim) (fun _ _ => trivial) HB0.out (by simp) (by simp; omega) ?_; intro v1 w1 hR1 hb1 hg1 hat1; have HR1 := Lib.hid hR1; have HB1 := Lib.hid hb1; have hq1 := (hg1.block q (by have := blk_lt H.out.box; simp; omega) (by have := blk_lt H.out.box; simp [Value.ownBlock]; omega)).trans ((H.out.below HB0.out).box); have HQ1 := Lib.hid hq1; clear hR1 hb1 hq1 hg1 hat1 q3 q0; have q4 := cell_of_row _ _ 0 _ _ _ HQ1.out; rw [HN.out] at q4; have f4 := blk_frozen HQ1.out 0)
      go_ret
      refine ⟨v1, rfl, i, ⟨by rw [HN.out]; exact hi, HK.out, ?_⟩, ?_, ⟨A', c - i, H.out.drop (by rw [HN.out]; exact hi) HA.out.symm ?_ ?_⟩, ?_⟩
      · intro y hy
        have := (List.getElem?_eq_some_iff.1 hy).1
        rw [HN.out] at this
        omega
      · have := own_of_kR HR1.out
        rw [List.nil_append, List.length_take, HN.out, Nat.min_eq_left hi] at this
        exact own_setCell this (own_ne this HQ1.out (by decide)) _
      · rw [HN.out]; exact blk_set HQ1.out 0 _
      · intro g' cs' hg'
        have hne : g' ≠ q := by
          rintro rfl
          have h9 := H.out.box
          rw [hg'] at h9
          simp at h9
        rw [Below.heap_setCell _ _ _ _ hne]
        exact HB1.out.block g' (blk_lt hg')
      · exact Off.set (S := fun i => i = q) (Off.below HB1.out) rfl _
end Go.Proofs.Ytfkbiecbnjddmaa
