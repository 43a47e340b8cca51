/- Row.Add, Drop, First. -/
import Derived.Test.YtfkbiecbnjddmaaLOwn
namespace Go.Proofs.Ytfkbiecbnjddmaa
open Go.RowKit Go.MapKept Go.ChangeMaps Go.Proofs.YtfkbiecbnjddmaaW.PrintWords
set_option linter.unusedVariables false
/-- the look-up in a row's map -/
theorem Is.lookup {W : World} {s : St} {xs : List Lz} (h : Is W s xs) {k : Int × Int} (hk : okKey k) :
    (∃ (i : Nat) (x : Lz), xs[i]? = some x ∧ x.key = k ∧ (Instr.lookup 74 (.map (some s.M)) (keyV k) true).run Try.prog W = .ok (.tuple #[.int .i64 i, .bool true]) W) ∨
    (k ∉ xs.map Lz.key ∧ (Instr.lookup 74 (.map (some s.M)) (keyV k) true).run Try.prog W = .ok (.tuple #[.int .i64 0, .bool false]) W) := by
  obtain ⟨n, hm⟩ := h.map
  rcases hm.lookup key87 Try.underlying74 zero3 hk with ⟨p, ⟨i, x, hi, hx, rfl⟩, hr⟩ | ⟨hno, hr⟩
  · exact .inl ⟨i, x, hi, hx, hr⟩
  · refine .inr ⟨fun hc => ?_, hr⟩
    obtain ⟨x, hx, rfl⟩ := List.mem_map.1 hc
    obtain ⟨i, hi⟩ := List.getElem?_of_mem hx
    exact hno i ⟨i, x, hi, rfl, rfl⟩
set_option maxHeartbeats 2000000
set_option maxRecDepth 100000
theorem first_calls {W : World} {r : Nat} {s : St} {xs : List Lz} (h : RowAt W r s xs) (hl : xs.length ≤ 1000) :
    Calls Try.prog 24 #[.pointer (some ⟨r, 0, none⟩)] W fun e w' => e = .returned (.tuple #[(ix xs 0).val, .bool (decide (0 < xs.length))]) ∧ Below W.heap.size W w' := by
  have H := Lib.hid h
  clear h
  go_enter Try.func24, Try.ntmps24
  go_wp2_with fail
  refine (own_calls (H.out.below (below_alloc (Below.refl _ _) _))).mono ?_
  rintro e w1 ⟨rfl, hb⟩
  have HB := Lib.hid (below_then (below_alloc (Below.refl W.heap.size W) _) (by simp) hb)
  have HG := Lib.hid (blk_below (blk_new W _) hb)
  clear hb
  obtain ⟨G, hG⟩ : ∃ G, W.heap.size = G := ⟨_, rfl⟩
  have HGG := Lib.hid hG
  rw [hG] at HG
  rw [hG]
  clear hG
  go_wp2_with fail
  obtain ⟨w2, hw2⟩ : ∃ w2, w1.alloc (.cells #[.pointer (some ⟨s.L, 0, none⟩)] 78) = w2 := ⟨_, rfl⟩
  rw [hw2]
  have HB2 := Lib.hid (show Below W.heap.size W w2 by rw [← hw2]; exact HB.out.alloc HB.out.size _)
  have HG2 := Lib.hid (show w2.heap[G]? = some (.cells #[.int .i64 0, .int .u32 0, .int .u64 0] 55 (0, 0)) by rw [← hw2]; exact blk_alloc HG.out _)
  have HP2 := Lib.hid (show w2.heap[w1.heap.size]? = some (.cells #[.pointer (some ⟨s.L, 0, none⟩)] 78 (0, 0)) by rw [← hw2]; exact blk_new w1 _)
  obtain ⟨P, hP⟩ : ∃ P, w1.heap.size = P := ⟨_, rfl⟩
  rw [hP] at HP2
  rw [hP]
  clear hw2 hP HG
  refine (len_calls (H.out.is.below HB2.out) hl).mono ?_
  rintro e w3 ⟨rfl, hb⟩
  have HB3 := Lib.hid (below_then HB2.out HB2.out.size hb)
  have HG3 := Lib.hid (blk_below HG2.out hb)
  have HP3 := Lib.hid (blk_below HP2.out hb)
  have hbb := Lib.hid hb
  clear hb HB2 HG2 HP2
  have gc0 := blk_cell HG3.out 0
  have gc1 := blk_cell HG3.out 1
  have gc2 := blk_cell HG3.out 2
  have gf0 := blk_frozen HG3.out 0
  have gf1 := blk_frozen HG3.out 1
  have gf2 := blk_frozen HG3.out 2
  have pc := blk_cell HP3.out 0
  simp at gc0 gc1 gc2 pc
  have HI3 := Lib.hid (H.out.is.below HB3.out)
  cases xs with
  | nil =>
    go_wp2_with fail
    refine bodyPost_ret (results_ct rfl _ _ G 55 #[.int .i64 0, .int .u32 0, .int .u64 0] (0, 0) _ rfl ?_ Try.underlying55 rfl (by kernel_rfl)) rfl ?_
    · have := blk_set (blk_set (blk_set HG3.out 0 (.int .i64 0)) 1 (.int .u32 0)) 2 (.int .u64 0)
      simpa using this
    · refine ⟨rfl, ?_⟩
      have hGs : W.heap.size ≤ G := Nat.le_of_eq HGG.out
      exact ((HB3.out.setCell (p := ⟨G, 0, none⟩) hGs _).setCell (p := ⟨G, 1, none⟩) hGs _).setCell (p := ⟨G, 2, none⟩) hGs _
  | cons x t =>
    obtain ⟨g, cap, hv, hcap, a1, a2, a3⟩ := HI3.out.cells (i := 0) (x := x) rfl
    have c0 : w3.cell? ⟨s.L, 0, none⟩ = some (.slice (some ⟨g, 0, none⟩) (x :: t).length cap) := by rw [cell_of_row _ _ _ _ _ _ HI3.out.list, hv]; rfl
    simp only [Nat.zero_mul, Nat.zero_add] at a1 a2 a3
    obtain ⟨n, hn⟩ : ∃ n, (x :: t).length = n + 1 := ⟨t.length, rfl⟩
    rw [hn] at c0
    have e0 : (((x :: t).length : Int) == 0) = false := beq_eq_false_iff_ne.2 (by rw [hn]; omega)
    have e1 : (0 : Int) < ((n + 1 : Nat) : Int) := by omega
    have hd : decide (0 < (x :: t).length) = true := by simp
    have HD := Lib.hid hd
    clear hd
    rw [hn] at e0 ⊢
    go_wp2_with fail
    refine bodyPost_ret (results_ct rfl _ _ G 55 #[.int .i64 x.1, .int .u32 x.2.1, .int .u64 x.2.2] (0, 0) _ rfl ?_ Try.underlying55 rfl (by kernel_rfl)) rfl ?_
    · have := blk_set (blk_set (blk_set HG3.out 0 (.int .i64 x.1)) 1 (.int .u32 x.2.1)) 2 (.int .u64 x.2.2)
      simpa using this
    · refine ⟨by rw [← hn, HD.out]; rfl, ?_⟩
      have hGs : W.heap.size ≤ G := Nat.le_of_eq HGG.out
      exact ((HB3.out.setCell (p := ⟨G, 0, none⟩) hGs _).setCell (p := ⟨G, 1, none⟩) hGs _).setCell (p := ⟨G, 2, none⟩) hGs _
theorem drop_calls {W : World} {r : Nat} {s : St} {xs : List Lz} (h : RowAt W r s xs) (hl : xs.length ≤ 1000) {k : Int × Int} (hk : okKey k) :
    Calls Try.prog 17 #[.pointer (some ⟨r, 0, none⟩), .int .i64 k.1, .int .u32 k.2] W fun e w' =>
      (k ∉ xs.map Lz.key ∧ e = .returned (.int .i64 13) ∧ RowOut W w' r s xs) ∨
      (∃ x, x ∈ xs ∧ x.key = k ∧ e = .returned (.int .i64 0) ∧ RowOut W w' r s (xs.erase x)) := by
  have H := Lib.hid h
  clear h
  go_enter Try.func17, Try.ntmps17
  go_wp2_with fail
  refine (own_calls H.out).mono ?_
  rintro e w1 ⟨rfl, hb⟩
  have hb2 := hb.alloc hb.size (.cells #[.pointer (some ⟨s.L, 0, none⟩)] 78)
  have HR := Lib.hid (H.out.below hb2)
  have HO := Lib.hid (Off.below (S := s.foot) hb2)
  have c1 : (w1.alloc (.cells #[.pointer (some ⟨s.L, 0, none⟩)] 78)).cell? ⟨s.L, 1, none⟩ = some (.map (some s.M)) := cell_of_row _ _ 1 _ _ _ HR.out.is.list
  have cr : (w1.alloc (.cells #[.pointer (some ⟨s.L, 0, none⟩)] 78)).cell? ⟨r, 0, none⟩ = some (.iface 78 (.agg #[.pointer (some ⟨s.L, 0, none⟩)])) := cell_of_row _ _ 0 _ _ _ HR.out.row
  clear hb hb2
  have hlook := HR.out.is.lookup hk
  simp only [keyV] at hlook
  rcases hlook with ⟨i, x, hi, hx, hr⟩ | ⟨hno, hr⟩
  · have HRUN := Lib.hid hr
    have HXI := Lib.hid hi
    have HXK := Lib.hid hx
    clear hr hi hx
    go_wp2_with fail
    rw [HRUN.out]
    go_wp2_with fail
    obtain ⟨m, hm⟩ : ∃ m, xs.length = m + 1 := ⟨xs.length - 1, by have := (List.getElem?_eq_some_iff.1 HXI.out).1; omega⟩
    have him : i ≤ m := by have := (List.getElem?_eq_some_iff.1 HXI.out).1; omega
    refine (hremove_calls HR.out.is HR.out.heap hm him hl).mono ?_
    rintro e w2 ⟨rfl, ho⟩
    have HOUT := Lib.hid ho
    clear ho
    go_wp2_with fail
    go_ret
    refine .inr ⟨x, List.mem_of_getElem? HXI.out, HXK.out, rfl, ?_⟩
    have := HOUT.out
    rw [ix_get HXI.out] at this
    exact RowOut.of_out HR.out HO.out this
  · have HRUN := Lib.hid hr
    have HNO := Lib.hid hno
    clear hr hno
    go_wp2_with fail
    rw [HRUN.out]
    go_wp2_with fail
    go_ret
    exact .inl ⟨HNO.out, rfl, RowOut.same HR.out HO.out⟩
end Go.Proofs.Ytfkbiecbnjddmaa
