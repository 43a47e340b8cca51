/- Row.Add. -/
import Derived.Test.YtfkbiecbnjddmaaLAdd
namespace Go.Proofs.Ytfkbiecbnjddmaa
open Go.RowKit Go.MapKept Go.ChangeMaps Go.Proofs.YtfkbiecbnjddmaaW.PrintWords
set_option linter.unusedVariables false
theorem Is.lookup_same {W : World} {s : St} {xs : List Lz} (h : Is W s xs) {k : Int × Int} (hk : okKey k) {i : Nat} {x : Lz} (hx : xs[i]? = some x) (hkx : x.key = k) :
    (Instr.lookup 74 (.map (some s.M)) (keyV k) true).run Try.prog W = .ok (.tuple #[.int .i64 i, .bool true]) W := by
  obtain ⟨n, hm⟩ := h.map
  rcases hm.lookup key87 Try.underlying74 zero3 hk with ⟨p, hp, hr⟩ | ⟨hno, hr⟩
  · rw [hr, hm.nodup hp ⟨i, x, hx, hkx, rfl⟩]
  · exact absurd ⟨i, x, hx, hkx, rfl⟩ (hno i)
theorem Is.lookup_none {W : World} {s : St} {xs : List Lz} (h : Is W s xs) {k : Int × Int} (hk : okKey k) (hno : k ∉ xs.map Lz.key) :
    (Instr.lookup 74 (.map (some s.M)) (keyV k) true).run Try.prog W = .ok (.tuple #[.int .i64 0, .bool false]) W := by
  rcases h.lookup hk with ⟨i, x, hx, hkx, _⟩ | ⟨_, hr⟩
  · exact absurd (hkx ▸ List.mem_map.2 ⟨x, List.mem_of_getElem? hx, rfl⟩) hno
  · exact hr
set_option maxHeartbeats 2000000
set_option maxRecDepth 100000
theorem add_calls {W : World} {r : Nat} {s : St} {xs : List Lz} (h : RowAt W r s xs) (hl : xs.length < 1000) {x : Lz} (hx : okLz x) :
    Calls Try.prog 22 #[.pointer (some ⟨r, 0, none⟩), x.val] W fun e w' =>
      (x.key ∈ xs.map Lz.key ∧ e = .returned (.int .i64 14) ∧ RowOut W w' r s xs) ∨
      (x.key ∉ xs.map Lz.key ∧ e = .returned (.int .i64 0) ∧ RowOut W w' r s (xs ++ [x])) := by
  have H := Lib.hid h
  have okX : okKey x.key := ⟨hx.1, hx.2.1⟩
  clear h
  unfold Lz.val
  go_enter Try.func22, Try.ntmps22
  go_wp2_with fail
  refine (own_calls (H.out.below (below_alloc (Below.refl _ _) _))).mono ?_
  rintro e w1 ⟨rfl, hb⟩
  have HB := Lib.hid (below_then (below_alloc (Below.refl W.heap.size W) _) (by simp) hb)
  have HG := Lib.hid (blk_below (blk_new W _) hb)
  clear hb
  obtain ⟨G, hG⟩ : ∃ G, W.heap.size = G := ⟨_, rfl⟩
  have HGG := Lib.hid hG
  rw [hG] at HG
  rw [hG]
  clear hG
  go_wp2_with fail
  obtain ⟨w2, hw2⟩ : ∃ w2, w1.alloc (.cells #[.pointer (some ⟨s.L, 0, none⟩)] 78) = w2 := ⟨_, rfl⟩
  rw [hw2]
  have HB2 := Lib.hid (show Below W.heap.size W w2 by rw [← hw2]; exact HB.out.alloc HB.out.size _)
  have HG2 := Lib.hid (show w2.heap[G]? = some (.cells #[.int .i64 x.1, .int .u32 x.2.1, .int .u64 x.2.2] 55 (0, 0)) by rw [← hw2]; exact blk_alloc HG.out _)
  have HP2 := Lib.hid (show w2.heap[w1.heap.size]? = some (.cells #[.pointer (some ⟨s.L, 0, none⟩)] 78 (0, 0)) by rw [← hw2]; exact blk_new w1 _)
  obtain ⟨P, hP⟩ : ∃ P, w1.heap.size = P := ⟨_, rfl⟩
  rw [hP] at HP2
  rw [hP]
  clear hw2 hP HG
  have HR2 := Lib.hid (H.out.below HB2.out)
  have q0 : w2.cell? ⟨P, 0, none⟩ = some (.pointer (some ⟨s.L, 0, none⟩)) := cell_of_row _ _ 0 _ _ _ HP2.out
  have q1 : w2.cell? ⟨G, 0, none⟩ = some (.int .i64 x.1) := cell_of_row _ _ 0 _ _ _ HG2.out
  have q2 : w2.cell? ⟨G, 1, none⟩ = some (.int .u32 x.2.1) := cell_of_row _ _ 1 _ _ _ HG2.out
  have q3 : w2.cell? ⟨G, 2, none⟩ = some (.int .u64 x.2.2) := cell_of_row _ _ 2 _ _ _ HG2.out
  have c1 : w2.cell? ⟨s.L, 1, none⟩ = some (.map (some s.M)) := cell_of_row _ _ 1 _ _ _ HR2.out.is.list
  have cr : w2.cell? ⟨r, 0, none⟩ = some (.iface 78 (.agg #[.pointer (some ⟨s.L, 0, none⟩)])) := cell_of_row _ _ 0 _ _ _ HR2.out.row
  have KB : ∀ w w', Below w.heap.size w w' → (fun W' => W'.cell? ⟨P, 0, none⟩ = some (.pointer (some ⟨s.L, 0, none⟩)) ∧ W'.cell? ⟨G, 0, none⟩ = some (.int .i64 x.1) ∧ W'.cell? ⟨G, 1, none⟩ = some (.int .u32 x.2.1) ∧ W'.cell? ⟨G, 2, none⟩ = some (.int .u64 x.2.2) ∧ W'.cell? ⟨s.L, 1, none⟩ = some (.map (some s.M)) ∧ W'.cell? ⟨r, 0, none⟩ = some (.iface 78 (.agg #[.pointer (some ⟨s.L, 0, none⟩)])) ∧ Hid (RowAt W' r s xs ∧ Below W.heap.size W W')) w → (fun W' => W'.cell? ⟨P, 0, none⟩ = some (.pointer (some ⟨s.L, 0, none⟩)) ∧ W'.cell? ⟨G, 0, none⟩ = some (.int .i64 x.1) ∧ W'.cell? ⟨G, 1, none⟩ = some (.int .u32 x.2.1) ∧ W'.cell? ⟨G, 2, none⟩ = some (.int .u64 x.2.2) ∧ W'.cell? ⟨s.L, 1, none⟩ = some (.map (some s.M)) ∧ W'.cell? ⟨r, 0, none⟩ = some (.iface 78 (.agg #[.pointer (some ⟨s.L, 0, none⟩)])) ∧ Hid (RowAt W' r s xs ∧ Below W.heap.size W W')) w' := by
    rintro w w' hb ⟨a1, a2, a3, a4, a5, a6, a9⟩
    exact ⟨pw_cell_below hb a1, pw_cell_below hb a2, pw_cell_below hb a3, pw_cell_below hb a4, pw_cell_below hb a5, pw_cell_below hb a6, Lib.hid ⟨a9.out.1.below hb, below_then a9.out.2 a9.out.2.size hb⟩⟩
  have SH := KB w2 w2.drew (Below.drew (Below.refl _ _)) ⟨q0, q1, q2, q3, c1, cr, Lib.hid ⟨HR2.out, HB2.out⟩⟩
  have EX := who_eq x
  by_cases hin : x.key ∈ xs.map Lz.key
  · obtain ⟨z, hz, hzk⟩ := List.mem_map.1 hin
    obtain ⟨i, hi⟩ := List.getElem?_of_mem hz
    have EN : ∀ w, (fun W' => W'.cell? ⟨P, 0, none⟩ = some (.pointer (some ⟨s.L, 0, none⟩)) ∧ W'.cell? ⟨G, 0, none⟩ = some (.int .i64 x.1) ∧ W'.cell? ⟨G, 1, none⟩ = some (.int .u32 x.2.1) ∧ W'.cell? ⟨G, 2, none⟩ = some (.int .u64 x.2.2) ∧ W'.cell? ⟨s.L, 1, none⟩ = some (.map (some s.M)) ∧ W'.cell? ⟨r, 0, none⟩ = some (.iface 78 (.agg #[.pointer (some ⟨s.L, 0, none⟩)])) ∧ Hid (RowAt W' r s xs ∧ Below W.heap.size W W')) w → (Instr.lookup 74 (.map (some s.M)) (.agg #[.int .i64 x.1, .int .u32 x.2.1]) true).run Try.prog w = .ok (.tuple #[.int .i64 i, .bool true]) w :=
      fun w h => h.2.2.2.2.2.2.out.1.is.lookup_same okX hi hzk
    have HIN := Lib.hid hin
    dsimp only at SH KB EN
    clear q0 q1 q2 q3 c1 cr hin hz hzk hi okX
    go_region_held3 (fun W' => W'.cell? ⟨P, 0, none⟩ = some (.pointer (some ⟨s.L, 0, none⟩)) ∧ W'.cell? ⟨G, 0, none⟩ = some (.int .i64 x.1) ∧ W'.cell? ⟨G, 1, none⟩ = some (.int .u32 x.2.1) ∧ W'.cell? ⟨G, 2, none⟩ = some (.int .u64 x.2.2) ∧ W'.cell? ⟨s.L, 1, none⟩ = some (.map (some s.M)) ∧ W'.cell? ⟨r, 0, none⟩ = some (.iface 78 (.agg #[.pointer (some ⟨s.L, 0, none⟩)])) ∧ Hid (RowAt W' r s xs ∧ Below W.heap.size W W')) (first | assumption | exact KB _ _ (by assumption) (by assumption))
      (first
        | (go_at_call 32; refine (lease_Lease_who.calls x.1 x.2.1 x.2.2 x.1 x.2.1 _ EX).mono ?_; rintro e w' ⟨rfl, hd⟩)
        | (have hr1 := EN _ (by assumption); rw [hr1]; clear EN hr1))
    clear SH KB
    rename_i hHeld
    obtain ⟨q0, q1, q2, q3, c1, cr, hh⟩ := hHeld
    go_wp2_with fail
    go_ret
    exact .inl ⟨HIN.out, rfl, RowOut.same hh.out.1 (Off.below hh.out.2)⟩
  · have EN : ∀ w, (fun W' => W'.cell? ⟨P, 0, none⟩ = some (.pointer (some ⟨s.L, 0, none⟩)) ∧ W'.cell? ⟨G, 0, none⟩ = some (.int .i64 x.1) ∧ W'.cell? ⟨G, 1, none⟩ = some (.int .u32 x.2.1) ∧ W'.cell? ⟨G, 2, none⟩ = some (.int .u64 x.2.2) ∧ W'.cell? ⟨s.L, 1, none⟩ = some (.map (some s.M)) ∧ W'.cell? ⟨r, 0, none⟩ = some (.iface 78 (.agg #[.pointer (some ⟨s.L, 0, none⟩)])) ∧ Hid (RowAt W' r s xs ∧ Below W.heap.size W W')) w → (Instr.lookup 74 (.map (some s.M)) (.agg #[.int .i64 x.1, .int .u32 x.2.1]) true).run Try.prog w = .ok (.tuple #[.int .i64 0, .bool false]) w :=
      fun w h => h.2.2.2.2.2.2.out.1.is.lookup_none okX hin
    have HIN := Lib.hid hin
    dsimp only at SH KB EN
    clear q0 q1 q2 q3 c1 cr hin okX
    go_region_held3 (fun W' => W'.cell? ⟨P, 0, none⟩ = some (.pointer (some ⟨s.L, 0, none⟩)) ∧ W'.cell? ⟨G, 0, none⟩ = some (.int .i64 x.1) ∧ W'.cell? ⟨G, 1, none⟩ = some (.int .u32 x.2.1) ∧ W'.cell? ⟨G, 2, none⟩ = some (.int .u64 x.2.2) ∧ W'.cell? ⟨s.L, 1, none⟩ = some (.map (some s.M)) ∧ W'.cell? ⟨r, 0, none⟩ = some (.iface 78 (.agg #[.pointer (some ⟨s.L, 0, none⟩)])) ∧ Hid (RowAt W' r s xs ∧ Below W.heap.size W W')) (first | assumption | exact KB _ _ (by assumption) (by assumption))
      (first
        | (go_at_call 32; refine (lease_Lease_who.calls x.1 x.2.1 x.2.2 x.1 x.2.1 _ EX).mono ?_; rintro e w' ⟨rfl, hd⟩)
        | (have hr1 := EN _ (by assumption); rw [hr1]; clear EN hr1))
    clear SH KB
    rename_i hHeld
    obtain ⟨q0, q1, q2, q3, c1, cr, hh⟩ := hHeld
    go_wp2_with fail
    go_still_tail 6, (by kernel_rfl)
    change wpList _ _ _ _ _ (World.drew _)
    generalize hw5 : World.drew _ = w5
    have hb5 : Below w'.heap.size w' w5 := by rw [← hw5]; exact Below.drew (Below.refl _ _)
    have HR5 := Lib.hid (hh.out.1.below hb5)
    have HB5 := Lib.hid (below_then hh.out.2 hh.out.2.size hb5)
    clear hw5 hb5 EN EX q0 q1 q2 q3 c1 cr
    go_wp2_with fail
    refine (hpush_calls (x := x) HR5.out.is HR5.out.heap hx HIN.out hl).mono ?_
    rintro e w6 ⟨rfl, ho⟩
    have HOUT := Lib.hid ho
    clear ho
    go_wp2_with fail
    go_ret
    exact .inr ⟨HIN.out, rfl, RowOut.of_out HR5.out (Off.below HB5.out) HOUT.out⟩
end Go.Proofs.Ytfkbiecbnjddmaa
