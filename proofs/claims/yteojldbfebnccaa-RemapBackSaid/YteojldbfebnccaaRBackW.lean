/- RemapBack: the walk. (Printed by gen_backw.py.) -/
import Derived.Test.YteojldbfebnccaaRTop
namespace Go.Proofs.Yteojldbfebnccaa
open Go.RowKit Go.Proofs.YteojldbfebnccaaW.PrintWords Go.Proofs.YteojldbfebnccaaW.PrintLast Go.Proofs.YteojldbfebnccaaW.PrintMore
set_option linter.unusedVariables false
set_option linter.unusedSimpArgs false
set_option maxRecDepth 100000
theorem moves_sg {l : List S49} (hl : l.length ≤ 1000) : ∀ (m n k : Nat), n + m = l.length → m + 1 ≤ k → foyerlaw19_moves.l0 k l l (n : Int) = some true
  | 0, n, k, hn, hk => by
    obtain ⟨k, rfl⟩ : ∃ j, k = j + 1 := ⟨k - 1, by omega⟩
    unfold foyerlaw19_moves.l0
    rw [if_neg (by omega)]
  | m + 1, n, k, hn, hk => by
    obtain ⟨k, rfl⟩ : ∃ j, k = j + 1 := ⟨k - 1, by omega⟩
    unfold foyerlaw19_moves.l0
    rw [w64 (by omega), moves_sg hl m (n + 1) k (by omega) (by omega)]
    simp
theorem moves_sm {l : List S49} (hl : l.length ≤ 1000) : foyerlaw19_moves.f 2000 l l = some true := by
  unfold foyerlaw19_moves.f
  rw [if_pos rfl]
  exact moves_sg hl l.length 0 2000 (by omega) (by omega)
section
variable {w W W' : World} {HA HB ca cb : Nat} {RA RB : Option Addr} {ra rb : List S61} {v : Value} {l : List S49}
/-- moves that are read -/
def MvRd (W : World) (A : Option Addr) (n c : Nat) (l : List S49) : Prop := l.length = n ∧ l.length ≤ c ∧ Kd.C k49 W A l.length l
theorem MvRd.below {A : Option Addr} {n c : Nat} (h : MvRd W A n c l) (hb : Below W.heap.size W W') : MvRd W' A n c l := ⟨h.1, h.2.1, Kd.C_below h.2.2 hb⟩
theorem MvRd.of_top {A : Option Addr} {n c : Nat} (h : TopAt w W HA HB RA ca RB cb ra rb (.slice A n c) l) (hn : l.length = n) : MvRd W A n c l := ⟨hn, (C49_of_own h.own).2, (C49_of_own h.own).1⟩
theorem MvRd.of_R {base : Nat} {ok : Nat → Prop} {A : Option Addr} {n c : Nat} (h : Kd.R k49 49 W base ok (.slice A n c) l) : MvRd W A n c l := by
  obtain ⟨A', c', e, hl, hC⟩ := Kd.R_reads h
  simp only [Value.slice.injEq] at e
  obtain ⟨rfl, rfl, rfl⟩ := e
  exact ⟨rfl, hl, hC⟩
/-- the halls that are read -/
structure HlRd (W : World) (HA HB : Nat) (RA : Option Addr) (ca : Nat) (RB : Option Addr) (cb : Nat) (ra rb : List S61) : Prop where
  bA : W.heap[HA]? = some (.cells #[.slice RA ra.length ca] 29 (0, 0))
  bB : W.heap[HB]? = some (.cells #[.slice RB rb.length cb] 29 (0, 0))
  ra : Kd.C k61 W RA ra.length ra ∧ ra.length ≤ ca
  rb : Kd.C k61 W RB rb.length rb ∧ rb.length ≤ cb
theorem HlRd.of_top (h : TopAt w W HA HB RA ca RB cb ra rb v l) : HlRd W HA HB RA ca RB cb ra rb := ⟨h.bA, h.bB, C61_of_R h.rra, C61_of_R h.rrb⟩
theorem HlRd.below (h : HlRd W HA HB RA ca RB cb ra rb) (hb : Below W.heap.size W W') : HlRd W' HA HB RA ca RB cb ra rb :=
  ⟨blk_below h.bA hb, blk_below h.bB hb, ⟨Kd.C_below h.ra.1 hb, h.ra.2⟩, ⟨Kd.C_below h.rb.1 hb, h.rb.2⟩⟩
theorem chk_r {A : Option Addr} {n c : Nat} (h : HlRd W HA HB RA ca RB cb ra rb) (hm : MvRd W A n c l) {r1 r2 : Int} (hv : remap_Check.v ra rb l = (r1, r2)) :
    Calls Try.prog 11 #[.agg #[.slice RA ra.length ca], .agg #[.slice RB rb.length cb], .slice A n c] W fun e w' => e = .returned (.tuple #[.int .i64 r1, .int .i64 r2]) ∧ Below W.heap.size W w' := by
  obtain ⟨rfl, hc, hC⟩ := hm
  exact remap_Check.calls RA ca ra RB cb rb A c l r1 r2 W h.ra.1 h.ra.2 h.rb.1 h.rb.2 hC hc (by unfold remap_Check.f; rw [hv])
theorem chk_r2 {A : Option Addr} {n c : Nat} (h : HlRd W HA HB RA ca RB cb ra rb) (hm : MvRd W A n c l) {r1 r2 : Int} (hv : remap_Check.v rb ra l = (r1, r2)) :
    Calls Try.prog 11 #[.agg #[.slice RB rb.length cb], .agg #[.slice RA ra.length ca], .slice A n c] W fun e w' => e = .returned (.tuple #[.int .i64 r1, .int .i64 r2]) ∧ Below W.heap.size W w' := by
  obtain ⟨rfl, hc, hC⟩ := hm
  exact remap_Check.calls RB cb rb RA ca ra A c l r1 r2 W h.rb.1 h.rb.2 h.ra.1 h.ra.2 hC hc (by unfold remap_Check.f; rw [hv])
theorem back_r {A : Option Addr} {n c : Nat} (hm : MvRd W A n c l) (hl : n ≤ 1000) {r : List S49} (hv : remap_Back.v l = r) {n2 : Nat} (hn2 : r.length = n2) :
    Calls Try.prog 12 #[.slice A n c] W fun e w' => ∃ A' c', e = .returned (.slice A' n2 c') ∧ MvRd w' A' n2 c' r ∧ Below W.heap.size W w' := by
  obtain ⟨rfl, hc, hC⟩ := hm
  subst hn2
  refine (remap_Back.calls A c l r W hC hc (by unfold remap_Back.f; rw [if_pos (by omega), hv])).mono ?_
  rintro e w' ⟨v, rfl, hr, hb⟩
  obtain ⟨A', c', rfl⟩ := Kd.R_slice hr
  exact ⟨A', c', rfl, MvRd.of_R hr, hb⟩
theorem moves_r {A A' : Option Addr} {n c n' c' : Nat} (hm : MvRd W A n c l) (hm' : MvRd W A' n' c' l) (hl : n ≤ 1000) :
    Calls Try.prog 13 #[.slice A n c, .slice A' n' c'] W fun e w' => e = .returned (.bool true) ∧ Below W.heap.size W w' := by
  obtain ⟨rfl, hc, hC⟩ := hm
  obtain ⟨rfl, hc', hC'⟩ := hm'
  refine (foyerlaw19_moves.calls 2000 A c l A' c' l true W hC hc hC' hc' (moves_sm hl)).mono ?_
  rintro e w' ⟨rfl, hd⟩
  exact ⟨rfl, hd.below⟩
theorem to_r {A : Option Addr} {n c : Nat} (hm : MvRd W A n c l) {s r1 : Int} {r2 : Bool} (hv : remap_To.v l s = (r1, r2)) :
    Calls Try.prog 17 #[.slice A n c, .int .i64 s] W fun e w' => e = .returned (.tuple #[.int .i64 r1, .bool r2]) ∧ Below W.heap.size W w' := by
  obtain ⟨rfl, hc, hC⟩ := hm
  exact remap_To.calls A c l s r1 r2 W hC hc (by unfold remap_To.f; rw [hv])
theorem from_r {A : Option Addr} {n c : Nat} (hm : MvRd W A n c l) {s r1 : Int} {r2 : Bool} (hv : remap_From.v l s = (r1, r2)) :
    Calls Try.prog 18 #[.slice A n c, .int .i64 s] W fun e w' => e = .returned (.tuple #[.int .i64 r1, .bool r2]) ∧ Below W.heap.size W w' := by
  obtain ⟨rfl, hc, hC⟩ := hm
  exact remap_From.calls A c l s r1 r2 W hC hc (by unfold remap_From.f; rw [hv])
theorem lost_r {A : Option Addr} {n c : Nat} (h : HlRd W HA HB RA ca RB cb ra rb) (hm : MvRd W A n c l) :
    Calls Try.prog 14 #[.agg #[.slice RA ra.length ca], .slice A n c] W fun e w' => ∃ v, e = .returned v ∧ Kd.R (Kd.int .i64) 3 w' W.heap.size (fun _ => True) v (remap_Lost.v ra l) ∧ Below W.heap.size W w' := by
  obtain ⟨rfl, hc, hC⟩ := hm
  exact remap_Lost.calls RA ca ra A c l _ W h.ra.1 h.ra.2 hC hc rfl
theorem new_r {A : Option Addr} {n c : Nat} (h : HlRd W HA HB RA ca RB cb ra rb) (hm : MvRd W A n c l) :
    Calls Try.prog 15 #[.agg #[.slice RB rb.length cb], .slice A n c] W fun e w' => ∃ v, e = .returned v ∧ Kd.R (Kd.int .i64) 3 w' W.heap.size (fun _ => True) v (remap_New.v rb l) ∧ Below W.heap.size W w' := by
  obtain ⟨rfl, hc, hC⟩ := hm
  exact remap_New.calls RB cb rb A c l _ W h.rb.1 h.rb.2 hC hc rfl
theorem seats_r {A : Option Addr} {c : Nat} {r : List S61} (h : Kd.C k61 W A r.length r ∧ r.length ≤ c) (hs : foyerlaw19_has.f 100 r = some (seatsI r)) {n : Nat} (hn : (seatsI r).length = n) :
    Calls Try.prog 16 #[.agg #[.slice A r.length c]] W fun e w' => ∃ A' c', e = .returned (.slice A' n c') ∧ Below W.heap.size W w' := by
  subst hn
  refine (foyerlaw19_has.calls 100 A c r (seatsI r) W h.1 h.2 hs).mono ?_
  rintro e w' ⟨v, rfl, hr, hb⟩
  obtain ⟨A', c', rfl⟩ := Kd.R_slice hr
  exact ⟨A', c', rfl, hb⟩
theorem has_r {A : Option Addr} {c : Nat} {r : List S61} (h : Kd.C k61 W A r.length r ∧ r.length ≤ c) {s : Int} (hv : hall_Has.v r s = true) :
    Calls Try.prog 19 #[.agg #[.slice A r.length c], .int .i64 s] W fun e w' => e = .returned (.bool true) ∧ Below W.heap.size W w' :=
  hall_Has.calls A c r s true W h.1 h.2 (by unfold hall_Has.f; rw [hv])
theorem class_r {A : Option Addr} {c : Nat} {r : List S61} (h : Kd.C k61 W A r.length r ∧ r.length ≤ c) {s k : Int} (hv : hall_Class.v r s = k) :
    Calls Try.prog 20 #[.agg #[.slice A r.length c], .int .i64 s] W fun e w' => e = .returned (.int .i64 k) ∧ Below W.heap.size W w' :=
  hall_Class.calls A c r s k W h.1 h.2 (by unfold hall_Class.f; rw [hv])
end
set_option maxHeartbeats 16000000 in
theorem back_calls {w : World} {pv : Value} {a b : List (Int × Int)} {ch : List Int} (h : PlanIn w pv a b ch) :
    Calls Try.prog 3 #[pv] w fun e w' => e = .returned (.bool true) ∧ Below w.heap.size w w' := by
  have hpi := h
  obtain ⟨A1, c1, A2, c2, A3, c3, rfl, p1, p2, p3, l1, l2, l3⟩ := h.lies
  obtain ⟨oka, cka⟩ := rowsV_ok h.a8
  obtain ⟨okb, ckb⟩ := rowsV_ok h.b8
  have hsa := has_seats oka (rowsV_len a)
  have hsb := has_seats okb (rowsV_len b)
  clear h
  obtain ⟨ra, hra⟩ : ∃ ra, rowsV a = ra := ⟨_, rfl⟩
  obtain ⟨rb, hrb⟩ : ∃ rb, rowsV b = rb := ⟨_, rfl⟩
  obtain ⟨n1, hn1⟩ : ∃ n1, a.length = n1 := ⟨_, rfl⟩
  obtain ⟨n2, hn2⟩ : ∃ n2, b.length = n2 := ⟨_, rfl⟩
  obtain ⟨n3, hn3⟩ : ∃ n3, ch.length = n3 := ⟨_, rfl⟩
  rw [hra] at oka cka hsa
  rw [hrb] at okb ckb hsb
  rw [hn1, hn2, hn3]
  rw [hn1, hn2, hn3] at hpi
  have HPI := Lib.hid hpi
  have HRA := Lib.hid hra
  have HRB := Lib.hid hrb
  have HKA := Lib.hid cka
  have HKB := Lib.hid ckb
  have HSA := Lib.hid hsa
  have HSB := Lib.hid hsb
  clear hsa hsb hpi hn1 hn2 hn3 hra hrb p1 p2 p3 l1 l2 l3 oka okb cka ckb
  go_enter Try.func3, Try.ntmps3
  go_wp2_with fail
  obtain ⟨w0, hw0⟩ : ∃ w0, w.alloc (.cells #[.slice A1 n1 c1, .slice A2 n2 c2, .slice A3 n3 c3] 25) = w0 := ⟨_, rfl⟩
  have hb0 : Below w.heap.size w w0 := by rw [← hw0]; exact below_alloc (Below.refl _ _) _
  have hx0 : w0.heap[w.heap.size]? = some (.cells #[.slice A1 n1 c1, .slice A2 n2 c2, .slice A3 n3 c3] 25 (0, 0)) := by rw [← hw0]; exact blk_new w _
  rw [hw0]
  obtain ⟨B, hB⟩ : ∃ B, w.heap.size = B := ⟨_, rfl⟩
  rw [hB] at hx0
  rw [hB]
  have HBE := Lib.hid hB
  have HB0 := Lib.hid hb0
  have HX0 := Lib.hid hx0
  clear hw0 hb0 hx0 hB
  refine (works_calls w0).mono ?_
  rintro e w1 ⟨rfl, hb⟩
  have HB1 := Lib.hid (below_then HB0.out HB0.out.size hb)
  have HX1 := Lib.hid (blk_below HX0.out hb)
  clear hb HB0 HX0
  have x0 := cell_of_row _ _ 0 _ _ _ HX1.out
  have x1 := cell_of_row _ _ 1 _ _ _ HX1.out
  have x2 := cell_of_row _ _ 2 _ _ _ HX1.out
  go_wp2_with fail
  refine (halls_calls (HPI.out.below HB1.out)).mono ?_
  rintro e u1 ⟨v1, v2, rfl, hr1, hr2, hb⟩
  rw [HRA.out] at hr1
  rw [HRB.out] at hr2
  obtain ⟨RA, ca, rfl⟩ := Kd.R_slice hr1
  obtain ⟨RB, cb, rfl⟩ := Kd.R_slice hr2
  have hbx : Below u1.heap.size u1 ((u1.alloc (.cells #[.slice RA ra.length ca] 29)).alloc (.cells #[.slice RB rb.length cb] 29)) := below_alloc (below_alloc (Below.refl _ _) _) _
  have HR1 := Lib.hid (Kd.R_below (Kd.R_lower hr1 HB1.out.size) hbx)
  have HR2 := Lib.hid (Kd.R_below (Kd.R_lower hr2 HB1.out.size) hbx)
  have HB2 := Lib.hid (below_then HB1.out HB1.out.size hb)
  have HB3 := Lib.hid (below_then HB2.out HB2.out.size hbx)
  have HX3 := Lib.hid (blk_below (blk_below HX1.out hb) hbx)
  clear hr1 hr2 hb hbx x0 x1 x2
  have x0 := cell_of_row _ _ 0 _ _ _ HX3.out
  have x1 := cell_of_row _ _ 1 _ _ _ HX3.out
  have x2 := cell_of_row _ _ 2 _ _ _ HX3.out
  go_wp2_with fail
  obtain ⟨u3, hu3⟩ : ∃ u3, (u1.alloc (.cells #[.slice RA ra.length ca] 29)).alloc (.cells #[.slice RB rb.length cb] 29) = u3 := ⟨_, rfl⟩
  have hA3 : u3.heap[u1.heap.size]? = some (.cells #[.slice RA ra.length ca] 29 (0, 0)) := by rw [← hu3]; exact blk_alloc (blk_new u1 _) _
  have hB3 : u3.heap[u1.heap.size + 1]? = some (.cells #[.slice RB rb.length cb] 29 (0, 0)) := by
    rw [← hu3]
    simpa using blk_new (u1.alloc (.cells #[.slice RA ra.length ca] 29)) (.cells #[.slice RB rb.length cb] 29)
  rw [hu3] at HR1 HR2 HB3 HX3
  rw [hu3]
  obtain ⟨HA, hHA⟩ : ∃ HA, u1.heap.size = HA := ⟨_, rfl⟩
  obtain ⟨HB, hHB⟩ : ∃ HB, HA + 1 = HB := ⟨_, rfl⟩
  rw [hHA] at hA3
  rw [hHA, hHB] at hB3
  rw [hHA, hHB]
  have HA3 := Lib.hid hA3
  have HBB3 := Lib.hid hB3
  clear hu3 hA3 hB3 hHA hHB HB2 x0 x1 x2
  refine (moves_calls (HPI.out.below HB3.out)).mono ?_
  rintro e u4 ⟨v, rfl, l, hg, hr, hb⟩
  rw [HRA.out, HRB.out] at hg
  have HG := Lib.hid hg
  have HT := Lib.hid (show TopAt w u4 HA HB RA ca RB cb ra rb v l from ⟨blk_below HA3.out hb, blk_below HBB3.out hb, Kd.R_below HR1.out hb, Kd.R_below HR2.out hb, own_weaken (own_of_r49 hr) HB3.out.size, below_then HB3.out HB3.out.size hb⟩)
  clear hg hr hb HA3 HBB3 HR1 HR2 HB3
  have hlen := HG.out.len
  obtain ⟨nl, hnl⟩ : ∃ nl, l.length = nl := ⟨_, rfl⟩
  rw [hnl] at hlen
  have HNL := Lib.hid hnl
  clear hnl
  obtain ⟨LA, lc, rfl⟩ := own_slice HT.out.own
  rw [HNL.out] at HT
  rw [HNL.out]
  have HW4 := Lib.hid HT.out.b
  have HL4 := Lib.hid (HlRd.of_top HT.out)
  have HM4 := Lib.hid (MvRd.of_top HT.out HNL.out)
  clear HT
  obtain ⟨bk, hbk⟩ : ∃ bk, remap_Back.v l = bk := ⟨_, rfl⟩
  have hbl : bk.length = nl := by rw [← hbk, (back_perm l).length_eq, List.length_map, HNL.out]
  have HBK := Lib.hid hbk
  have HBL := Lib.hid hbl
  have HGB := Lib.hid (show Good rb ra bk from hbk ▸ HG.out.back)
  have HBB := Lib.hid (show remap_Back.v bk = l from hbk ▸ back_back HG.out)
  have HCK := Lib.hid (check_good HG.out HKA.out HKB.out)
  have HCB := Lib.hid (check_good HGB.out HKB.out HKA.out)
  clear hbk hbl
  have hl9 : nl ≤ 1000 := by omega
  have a9 := cell_of_row _ _ 0 _ _ _ HL4.out.bA
  have b9 := cell_of_row _ _ 0 _ _ _ HL4.out.bB
  go_wp2_with fail
  refine (chk_r HL4.out HM4.out HCK.out).mono ?_
  rintro e u5 ⟨rfl, hb⟩
  have HL5 := Lib.hid (HL4.out.below hb)
  have HM5 := Lib.hid (HM4.out.below hb)
  have HW5 := Lib.hid (below_then HW4.out HW4.out.size hb)
  clear hb a9 b9 HL4 HM4 HW4
  go_wp2_with fail
  refine (back_r HM5.out hl9 HBK.out HBL.out).mono ?_
  rintro e u6 ⟨BA, bc, rfl, hr, hb⟩
  have HL6 := Lib.hid (HL5.out.below hb)
  have HM6 := Lib.hid (HM5.out.below hb)
  have HN6 := Lib.hid hr
  have HW6 := Lib.hid (below_then HW5.out HW5.out.size hb)
  clear hb hr HL5 HM5 HW5
  have a9 := cell_of_row _ _ 0 _ _ _ HL6.out.bA
  have b9 := cell_of_row _ _ 0 _ _ _ HL6.out.bB
  go_wp2_with fail
  refine (chk_r2 HL6.out HN6.out HCB.out).mono ?_
  rintro e u7 ⟨rfl, hb⟩
  have HL7 := Lib.hid (HL6.out.below hb)
  have HM7 := Lib.hid (HM6.out.below hb)
  have HN7 := Lib.hid (HN6.out.below hb)
  have HW7 := Lib.hid (below_then HW6.out HW6.out.size hb)
  clear hb a9 b9 HL6 HM6 HN6 HW6
  go_wp2_with fail
  refine (back_r HN7.out hl9 HBB.out HNL.out).mono ?_
  rintro e u8 ⟨CA, cc, rfl, hr, hb⟩
  have HL8 := Lib.hid (HL7.out.below hb)
  have HM8 := Lib.hid (HM7.out.below hb)
  have HN8 := Lib.hid (HN7.out.below hb)
  have HC8 := Lib.hid hr
  have HW8 := Lib.hid (below_then HW7.out HW7.out.size hb)
  clear hb hr HL7 HM7 HN7 HW7
  go_wp2_with fail
  refine (moves_r HC8.out HM8.out hl9).mono ?_
  rintro e u9 ⟨rfl, hb⟩
  have HL9 := Lib.hid (HL8.out.below hb)
  have HM9 := Lib.hid (HM8.out.below hb)
  have HN9 := Lib.hid (HN8.out.below hb)
  have HW9 := Lib.hid (below_then HW8.out HW8.out.size hb)
  clear hb HL8 HM8 HN8 HC8 HW8
  have a9 := cell_of_row _ _ 0 _ _ _ HL9.out.bA
  have b9 := cell_of_row _ _ 0 _ _ _ HL9.out.bB
  go_wp2_with fail
  have HL9d := Lib.hid (HL9.out.below (Below.drew (Below.refl _ _)))
  have HM9d := Lib.hid (HM9.out.below (Below.drew (Below.refl _ _)))
  refine start_ (n := 8) (S := fun w' => w'.cell? ⟨HA, 0, none⟩ = some (.slice RA ra.length ca) ∧ w'.cell? ⟨HB, 0, none⟩ = some (.slice RB rb.length cb)) (ds := []) #[false, false, false, false, false, false, false, false] (by kernel_rfl) rfl rfl ⟨pw_cell_below (Below.drew (Below.refl _ _)) a9, pw_cell_below (Below.drew (Below.refl _ _)) b9⟩ (fun hHeld => ?_)
  refine pure_ (i := 1) (N := some 70) (v := ?_) (a' := ?_) #[false, true, false, false, false, false, false, false] rfl rfl (by kernel_rfl) (fun _ _ _ h => h) (Or.inl ⟨by rfl, ?_⟩) ?_ ?_
  rotate_left
  · intro w'
    go_simp
    with_reducible rfl
  rotate_left
  · simp only [Act.put, List.setIfInBounds_toArray, List.set_cons_zero, List.set_cons_succ, i64_w, i32_w]
    rfl
  refine pure_ (i := 4) (N := some 73) (v := ?_) (a' := ?_) #[false, true, false, false, true, false, false, false] rfl rfl (by kernel_rfl) (fun _ _ _ h => h) (Or.inl ⟨by rfl, ?_⟩) ?_ ?_
  rotate_left
  · intro w'
    go_simp
    with_reducible rfl
  rotate_left
  · simp only [Act.put, List.setIfInBounds_toArray, List.set_cons_zero, List.set_cons_succ, i64_w, i32_w]
    rfl
  refine take_ (i := 0) (N := some 69) (v := ?_) (a' := ?_) #[true, true, false, false, true, false, false, false] rfl rfl (by kernel_rfl) (fun _ _ _ h => h) (Or.inl ⟨by rfl, ?_⟩) hHeld ?_ ?_
  rotate_left
  · rintro w' ⟨s0, s1⟩
    go_simp
    with_reducible rfl
  rotate_left
  · simp only [Act.put, List.setIfInBounds_toArray, List.set_cons_zero, List.set_cons_succ, i64_w, i32_w]
    rfl
  refine take_ (i := 3) (N := some 72) (v := ?_) (a' := ?_) #[true, true, false, true, true, false, false, false] rfl rfl (by kernel_rfl) (fun _ _ _ h => h) (Or.inl ⟨by rfl, ?_⟩) hHeld ?_ ?_
  rotate_left
  · rintro w' ⟨s0, s1⟩
    go_simp
    with_reducible rfl
  rotate_left
  · simp only [Act.put, List.setIfInBounds_toArray, List.set_cons_zero, List.set_cons_succ, i64_w, i32_w]
    rfl
  refine one_ (i := 2) (N := some 71) #[true, true, true, true, true, false, false, false] rfl rfl (by kernel_rfl) (by decide) (fun K hK => ?_)
  refine goes_ Try.func14 (by kernel_rfl) rfl #[.agg #[.slice RA ra.length ca], .slice LA nl lc] (by rfl) rfl rfl (by simp only [List.map_toArray, List.map_cons, List.map_nil]; rfl) ?_
  with_reducible refine (lost_r HL9d.out HM9d.out).mono ?_
  rintro e z1 ⟨v1, rfl, hr1, hb1⟩
  refine ⟨_, rfl, ?_⟩
  have HW9S := Lib.hid (show w.heap.size ≤ u9.heap.size from HW9.out.size)
  obtain ⟨LoA, loc, rfl⟩ := Kd.R_slice hr1
  have HR1 := Lib.hid hr1
  have HLE := Lib.hid (HL9d.out.below hb1)
  have HME := Lib.hid (HM9d.out.below hb1)
  clear hr1
  refine hK.out _ _ ⟨pw_cell_below hb1 hHeld.1, pw_cell_below hb1 hHeld.2⟩ (fun hHeld => ?_)
  clear hK K
  refine norm_ (a' := ?_) ?_ ?_
  rotate_left
  · show Act.put _ (some 71) _ = _
    simp only [Act.put, List.setIfInBounds_toArray, List.set_cons_zero, List.set_cons_succ, i64_w, i32_w]
    rfl
  refine one_ (i := 5) (N := some 74) #[true, true, true, true, true, true, false, false] rfl rfl (by kernel_rfl) (by decide) (fun K hK => ?_)
  refine goes_ Try.func15 (by kernel_rfl) rfl #[.agg #[.slice RB rb.length cb], .slice LA nl lc] (by rfl) rfl rfl (by simp only [List.map_toArray, List.map_cons, List.map_nil]; rfl) ?_
  with_reducible refine (new_r HLE.out HME.out).mono ?_
  rintro e z2 ⟨v2, rfl, hr2, hb2⟩
  refine ⟨_, rfl, ?_⟩
  obtain ⟨NeA, nec, rfl⟩ := Kd.R_slice hr2
  clear hr2 HLE HME
  refine hK.out _ _ ⟨pw_cell_below hb2 hHeld.1, pw_cell_below hb2 hHeld.2⟩ (fun hHeld => ?_)
  clear hK K
  refine norm_ (a' := ?_) ?_ ?_
  rotate_left
  · show Act.put _ (some 74) _ = _
    simp only [Act.put, List.setIfInBounds_toArray, List.set_cons_zero, List.set_cons_succ, i64_w, i32_w]
    rfl
  refine pure_ (i := 6) (N := some 11) (v := ?_) (a' := ?_) #[true, true, true, true, true, true, true, false] rfl rfl (by kernel_rfl) (fun _ _ _ h => h) (Or.inl ⟨by rfl, ?_⟩) ?_ ?_
  rotate_left
  · intro w'
    go_simp
    with_reducible rfl
  rotate_left
  · simp only [Act.put, List.setIfInBounds_toArray, List.set_cons_zero, List.set_cons_succ, i64_w, i32_w]
    rfl
  refine pure_ (i := 7) (N := some 12) (v := ?_) (a' := ?_) #[true, true, true, true, true, true, true, true] rfl rfl (by kernel_rfl) (fun _ _ _ h => h) (Or.inl ⟨by rfl, ?_⟩) ?_ ?_
  rotate_left
  · intro w'
    go_simp
    with_reducible rfl
  rotate_left
  · simp only [Act.put, List.setIfInBounds_toArray, List.set_cons_zero, List.set_cons_succ, i64_w, i32_w]
    rfl
  refine done_ (by kernel_rfl) ?_
  have HWB := Lib.hid (below_then (below_then (HW9.out.drew) (by exact HW9.out.size) hb1) (Nat.le_trans HW9.out.size hb1.size) hb2)
  have HLB := Lib.hid ((HL9d.out.below hb1).below hb2)
  have HMB := Lib.hid ((HM9d.out.below hb1).below hb2)
  have HNB := Lib.hid (((HN9.out.below (Below.drew (Below.refl _ _))).below hb1).below hb2)
  have HLO := Lib.hid (Kd.R_below HR1.out hb2)
  clear hb1 hb2 HL9 HM9 HN9 HL9d HM9d HW9 HR1 a9 b9
  obtain ⟨lost, hlo⟩ : ∃ lost, remap_Lost.v ra l = lost := ⟨_, rfl⟩
  obtain ⟨nlo, hnlo⟩ : ∃ nlo, lost.length = nlo := ⟨_, rfl⟩
  obtain ⟨nne, hnne⟩ : ∃ nne, (remap_New.v rb l).length = nne := ⟨_, rfl⟩
  obtain ⟨nsa, hnsa⟩ : ∃ nsa, (seatsI ra).length = nsa := ⟨_, rfl⟩
  obtain ⟨nsb, hnsb⟩ : ∃ nsb, (seatsI rb).length = nsb := ⟨_, rfl⟩
  have hs1 := HG.out.lost
  have hs2 := HG.out.new
  rw [hlo, hnlo, HNL.out, hnsa] at hs1
  rw [hnne, HNL.out, hnsb] at hs2
  have hsa64 : nsa ≤ 64 := by
    rw [← hnsa, seatsI_eq, List.length_map]
    exact Nat.le_trans (List.length_filter_le _ _) (by simp)
  have hsb64 : nsb ≤ 64 := by
    rw [← hnsb, seatsI_eq, List.length_map]
    exact Nat.le_trans (List.length_filter_le _ _) (by simp)
  have HLS := Lib.hid hlo
  have HLN := Lib.hid hnlo
  have HSN := Lib.hid hnsa
  have HTN := Lib.hid hnsb
  rw [hlo] at HLO
  rw [hnlo] at HLO
  rw [hlo, hnlo, hnne]
  have t1 : ((nlo : Int) + (nl : Int) != (nsa : Int)) = false := by rw [bne_eq_false_iff_eq]; omega
  have t2 : ((nne : Int) + (nl : Int) != (nsb : Int)) = false := by rw [bne_eq_false_iff_eq]; omega
  have HS1 := Lib.hid hs1
  have HS2 := Lib.hid hs2
  have hlo64 : nlo ≤ 64 := by omega
  have hne64 : nne ≤ 64 := by omega
  clear hs1 hs2 hlo hnlo hnne hnsa hnsb
  have a9 := cell_of_row _ _ 0 _ _ _ HLB.out.bA
  have b9 := cell_of_row _ _ 0 _ _ _ HLB.out.bB
  go_wp2_with fail
  refine (seats_r HLB.out.ra HSA.out HSN.out).mono ?_
  rintro e x1 ⟨SA, sc, rfl, hb⟩
  have HLC := Lib.hid (HLB.out.below hb)
  have HMC := Lib.hid (HMB.out.below hb)
  have HNC := Lib.hid (HNB.out.below hb)
  have HLOC := Lib.hid (Kd.R_below HLO.out hb)
  have HWC := Lib.hid (below_then HWB.out HWB.out.size hb)
  clear hb a9 b9 HLB HMB HNB HLO HWB
  have b9 := cell_of_row _ _ 0 _ _ _ HLC.out.bB
  go_wp2_with fail
  refine (seats_r HLC.out.rb HSB.out HTN.out).mono ?_
  rintro e x2 ⟨TA, tc, rfl, hb⟩
  have HLD := Lib.hid (HLC.out.below hb)
  have HMD := Lib.hid (HMC.out.below hb)
  have HND := Lib.hid (HNC.out.below hb)
  have HLOD := Lib.hid (Kd.R_below HLOC.out hb)
  have HWD := Lib.hid (below_then HWC.out HWC.out.size hb)
  clear hb b9 HLC HMC HNC HLOC HWC
  go_wp2_with fail
  clear t1 t2
  go_loopw [13] (fun v13 wr => ∃ s : Nat, v13 = .int .i64 s ∧ s ≤ 64 ∧ Hid (HlRd wr HA HB RA ca RB cb ra rb) ∧ Hid (MvRd wr LA nl lc l) ∧ Hid (MvRd wr BA nl bc bk) ∧ Hid (Kd.R (Kd.int .i64) 3 wr w.heap.size (fun _ => True) (.slice LoA nlo loc) lost) ∧ Hid (Below w.heap.size w wr)) (fun v13 _ => 64 - (intOf v13).toNat)
  case atStart => exact ⟨0, rfl, Nat.zero_le _, HLD, HMD, HND, Lib.hid (Kd.R_lower HLOD.out HW9S.out), HWD⟩
  case round =>
    clear HLD HMD HND HLOD HWD
    obtain ⟨s, rfl, hs, HL, HM, HN, HLO, HW⟩ := hrel
    have s0 : (0 : Int) ≤ (s : Int) := by omega
    by_cases hs6 : s < 64
    · have s1 : (s : Int) < 64 := by omega
      have s2 : decide ((s : Int) < 64) = true := decide_eq_true s1
      rcases HG.out.goes (s : Int) with ⟨hg1, hg2⟩ | ⟨x, hx, hxs, hg1, hg2, hg3, hg4, hg5, hg6⟩
      · rw [HBK.out] at hg2
        have H1 := Lib.hid hg1
        have H2 := Lib.hid hg2
        clear hg1 hg2
        go_wp2_with fail
        refine (to_r HM.out H1.out).mono ?_
        rintro e y1 ⟨rfl, hb⟩
        have HL1 := Lib.hid (HL.out.below hb)
        have HM1 := Lib.hid (HM.out.below hb)
        have HN1 := Lib.hid (HN.out.below hb)
        have HO1 := Lib.hid (Kd.R_below HLO.out hb)
        have HW1 := Lib.hid (below_then HW.out HW.out.size hb)
        clear hb
        go_wp2_with fail
        refine (from_r HN1.out H2.out).mono ?_
        rintro e y2 ⟨rfl, hb⟩
        have HL2 := Lib.hid (HL1.out.below hb)
        have HM2 := Lib.hid (HM1.out.below hb)
        have HN2 := Lib.hid (HN1.out.below hb)
        have HO2 := Lib.hid (Kd.R_below HO1.out hb)
        have HW2 := Lib.hid (below_then HW1.out HW1.out.size hb)
        clear hb
        go_wp2_with fail
        go_roundw
        case rel => exact ⟨s + 1, by go_num, by omega, HL2, HM2, HN2, HO2, HW2⟩
        case measure => simp [intOf]; omega
      · rw [HBK.out] at hg2
        obtain ⟨t, ht⟩ : ∃ t, x.f1 = t := ⟨_, rfl⟩
        rw [ht] at hg1 hg2 hg3 hg5 hg6
        obtain ⟨k, hk⟩ : ∃ k, hall_Class.v ra (s : Int) = k := ⟨_, rfl⟩
        have hk2 : hall_Class.v rb t = k := by rw [← hg6, hk]
        have H1 := Lib.hid hg1
        have H2 := Lib.hid hg2
        have H3 := Lib.hid hg3
        have H4 := Lib.hid hg4
        have H5 := Lib.hid hg5
        have H6 := Lib.hid hk
        have H7 := Lib.hid hk2
        clear hx hxs hg1 hg2 hg3 hg4 hg5 hg6 ht hk hk2
        have tt : (t != t) = false := bne_self_eq_false _
        go_wp2_with fail
        refine (to_r HM.out H1.out).mono ?_
        rintro e y1 ⟨rfl, hb⟩
        have HL1 := Lib.hid (HL.out.below hb)
        have HM1 := Lib.hid (HM.out.below hb)
        have HN1 := Lib.hid (HN.out.below hb)
        have HO1 := Lib.hid (Kd.R_below HLO.out hb)
        have HW1 := Lib.hid (below_then HW.out HW.out.size hb)
        clear hb
        go_wp2_with fail
        refine (from_r HN1.out H2.out).mono ?_
        rintro e y2 ⟨rfl, hb⟩
        have HL2 := Lib.hid (HL1.out.below hb)
        have HM2 := Lib.hid (HM1.out.below hb)
        have HN2 := Lib.hid (HN1.out.below hb)
        have HO2 := Lib.hid (Kd.R_below HO1.out hb)
        have HW2 := Lib.hid (below_then HW1.out HW1.out.size hb)
        clear hb
        have a9 := cell_of_row _ _ 0 _ _ _ HL2.out.bA
        go_wp2_with fail
        refine (has_r HL2.out.ra H4.out).mono ?_
        rintro e y3 ⟨rfl, hb⟩
        have HL3 := Lib.hid (HL2.out.below hb)
        have HM3 := Lib.hid (HM2.out.below hb)
        have HN3 := Lib.hid (HN2.out.below hb)
        have HO3 := Lib.hid (Kd.R_below HO2.out hb)
        have HW3 := Lib.hid (below_then HW2.out HW2.out.size hb)
        clear hb
        clear a9
        have b9 := cell_of_row _ _ 0 _ _ _ HL3.out.bB
        go_wp2_with fail
        refine (has_r HL3.out.rb H5.out).mono ?_
        rintro e y4 ⟨rfl, hb⟩
        have HL4 := Lib.hid (HL3.out.below hb)
        have HM4 := Lib.hid (HM3.out.below hb)
        have HN4 := Lib.hid (HN3.out.below hb)
        have HO4 := Lib.hid (Kd.R_below HO3.out hb)
        have HW4 := Lib.hid (below_then HW3.out HW3.out.size hb)
        clear hb
        clear b9
        go_wp2_with fail
        refine (from_r HM4.out H3.out).mono ?_
        rintro e y5 ⟨rfl, hb⟩
        have HL5 := Lib.hid (HL4.out.below hb)
        have HM5 := Lib.hid (HM4.out.below hb)
        have HN5 := Lib.hid (HN4.out.below hb)
        have HO5 := Lib.hid (Kd.R_below HO4.out hb)
        have HW5 := Lib.hid (below_then HW4.out HW4.out.size hb)
        clear hb
        have a9 := cell_of_row _ _ 0 _ _ _ HL5.out.bA
        have b9 := cell_of_row _ _ 0 _ _ _ HL5.out.bB
        have ss : ((s : Int) != (s : Int)) = false := bne_self_eq_false _
        have kk : (k != k) = false := bne_self_eq_false _
        have HL5d := Lib.hid (HL5.out.below (Below.drew (Below.refl _ _)))
        go_wp2_with fail
        refine start_ (n := 16) (S := fun w' => w'.cell? ⟨HA, 0, none⟩ = some (.slice RA ra.length ca) ∧ w'.cell? ⟨HB, 0, none⟩ = some (.slice RB rb.length cb)) (ds := []) #[false, false, false, false, false, false, false, false, false, false, false, false, false, false, false, false] (by kernel_rfl) rfl rfl ⟨pw_cell_below (Below.drew (Below.refl _ _)) a9, pw_cell_below (Below.drew (Below.refl _ _)) b9⟩ (fun hHeld => ?_)
        refine pure_ (i := 0) (N := some 142) (v := ?_) (a' := ?_) #[true, false, false, false, false, false, false, false, false, false, false, false, false, false, false, false] rfl rfl (by kernel_rfl) (fun _ _ _ h => h) (Or.inl ⟨by rfl, ?_⟩) ?_ ?_
        rotate_left
        · intro w'
          go_simp
          with_reducible rfl
        rotate_left
        · simp only [Act.put, List.setIfInBounds_toArray, List.set_cons_zero, List.set_cons_succ, i64_w, i32_w]
          rfl
        refine pure_ (i := 1) (N := some 143) (v := ?_) (a' := ?_) #[true, true, false, false, false, false, false, false, false, false, false, false, false, false, false, false] rfl rfl (by kernel_rfl) (fun _ _ _ h => h) (Or.inl ⟨by rfl, ?_⟩) ?_ ?_
        rotate_left
        · intro w'
          go_simp
          with_reducible rfl
        rotate_left
        · simp only [Act.put, List.setIfInBounds_toArray, List.set_cons_zero, List.set_cons_succ, i64_w, i32_w]
          rfl
        refine pure_ (i := 2) (N := some 144) (v := ?_) (a' := ?_) #[true, true, true, false, false, false, false, false, false, false, false, false, false, false, false, false] rfl rfl (by kernel_rfl) (fun _ _ _ h => h) (Or.inl ⟨by rfl, ?_⟩) ?_ ?_
        rotate_left
        · intro w'
          go_simp
          with_reducible rfl
        rotate_left
        · simp only [Act.put, List.setIfInBounds_toArray, List.set_cons_zero, List.set_cons_succ, i64_w, i32_w]
          rfl
        refine pure_ (i := 3) (N := some 145) (v := ?_) (a' := ?_) #[true, true, true, true, false, false, false, false, false, false, false, false, false, false, false, false] rfl rfl (by kernel_rfl) (fun _ _ _ h => h) (Or.inl ⟨by rfl, ?_⟩) ?_ ?_
        rotate_left
        · intro w'
          go_simp
          with_reducible rfl
        rotate_left
        · simp only [Act.put, List.setIfInBounds_toArray, List.set_cons_zero, List.set_cons_succ, i64_w, i32_w]
          rfl
        refine pure_ (i := 4) (N := some 146) (v := ?_) (a' := ?_) #[true, true, true, true, true, false, false, false, false, false, false, false, false, false, false, false] rfl rfl (by kernel_rfl) (fun _ _ _ h => h) (Or.inl ⟨by rfl, ?_⟩) ?_ ?_
        rotate_left
        · intro w'
          go_simp
          with_reducible rfl
        rotate_left
        · simp only [Act.put, List.setIfInBounds_toArray, List.set_cons_zero, List.set_cons_succ, i64_w, i32_w]
          rfl
        refine pure_ (i := 5) (N := some 147) (v := ?_) (a' := ?_) #[true, true, true, true, true, true, false, false, false, false, false, false, false, false, false, false] rfl rfl (by kernel_rfl) (fun _ _ _ h => h) (Or.inl ⟨by rfl, ?_⟩) ?_ ?_
        rotate_left
        · intro w'
          go_simp
          with_reducible rfl
        rotate_left
        · simp only [Act.put, List.setIfInBounds_toArray, List.set_cons_zero, List.set_cons_succ, i64_w, i32_w]
          rfl
        refine pure_ (i := 6) (N := some 148) (v := ?_) (a' := ?_) #[true, true, true, true, true, true, true, false, false, false, false, false, false, false, false, false] rfl rfl (by kernel_rfl) (fun _ _ _ h => h) (Or.inl ⟨by rfl, ?_⟩) ?_ ?_
        rotate_left
        · intro w'
          go_simp
          with_reducible rfl
        rotate_left
        · simp only [Act.put, List.setIfInBounds_toArray, List.set_cons_zero, List.set_cons_succ, i64_w, i32_w]
          rfl
        refine pure_ (i := 7) (N := some 149) (v := ?_) (a' := ?_) #[true, true, true, true, true, true, true, true, false, false, false, false, false, false, false, false] rfl rfl (by kernel_rfl) (fun _ _ _ h => h) (Or.inl ⟨by rfl, ?_⟩) ?_ ?_
        rotate_left
        · intro w'
          go_simp
          with_reducible rfl
        rotate_left
        · simp only [Act.put, List.setIfInBounds_toArray, List.set_cons_zero, List.set_cons_succ, i64_w, i32_w]
          rfl
        refine pure_ (i := 9) (N := some 151) (v := ?_) (a' := ?_) #[true, true, true, true, true, true, true, true, false, true, false, false, false, false, false, false] rfl rfl (by kernel_rfl) (fun _ _ _ h => h) (Or.inl ⟨by rfl, ?_⟩) ?_ ?_
        rotate_left
        · intro w'
          go_simp
          with_reducible rfl
        rotate_left
        · simp only [Act.put, List.setIfInBounds_toArray, List.set_cons_zero, List.set_cons_succ, i64_w, i32_w]
          rfl
        refine pure_ (i := 12) (N := some 154) (v := ?_) (a' := ?_) #[true, true, true, true, true, true, true, true, false, true, false, false, true, false, false, false] rfl rfl (by kernel_rfl) (fun _ _ _ h => h) (Or.inl ⟨by rfl, ?_⟩) ?_ ?_
        rotate_left
        · intro w'
          go_simp
          with_reducible rfl
        rotate_left
        · simp only [Act.put, List.setIfInBounds_toArray, List.set_cons_zero, List.set_cons_succ, i64_w, i32_w]
          rfl
        refine take_ (i := 8) (N := some 150) (v := ?_) (a' := ?_) #[true, true, true, true, true, true, true, true, true, true, false, false, true, false, false, false] rfl rfl (by kernel_rfl) (fun _ _ _ h => h) (Or.inl ⟨by rfl, ?_⟩) hHeld ?_ ?_
        rotate_left
        · rintro w' ⟨s0, s1⟩
          go_simp
          with_reducible rfl
        rotate_left
        · simp only [Act.put, List.setIfInBounds_toArray, List.set_cons_zero, List.set_cons_succ, i64_w, i32_w]
          rfl
        refine take_ (i := 11) (N := some 153) (v := ?_) (a' := ?_) #[true, true, true, true, true, true, true, true, true, true, false, true, true, false, false, false] rfl rfl (by kernel_rfl) (fun _ _ _ h => h) (Or.inl ⟨by rfl, ?_⟩) hHeld ?_ ?_
        rotate_left
        · rintro w' ⟨s0, s1⟩
          go_simp
          with_reducible rfl
        rotate_left
        · simp only [Act.put, List.setIfInBounds_toArray, List.set_cons_zero, List.set_cons_succ, i64_w, i32_w]
          rfl
        refine one_ (i := 10) (N := some 152) #[true, true, true, true, true, true, true, true, true, true, true, true, true, false, false, false] rfl rfl (by kernel_rfl) (by decide) (fun K hK => ?_)
        refine goes_ Try.func20 (by kernel_rfl) rfl #[.agg #[.slice RA ra.length ca], .int .i64 (s : Int)] (by rfl) rfl rfl (by simp only [List.map_toArray, List.map_cons, List.map_nil]; rfl) ?_
        with_reducible refine (class_r HL5d.out.ra H6.out).mono ?_
        rintro e z1 ⟨rfl, hb1⟩
        refine ⟨_, rfl, ?_⟩
        have HLE := Lib.hid (HL5d.out.below hb1)
        refine hK.out _ _ ⟨pw_cell_below hb1 hHeld.1, pw_cell_below hb1 hHeld.2⟩ (fun hHeld => ?_)
        clear hK K
        refine norm_ (a' := ?_) ?_ ?_
        rotate_left
        · show Act.put _ (some 152) _ = _
          simp only [Act.put, List.setIfInBounds_toArray, List.set_cons_zero, List.set_cons_succ, i64_w, i32_w]
          rfl
        refine one_ (i := 13) (N := some 155) #[true, true, true, true, true, true, true, true, true, true, true, true, true, true, false, false] rfl rfl (by kernel_rfl) (by decide) (fun K hK => ?_)
        refine goes_ Try.func20 (by kernel_rfl) rfl #[.agg #[.slice RB rb.length cb], .int .i64 t] (by rfl) rfl rfl (by simp only [List.map_toArray, List.map_cons, List.map_nil]; rfl) ?_
        with_reducible refine (class_r HLE.out.rb H7.out).mono ?_
        rintro e z2 ⟨rfl, hb2⟩
        refine ⟨_, rfl, ?_⟩
        clear HLE
        refine hK.out _ _ ⟨pw_cell_below hb2 hHeld.1, pw_cell_below hb2 hHeld.2⟩ (fun hHeld => ?_)
        clear hK K
        refine norm_ (a' := ?_) ?_ ?_
        rotate_left
        · show Act.put _ (some 155) _ = _
          simp only [Act.put, List.setIfInBounds_toArray, List.set_cons_zero, List.set_cons_succ, i64_w, i32_w]
          rfl
        refine pure_ (i := 14) (N := some 156) (v := ?_) (a' := ?_) #[true, true, true, true, true, true, true, true, true, true, true, true, true, true, true, false] rfl rfl (by kernel_rfl) (fun _ _ _ h => h) (Or.inl ⟨by rfl, ?_⟩) ?_ ?_
        rotate_left
        · intro w'
          go_simp
          with_reducible rfl
        rotate_left
        · simp only [Act.put, List.setIfInBounds_toArray, List.set_cons_zero, List.set_cons_succ, i64_w, i32_w]
          rfl
        refine pure_ (i := 15) (N := some 157) (v := ?_) (a' := ?_) #[true, true, true, true, true, true, true, true, true, true, true, true, true, true, true, true] rfl rfl (by kernel_rfl) (fun _ _ _ h => h) (Or.inl ⟨by rfl, ?_⟩) ?_ ?_
        rotate_left
        · intro w'
          go_simp
          with_reducible rfl
        rotate_left
        · simp only [Act.put, List.setIfInBounds_toArray, List.set_cons_zero, List.set_cons_succ, i64_w, i32_w]
          rfl
        refine done_ (by kernel_rfl) ?_
        have HL6 := Lib.hid ((HL5d.out.below hb1).below hb2)
        have HM6 := Lib.hid (((HM5.out.below (Below.drew (Below.refl _ _))).below hb1).below hb2)
        have HN6 := Lib.hid (((HN5.out.below (Below.drew (Below.refl _ _))).below hb1).below hb2)
        have HO6 := Lib.hid (Kd.R_below (Kd.R_below (Kd.R_drew HO5.out) hb1) hb2)
        have HW6 := Lib.hid (below_then (below_then HW5.out.drew (by exact HW5.out.size) hb1) (Nat.le_trans HW5.out.size hb1.size) hb2)
        clear hb1 hb2 a9 b9 HL5d
        go_wp2_with fail
        go_roundw
        case rel => exact ⟨s + 1, by go_num, by omega, HL6, HM6, HN6, HO6, HW6⟩
        case measure => simp [intOf]; omega
    · have s2 : decide ((s : Int) < 64) = false := decide_eq_false (by omega)
      go_wp2_with fail
      go_loopw [20] (fun v20 wr => ∃ q : Nat, v20 = .int .i64 q ∧ q ≤ nlo ∧ Hid (MvRd wr LA nl lc l) ∧ Hid (Kd.R (Kd.int .i64) 3 wr w.heap.size (fun _ => True) (.slice LoA nlo loc) lost) ∧ Hid (Below w.heap.size w wr)) (fun v20 _ => nlo - (intOf v20).toNat)
      case atStart => exact ⟨0, rfl, Nat.zero_le _, HM, HLO, HW⟩
      case round =>
        clear HL HM HN HLO HW
        obtain ⟨q, rfl, hq, HM, HO, HW⟩ := hrel
        have q0 : (0 : Int) ≤ (q : Int) := by omega
        by_cases hqn : q < nlo
        · have q1 : (q : Int) < (nlo : Int) := by omega
          have q2 : decide ((q : Int) < (nlo : Int)) = true := decide_eq_true q1
          obtain ⟨g, hg⟩ : ∃ g, lost[q]? = some g := ⟨_, List.getElem?_eq_getElem (by rw [HLN.out]; exact hqn)⟩
          have HT := Lib.hid (lost_to (ra := ra) (l := l) (s := g) (by rw [HLS.out]; exact List.mem_of_getElem? hg))
          obtain ⟨adl, hadl, gc⟩ := RI_get HO.out hg
          subst hadl
          have HGQ := Lib.hid hg
          clear hg
          go_wp2_with fail
          refine (to_r HM.out HT.out).mono ?_
          rintro e y1 ⟨rfl, hb⟩
          have HM1 := Lib.hid (HM.out.below hb)
          have HO1 := Lib.hid (Kd.R_below HO.out hb)
          have HW1 := Lib.hid (below_then HW.out HW.out.size hb)
          replace gc := pw_cell_below hb gc
          clear hb HM HO HW
          by_cases hq0 : q = 0
          · have z1 : decide ((0 : Int) < (q : Int)) = false := decide_eq_false (by omega)
            have z2 : decide (0 < q) = false := decide_eq_false (by omega)
            have HQ0 := Lib.hid hq0
            clear hq0
            go_wp2_with fail
            refine start_ (n := 17) (S := fun w' => w'.cell? (adl.add q) = some (.int .i64 g)) (ds := []) #[false, false, false, false, false, false, false, false, false, false, false, false, false, false, false, false, false] (by kernel_rfl) rfl rfl (pw_cell_below (Below.drew (Below.refl _ _)) gc) (fun hHeld => ?_)
            refine pure_ (i := 0) (N := some 173) (v := ?_) (a' := ?_) #[true, false, false, false, false, false, false, false, false, false, false, false, false, false, false, false, false] rfl rfl (by kernel_rfl) (fun _ _ _ h => h) (Or.inl ⟨by rfl, ?_⟩) ?_ ?_
            rotate_left
            · intro w'
              go_simp
              with_reducible rfl
            rotate_left
            · simp only [Act.put, List.setIfInBounds_toArray, List.set_cons_zero, List.set_cons_succ, i64_w, i32_w]
              rfl
            refine pure_ (i := 1) (N := some 174) (v := ?_) (a' := ?_) #[true, true, false, false, false, false, false, false, false, false, false, false, false, false, false, false, false] rfl rfl (by kernel_rfl) (fun _ _ _ h => h) (Or.inl ⟨by rfl, ?_⟩) ?_ ?_
            rotate_left
            · intro w'
              go_simp
              with_reducible rfl
            rotate_left
            · simp only [Act.put, List.setIfInBounds_toArray, List.set_cons_zero, List.set_cons_succ, i64_w, i32_w]
              rfl
            refine pure_ (i := 2) (N := some 175) (v := ?_) (a' := ?_) #[true, true, true, false, false, false, false, false, false, false, false, false, false, false, false, false, false] rfl rfl (by kernel_rfl) (fun _ _ _ h => h) (Or.inl ⟨by rfl, ?_⟩) ?_ ?_
            rotate_left
            · intro w'
              go_simp
              with_reducible rfl
            rotate_left
            · simp only [Act.put, List.setIfInBounds_toArray, List.set_cons_zero, List.set_cons_succ, i64_w, i32_w]
              rfl
            refine pure_ (i := 3) (N := some 176) (v := ?_) (a' := ?_) #[true, true, true, true, false, false, false, false, false, false, false, false, false, false, false, false, false] rfl rfl (by kernel_rfl) (fun _ _ _ h => h) (Or.inl ⟨by rfl, ?_⟩) ?_ ?_
            rotate_left
            · intro w'
              go_simp
              with_reducible rfl
            rotate_left
            · simp only [Act.put, List.setIfInBounds_toArray, List.set_cons_zero, List.set_cons_succ, i64_w, i32_w]
              rfl
            refine pure_ (i := 4) (N := some 177) (v := ?_) (a' := ?_) #[true, true, true, true, true, false, false, false, false, false, false, false, false, false, false, false, false] rfl rfl (by kernel_rfl) (fun _ _ _ h => h) (Or.inl ⟨by rfl, ?_⟩) ?_ ?_
            rotate_left
            · intro w'
              go_simp
              with_reducible rfl
            rotate_left
            · simp only [Act.put, List.setIfInBounds_toArray, List.set_cons_zero, List.set_cons_succ, i64_w, i32_w]
              rfl
            refine pure_ (i := 5) (N := some 178) (v := undef) (a' := ?_) #[true, true, true, true, true, true, false, false, false, false, false, false, false, false, false, false, false] rfl rfl (by kernel_rfl) (fun _ _ _ h => h) (Or.inr ⟨by rfl, rfl⟩) ?_ ?_
            rotate_left
            · simp only [Act.put, List.setIfInBounds_toArray, List.set_cons_zero, List.set_cons_succ, i64_w, i32_w]
              rfl
            refine pure_ (i := 6) (N := some 179) (v := undef) (a' := ?_) #[true, true, true, true, true, true, true, false, false, false, false, false, false, false, false, false, false] rfl rfl (by kernel_rfl) (fun _ _ _ h => h) (Or.inr ⟨by rfl, rfl⟩) ?_ ?_
            rotate_left
            · simp only [Act.put, List.setIfInBounds_toArray, List.set_cons_zero, List.set_cons_succ, i64_w, i32_w]
              rfl
            refine pure_ (i := 7) (N := some 180) (v := undef) (a' := ?_) #[true, true, true, true, true, true, true, true, false, false, false, false, false, false, false, false, false] rfl rfl (by kernel_rfl) (fun _ _ _ h => h) (Or.inr ⟨by rfl, rfl⟩) ?_ ?_
            rotate_left
            · simp only [Act.put, List.setIfInBounds_toArray, List.set_cons_zero, List.set_cons_succ, i64_w, i32_w]
              rfl
            refine pure_ (i := 8) (N := some 181) (v := undef) (a' := ?_) #[true, true, true, true, true, true, true, true, true, false, false, false, false, false, false, false, false] rfl rfl (by kernel_rfl) (fun _ _ _ h => h) (Or.inr ⟨by rfl, rfl⟩) ?_ ?_
            rotate_left
            · simp only [Act.put, List.setIfInBounds_toArray, List.set_cons_zero, List.set_cons_succ, i64_w, i32_w]
              rfl
            refine pure_ (i := 9) (N := some 182) (v := undef) (a' := ?_) #[true, true, true, true, true, true, true, true, true, true, false, false, false, false, false, false, false] rfl rfl (by kernel_rfl) (fun _ _ _ h => h) (Or.inr ⟨by rfl, rfl⟩) ?_ ?_
            rotate_left
            · simp only [Act.put, List.setIfInBounds_toArray, List.set_cons_zero, List.set_cons_succ, i64_w, i32_w]
              rfl
            refine pure_ (i := 10) (N := some 183) (v := undef) (a' := ?_) #[true, true, true, true, true, true, true, true, true, true, true, false, false, false, false, false, false] rfl rfl (by kernel_rfl) (fun _ _ _ h => h) (Or.inr ⟨by rfl, rfl⟩) ?_ ?_
            rotate_left
            · simp only [Act.put, List.setIfInBounds_toArray, List.set_cons_zero, List.set_cons_succ, i64_w, i32_w]
              rfl
            refine pure_ (i := 11) (N := some 184) (v := undef) (a' := ?_) #[true, true, true, true, true, true, true, true, true, true, true, true, false, false, false, false, false] rfl rfl (by kernel_rfl) (fun _ _ _ h => h) (Or.inr ⟨by rfl, rfl⟩) ?_ ?_
            rotate_left
            · simp only [Act.put, List.setIfInBounds_toArray, List.set_cons_zero, List.set_cons_succ, i64_w, i32_w]
              rfl
            refine pure_ (i := 12) (N := some 185) (v := undef) (a' := ?_) #[true, true, true, true, true, true, true, true, true, true, true, true, true, false, false, false, false] rfl rfl (by kernel_rfl) (fun _ _ _ h => h) (Or.inr ⟨by rfl, rfl⟩) ?_ ?_
            rotate_left
            · simp only [Act.put, List.setIfInBounds_toArray, List.set_cons_zero, List.set_cons_succ, i64_w, i32_w]
              rfl
            refine pure_ (i := 13) (N := some 186) (v := undef) (a' := ?_) #[true, true, true, true, true, true, true, true, true, true, true, true, true, true, false, false, false] rfl rfl (by kernel_rfl) (fun _ _ _ h => h) (Or.inr ⟨by rfl, rfl⟩) ?_ ?_
            rotate_left
            · simp only [Act.put, List.setIfInBounds_toArray, List.set_cons_zero, List.set_cons_succ, i64_w, i32_w]
              rfl
            refine pure_ (i := 14) (N := some 187) (v := undef) (a' := ?_) #[true, true, true, true, true, true, true, true, true, true, true, true, true, true, true, false, false] rfl rfl (by kernel_rfl) (fun _ _ _ h => h) (Or.inr ⟨by rfl, rfl⟩) ?_ ?_
            rotate_left
            · simp only [Act.put, List.setIfInBounds_toArray, List.set_cons_zero, List.set_cons_succ, i64_w, i32_w]
              rfl
            refine pure_ (i := 15) (N := some 188) (v := ?_) (a' := ?_) #[true, true, true, true, true, true, true, true, true, true, true, true, true, true, true, true, false] rfl rfl (by kernel_rfl) (fun _ _ _ h => h) (Or.inl ⟨by rfl, ?_⟩) ?_ ?_
            rotate_left
            · intro w'
              go_simp
              with_reducible rfl
            rotate_left
            · simp only [Act.put, List.setIfInBounds_toArray, List.set_cons_zero, List.set_cons_succ, i64_w, i32_w]
              rfl
            refine pure_ (i := 16) (N := some 189) (v := ?_) (a' := ?_) #[true, true, true, true, true, true, true, true, true, true, true, true, true, true, true, true, true] rfl rfl (by kernel_rfl) (fun _ _ _ h => h) (Or.inl ⟨by rfl, ?_⟩) ?_ ?_
            rotate_left
            · intro w'
              go_simp
              with_reducible rfl
            rotate_left
            · simp only [Act.put, List.setIfInBounds_toArray, List.set_cons_zero, List.set_cons_succ, i64_w, i32_w]
              rfl
            refine done_ (by kernel_rfl) ?_
            have HM2 := Lib.hid (HM1.out.below (Below.drew (Below.refl _ _)))
            have HO2 := Lib.hid (Kd.R_drew HO1.out)
            have HW2 := Lib.hid HW1.out.drew
            go_wp2_with fail
            go_roundw
            case rel => exact ⟨q + 1, by go_num, by omega, HM2, HO2, HW2⟩
            case measure => simp [intOf]; omega
          · have z1 : decide ((0 : Int) < (q : Int)) = true := decide_eq_true (by omega)
            have z2 : decide (0 < q) = true := decide_eq_true (by omega)
            obtain ⟨qm, hqm⟩ : ∃ qm, q = qm + 1 := ⟨q - 1, by omega⟩
            obtain ⟨f, hf⟩ : ∃ f, lost[qm]? = some f := ⟨_, List.getElem?_eq_getElem (by rw [HLN.out]; omega)⟩
            obtain ⟨adl', hadl', fc⟩ := RI_get HO1.out hf
            have hae : adl = adl' := by simpa using hadl'
            subst hae
            have hfg : f < g := by
              have h1 := lost_rise ra l
              rw [HLS.out] at h1
              have hl1 := (List.getElem?_eq_some_iff.1 hf).1
              have hl2 := (List.getElem?_eq_some_iff.1 HGQ.out).1
              have h2 := (List.pairwise_iff_getElem.1 h1) qm q hl1 hl2 (by omega)
              rw [(List.getElem?_eq_some_iff.1 hf).2, (List.getElem?_eq_some_iff.1 HGQ.out).2] at h2
              exact h2
            have z3 : decide (g ≤ f) = false := decide_eq_false (by omega)
            have z4 : IntKind.i64.wrap ((q : Int) - 1) = (qm : Int) := by rw [IntWalk.i64_in _ (by omega)]; omega
            have z5 : (0 : Int) ≤ (qm : Int) := by omega
            have z6 : (qm : Int) < (nlo : Int) := by omega
            have z7 : (q : Int) - 1 = (qm : Int) := by omega
            have z8 : wrap64 (qm : Int) = (qm : Int) := by unfold wrap64; omega
            clear hadl' hf hfg hqm hq0
            go_wp2_with fail
            refine start_ (n := 17) (S := fun w' => w'.cell? (adl.add q) = some (.int .i64 g) ∧ w'.cell? (adl.add qm) = some (.int .i64 f)) (ds := []) #[false, false, false, false, false, false, false, false, false, false, false, false, false, false, false, false, false] (by kernel_rfl) rfl rfl ⟨pw_cell_below (Below.drew (Below.refl _ _)) gc, pw_cell_below (Below.drew (Below.refl _ _)) fc⟩ (fun hHeld => ?_)
            refine pure_ (i := 0) (N := some 173) (v := ?_) (a' := ?_) #[true, false, false, false, false, false, false, false, false, false, false, false, false, false, false, false, false] rfl rfl (by kernel_rfl) (fun _ _ _ h => h) (Or.inl ⟨by rfl, ?_⟩) ?_ ?_
            rotate_left
            · intro w'
              go_simp
              with_reducible rfl
            rotate_left
            · simp only [Act.put, List.setIfInBounds_toArray, List.set_cons_zero, List.set_cons_succ, i64_w, i32_w]
              rfl
            refine pure_ (i := 1) (N := some 174) (v := ?_) (a' := ?_) #[true, true, false, false, false, false, false, false, false, false, false, false, false, false, false, false, false] rfl rfl (by kernel_rfl) (fun _ _ _ h => h) (Or.inl ⟨by rfl, ?_⟩) ?_ ?_
            rotate_left
            · intro w'
              go_simp
              with_reducible rfl
            rotate_left
            · simp only [Act.put, List.setIfInBounds_toArray, List.set_cons_zero, List.set_cons_succ, i64_w, i32_w]
              rfl
            refine pure_ (i := 2) (N := some 175) (v := ?_) (a' := ?_) #[true, true, true, false, false, false, false, false, false, false, false, false, false, false, false, false, false] rfl rfl (by kernel_rfl) (fun _ _ _ h => h) (Or.inl ⟨by rfl, ?_⟩) ?_ ?_
            rotate_left
            · intro w'
              go_simp
              with_reducible rfl
            rotate_left
            · simp only [Act.put, List.setIfInBounds_toArray, List.set_cons_zero, List.set_cons_succ, i64_w, i32_w]
              rfl
            refine pure_ (i := 3) (N := some 176) (v := ?_) (a' := ?_) #[true, true, true, true, false, false, false, false, false, false, false, false, false, false, false, false, false] rfl rfl (by kernel_rfl) (fun _ _ _ h => h) (Or.inl ⟨by rfl, ?_⟩) ?_ ?_
            rotate_left
            · intro w'
              go_simp
              with_reducible rfl
            rotate_left
            · simp only [Act.put, List.setIfInBounds_toArray, List.set_cons_zero, List.set_cons_succ, i64_w, i32_w]
              rfl
            refine pure_ (i := 4) (N := some 177) (v := ?_) (a' := ?_) #[true, true, true, true, true, false, false, false, false, false, false, false, false, false, false, false, false] rfl rfl (by kernel_rfl) (fun _ _ _ h => h) (Or.inl ⟨by rfl, ?_⟩) ?_ ?_
            rotate_left
            · intro w'
              go_simp
              with_reducible rfl
            rotate_left
            · simp only [Act.put, List.setIfInBounds_toArray, List.set_cons_zero, List.set_cons_succ, i64_w, i32_w]
              rfl
            refine pure_ (i := 5) (N := some 178) (v := ?_) (a' := ?_) #[true, true, true, true, true, true, false, false, false, false, false, false, false, false, false, false, false] rfl rfl (by kernel_rfl) (fun _ _ _ h => h) (Or.inl ⟨by rfl, ?_⟩) ?_ ?_
            rotate_left
            · intro w'
              go_simp
              with_reducible rfl
            rotate_left
            · simp only [Act.put, List.setIfInBounds_toArray, List.set_cons_zero, List.set_cons_succ, i64_w, i32_w]
              rfl
            refine pure_ (i := 6) (N := some 179) (v := ?_) (a' := ?_) #[true, true, true, true, true, true, true, false, false, false, false, false, false, false, false, false, false] rfl rfl (by kernel_rfl) (fun _ _ _ h => h) (Or.inl ⟨by rfl, ?_⟩) ?_ ?_
            rotate_left
            · intro w'
              go_simp
              with_reducible rfl
            rotate_left
            · simp only [Act.put, List.setIfInBounds_toArray, List.set_cons_zero, List.set_cons_succ, i64_w, i32_w]
              rfl
            refine pure_ (i := 7) (N := some 180) (v := ?_) (a' := ?_) #[true, true, true, true, true, true, true, true, false, false, false, false, false, false, false, false, false] rfl rfl (by kernel_rfl) (fun _ _ _ h => h) (Or.inl ⟨by rfl, ?_⟩) ?_ ?_
            rotate_left
            · intro w'
              go_simp
              with_reducible rfl
            rotate_left
            · simp only [Act.put, List.setIfInBounds_toArray, List.set_cons_zero, List.set_cons_succ, i64_w, i32_w]
              rfl
            refine pure_ (i := 8) (N := some 181) (v := ?_) (a' := ?_) #[true, true, true, true, true, true, true, true, true, false, false, false, false, false, false, false, false] rfl rfl (by kernel_rfl) (fun _ _ _ h => h) (Or.inl ⟨by rfl, ?_⟩) ?_ ?_
            rotate_left
            · intro w'
              go_simp
              with_reducible rfl
            rotate_left
            · simp only [Act.put, List.setIfInBounds_toArray, List.set_cons_zero, List.set_cons_succ, i64_w, i32_w]
              rfl
            refine pure_ (i := 10) (N := some 183) (v := ?_) (a' := ?_) #[true, true, true, true, true, true, true, true, true, false, true, false, false, false, false, false, false] rfl rfl (by kernel_rfl) (fun _ _ _ h => h) (Or.inl ⟨by rfl, ?_⟩) ?_ ?_
            rotate_left
            · intro w'
              go_simp
              with_reducible rfl
            rotate_left
            · simp only [Act.put, List.setIfInBounds_toArray, List.set_cons_zero, List.set_cons_succ, i64_w, i32_w]
              rfl
            refine pure_ (i := 11) (N := some 184) (v := ?_) (a' := ?_) #[true, true, true, true, true, true, true, true, true, false, true, true, false, false, false, false, false] rfl rfl (by kernel_rfl) (fun _ _ _ h => h) (Or.inl ⟨by rfl, ?_⟩) ?_ ?_
            rotate_left
            · intro w'
              go_simp
              with_reducible rfl
            rotate_left
            · simp only [Act.put, List.setIfInBounds_toArray, List.set_cons_zero, List.set_cons_succ, i64_w, i32_w]
              rfl
            refine pure_ (i := 12) (N := some 185) (v := ?_) (a' := ?_) #[true, true, true, true, true, true, true, true, true, false, true, true, true, false, false, false, false] rfl rfl (by kernel_rfl) (fun _ _ _ h => h) (Or.inl ⟨by rfl, ?_⟩) ?_ ?_
            rotate_left
            · intro w'
              go_simp
              with_reducible rfl
            rotate_left
            · simp only [Act.put, List.setIfInBounds_toArray, List.set_cons_zero, List.set_cons_succ, i64_w, i32_w]
              rfl
            refine take_ (i := 9) (N := some 182) (v := ?_) (a' := ?_) #[true, true, true, true, true, true, true, true, true, true, true, true, true, false, false, false, false] rfl rfl (by kernel_rfl) (fun _ _ _ h => h) (Or.inl ⟨by rfl, ?_⟩) hHeld ?_ ?_
            rotate_left
            · rintro w' ⟨s0, s1⟩
              go_simp
              with_reducible rfl
            rotate_left
            · simp only [Act.put, List.setIfInBounds_toArray, List.set_cons_zero, List.set_cons_succ, i64_w, i32_w]
              rfl
            refine take_ (i := 13) (N := some 186) (v := ?_) (a' := ?_) #[true, true, true, true, true, true, true, true, true, true, true, true, true, true, false, false, false] rfl rfl (by kernel_rfl) (fun _ _ _ h => h) (Or.inl ⟨by rfl, ?_⟩) hHeld ?_ ?_
            rotate_left
            · rintro w' ⟨s0, s1⟩
              go_simp
              with_reducible rfl
            rotate_left
            · simp only [Act.put, List.setIfInBounds_toArray, List.set_cons_zero, List.set_cons_succ, i64_w, i32_w]
              rfl
            refine pure_ (i := 14) (N := some 187) (v := ?_) (a' := ?_) #[true, true, true, true, true, true, true, true, true, true, true, true, true, true, true, false, false] rfl rfl (by kernel_rfl) (fun _ _ _ h => h) (Or.inl ⟨by rfl, ?_⟩) ?_ ?_
            rotate_left
            · intro w'
              go_simp
              with_reducible rfl
            rotate_left
            · simp only [Act.put, List.setIfInBounds_toArray, List.set_cons_zero, List.set_cons_succ, i64_w, i32_w]
              rfl
            refine pure_ (i := 15) (N := some 188) (v := ?_) (a' := ?_) #[true, true, true, true, true, true, true, true, true, true, true, true, true, true, true, true, false] rfl rfl (by kernel_rfl) (fun _ _ _ h => h) (Or.inl ⟨by rfl, ?_⟩) ?_ ?_
            rotate_left
            · intro w'
              go_simp
              with_reducible rfl
            rotate_left
            · simp only [Act.put, List.setIfInBounds_toArray, List.set_cons_zero, List.set_cons_succ, i64_w, i32_w]
              rfl
            refine pure_ (i := 16) (N := some 189) (v := ?_) (a' := ?_) #[true, true, true, true, true, true, true, true, true, true, true, true, true, true, true, true, true] rfl rfl (by kernel_rfl) (fun _ _ _ h => h) (Or.inl ⟨by rfl, ?_⟩) ?_ ?_
            rotate_left
            · intro w'
              go_simp
              with_reducible rfl
            rotate_left
            · simp only [Act.put, List.setIfInBounds_toArray, List.set_cons_zero, List.set_cons_succ, i64_w, i32_w]
              rfl
            refine done_ (by kernel_rfl) ?_
            have HM2 := Lib.hid (HM1.out.below (Below.drew (Below.refl _ _)))
            have HO2 := Lib.hid (Kd.R_drew HO1.out)
            have HW2 := Lib.hid HW1.out.drew
            go_wp2_with fail
            go_roundw
            case rel => exact ⟨q + 1, by go_num, by omega, HM2, HO2, HW2⟩
            case measure => simp [intOf]; omega
        · have q2 : decide ((q : Int) < (nlo : Int)) = false := decide_eq_false (by omega)
          go_wp2_with fail
          go_ret
          exact ⟨rfl, HW.out⟩
end Go.Proofs.Yteojldbfebnccaa
