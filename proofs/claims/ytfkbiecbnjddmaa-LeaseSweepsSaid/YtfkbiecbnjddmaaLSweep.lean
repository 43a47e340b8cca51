/- lease.Sweep: the records that stay, and those that are gone. -/
import Derived.Test.YtfkbiecbnjddmaaLRow
import Derived.Deep.RegionLaw
import Derived.BigRegion
namespace Go.Proofs.Ytfkbiecbnjddmaa
open Go.RowKit Go.Proofs.YtfkbiecbnjddmaaW.PrintWords Go.Proofs.YtfkbiecbnjddmaaW.PrintLast Go.Proofs.YtfkbiecbnjddmaaW.PrintMore
set_option linter.unusedVariables false
def goneB (a : Int) (r : S34) : Bool := r.f0 && decide (r.f6 ≤ a)
def stayL (l : List S34) (a : Int) : List S34 := l.filter (fun r => !goneB a r)
def goneL (l : List S34) (a : Int) : List S34 := l.filter (goneB a)
def lease_Sweep.f (l0 : List S34) (a1 : Int) : Option (List S34 × List S34) := if l0.length < 1000000 then some (stayL l0 a1, goneL l0 a1) else none
theorem gone_eq (r : S34) (a : Int) : lease_Gone.f r.f0 r.f1 r.f2 r.f3 r.f4 r.f5 r.f6 a = some (goneB a r) := by
  unfold lease_Gone.f goneB
  cases r.f0 <;> simp
structure SwAt (W W' : World) (P Q : Nat) (l : List S34) (a : Int) (i : Nat) (v4 v5 : Value) : Prop where
  p : W'.heap[P]? = some (.cells #[v4] 23 (0, 0))
  q : W'.heap[Q]? = some (.cells #[v5] 23 (0, 0))
  r4 : Kd.R k34 34 W' W.heap.size (fun k => some k ≠ v5.ownBlock) v4 (stayL (l.take i) a)
  r5 : Kd.R k34 34 W' W.heap.size (fun k => some k ≠ v4.ownBlock) v5 (goneL (l.take i) a)
  b : Below W.heap.size W W'
theorem results_ss {P : Program} {fn : Func} {p q : Tmp} {ty e : TypeId} (h : fn.results = #[.cell p ty, .cell q ty]) (tmps : Array Value) (w : World) (a b : Addr) (v u : Value)
    (hp : tmps.getD p undef = .pointer (some a)) (hq : tmps.getD q undef = .pointer (some b)) (hu : P.underlying ty = some (.slice e)) (ha : w.cell? a = some v) (hb : w.cell? b = some u) :
    (results fn tmps).run P w = .ok (.tuple #[v, u]) w := by
  have hp' : tmps[p]?.getD undef = .pointer (some a) := by simpa using hp
  have hq' : tmps[q]?.getD undef = .pointer (some b) := by simpa using hq
  simp [results, h, hp', hq', asAddr, loadVar, isAgg, run_underlying hu, Result.andThen]
  go_simp
theorem stay_le (l : List S34) (a : Int) (i : Nat) : (stayL (l.take i) a).length ≤ i := Nat.le_trans (List.length_filter_le _ _) (by rw [List.length_take]; omega)
theorem gone_le (l : List S34) (a : Int) (i : Nat) : (goneL (l.take i) a).length ≤ i := Nat.le_trans (List.length_filter_le _ _) (by rw [List.length_take]; omega)
theorem take_rd {l : List S34} {i n : Nat} (hn : l.length = n) (hi : i < n) {x : S34} (hx : rd_T34 l (i : Int) = x) : l.take (i + 1) = l.take i ++ [x] := by
  have hil : i < l.length := by omega
  have : l[i] = x := by rw [← hx]; simp [rd_T34, List.getD_eq_getElem?_getD, hil]
  rw [← this, List.take_append_getElem hil]
/-- one of the two rows has grown -/
theorem SwAt.next {W w3 w4 : World} {P Q g o : Nat} {u v v1 : Value} {xs ys : List S34} {p : S34}
    (hP : w3.heap[P]? = some (.cells #[v] 23 (0, 0))) (hQ : w3.heap[Q]? = some (.cells #[u] 23 (0, 0))) (hPQ : P ≠ Q)
    (hv : Kd.R k34 34 w3 W.heap.size (fun k => some k ≠ u.ownBlock) v xs) (hu : Kd.R k34 34 w3 W.heap.size (fun k => some k ≠ v.ownBlock) u ys)
    (hb : Below W.heap.size W w4) (hPn : W.heap.size ≤ P) (h1 : Kd.R k34 34 w4 W.heap.size (fun k => some k ≠ u.ownBlock) v1 (xs ++ [p])) (hg : w3.grownBy w4 v.ownBlock) (hat : v1.ownBlock = v.ownBlock ∨ ∃ b, v1.ownBlock = some b ∧ w3.heap.size ≤ b) :
    (w4.setCell ⟨P, 0, none⟩ v1).heap[P]? = some (.cells #[v1] 23 (0, 0)) ∧ (w4.setCell ⟨P, 0, none⟩ v1).heap[Q]? = some (.cells #[u] 23 (0, 0)) ∧
      Kd.R k34 34 (w4.setCell ⟨P, 0, none⟩ v1) W.heap.size (fun k => some k ≠ u.ownBlock) v1 (xs ++ [p]) ∧ Kd.R k34 34 (w4.setCell ⟨P, 0, none⟩ v1) W.heap.size (fun k => some k ≠ v1.ownBlock) u ys ∧ Below W.heap.size W (w4.setCell ⟨P, 0, none⟩ v1) := by
  have hP4 := blk_grown hP hg (Kd.R_ne hv hP (by decide))
  have hQ4 := blk_grown hQ hg (Kd.R_ne hv hQ (by decide))
  have hu4 : Kd.R k34 34 w4 W.heap.size (fun k => some k ≠ v1.ownBlock) u ys := Kd.R_mono (Kd.R_after (ok := fun _ => True) (Kd.R_mono hu (fun _ hk => ⟨trivial, hk⟩)) hg hat) (fun _ hk => hk.2)
  refine ⟨?_, ?_, Kd.R_set h1 hP4 (by decide) 0 v1, Kd.R_set hu4 hP4 (by decide) 0 v1, hb.setCell hPn _⟩
  · have := blk_set hP4 0 v1
    simpa using this
  · rw [Below.heap_setCell _ _ _ _ (Ne.symm hPQ)]
    exact hQ4
set_option maxHeartbeats 4000000
set_option maxRecDepth 100000
theorem lease_Sweep.calls (A0 : Option Addr) (c0 : Nat) (l0 : List S34) (a1 : Int) (r1 r2 : List S34) (w : World) (hr0 : Kd.C k34 w A0 l0.length l0) (hc0 : l0.length ≤ c0) (h : lease_Sweep.f l0 a1 = some (r1, r2)) :
    Calls Try.prog 10 #[.slice A0 l0.length c0, .int .u64 a1] w fun e w' => ∃ v0_ v1_ : Value, e = .returned (.tuple #[v0_, v1_]) ∧ Kd.R k34 34 w' w.heap.size (fun k_ => some k_ ≠ (v1_ : Value).ownBlock) v0_ r1 ∧ Kd.R k34 34 w' w.heap.size (fun k_ => some k_ ≠ (v0_ : Value).ownBlock) v1_ r2 ∧ Below w.heap.size w w' := by
  obtain ⟨n, hn⟩ : ∃ n, l0.length = n := ⟨_, rfl⟩
  have hlen : n < 1000000 := by
    unfold lease_Sweep.f at h
    split at h
    · omega
    · simp at h
  have hres : r1 = stayL l0 a1 ∧ r2 = goneL l0 a1 := by
    unfold lease_Sweep.f at h
    rw [if_pos (by omega)] at h
    simp at h
    exact ⟨h.1.symm, h.2.symm⟩
  obtain ⟨rfl, rfl⟩ := hres
  rw [hn] at hr0 hc0 ⊢
  have HR0 := Lib.hid hr0
  have HN := Lib.hid hn
  clear hr0 h hn
  go_enter Try.func10, Try.ntmps10
  go_wp2_with fail
  obtain ⟨W2, hW2⟩ : ∃ W2, (w.alloc (.cells #[.slice none 0 0] 23)).alloc (.cells #[.slice none 0 0] 23) = W2 := ⟨_, rfl⟩
  rw [hW2]
  have H2 := Lib.hid (show SwAt w W2 w.heap.size (w.heap.size + 1) l0 a1 0 (.slice none 0 0) (.slice none 0 0) by
    rw [← hW2]
    exact ⟨blk_alloc (blk_new w _) _, by simpa using blk_new (w.alloc _) _, Kd.R_nil _ _ _ _ _, Kd.R_nil _ _ _ _ _, below_alloc (below_alloc (Below.refl _ _) _) _⟩)
  obtain ⟨P, hP⟩ : ∃ P, w.heap.size = P := ⟨_, rfl⟩
  obtain ⟨Q, hQ⟩ : ∃ Q, w.heap.size + 1 = Q := ⟨_, rfl⟩
  rw [hQ]
  have HQ := Lib.hid hQ
  rw [hQ] at H2
  have HPQ := Lib.hid (show w.heap.size ≠ Q from by omega)
  clear hW2 hP hQ
  go_loopw [11] (fun v11 wr => ∃ (i : Nat) (v4 v5 : Value), v11 = .int .i64 i ∧ i ≤ n ∧ Hid (SwAt w wr w.heap.size Q l0 a1 i v4 v5)) (fun v _ => n - (intOf v).toNat)
  case atStart => exact ⟨0, _, _, rfl, Nat.zero_le _, H2⟩
  case round =>
    clear H2
    obtain ⟨i, v4, v5, rfl, hi, HS⟩ := hrel
    by_cases hlt : i < n
    · have p0 : (0 : Int) ≤ (i : Int) := by omega
      have q0 : (i : Int) < (n : Int) := by omega
      obtain ⟨ad, ea, hx0, hx1, hx2, hx3, hx4, hx5, hx6⟩ := at_T34 HR0.out (i : Int) p0 q0
      cases ea
      have HBw := HS.out.b
      replace hx0 := pw_cell_below HBw hx0
      replace hx1 := pw_cell_below HBw hx1
      replace hx2 := pw_cell_below HBw hx2
      replace hx3 := pw_cell_below HBw hx3
      replace hx4 := pw_cell_below HBw hx4
      replace hx5 := pw_cell_below HBw hx5
      replace hx6 := pw_cell_below HBw hx6
      clear HBw
      obtain ⟨x, hx⟩ : ∃ x, rd_T34 l0 (i : Int) = x := ⟨_, rfl⟩
      rw [hx] at hx0 hx1 hx2 hx3 hx4 hx5 hx6
      simp only [Int.toNat_natCast] at hx0 hx1 hx2 hx3 hx4 hx5 hx6
      have htake := Lib.hid (take_rd HN.out hlt hx)
      clear hx
      go_wp2_with fail
      obtain ⟨w2, hw2⟩ : ∃ w2, wr.alloc (.cells #[.bool x.f0, .int .u32 x.f1, .string x.f2, .int .i64 x.f3, .int .i64 x.f4, .int .i64 x.f5, .int .u64 x.f6] 34) = w2 := ⟨_, rfl⟩
      rw [hw2]
      have hb2 : Below wr.heap.size wr w2 := by rw [← hw2]; exact below_alloc (Below.refl _ _) _
      have hX2 : w2.heap[wr.heap.size]? = some (.cells #[.bool x.f0, .int .u32 x.f1, .string x.f2, .int .i64 x.f3, .int .i64 x.f4, .int .i64 x.f5, .int .u64 x.f6] 34 (0, 0)) := by rw [← hw2]; exact blk_new wr _
      obtain ⟨B, hB⟩ : ∃ B, wr.heap.size = B := ⟨_, rfl⟩
      rw [hB] at hX2
      rw [hB]
      clear hx0 hx1 hx2 hx3 hx4 hx5 hx6 hw2
      refine (lease_Gone.calls x.f0 x.f1 x.f2 x.f3 x.f4 x.f5 x.f6 a1 (goneB a1 x) _ (gone_eq x a1)).mono ?_
      rintro e w3 ⟨rfl, hb3⟩
      have hbb : Below wr.heap.size wr w3 := below_then hb2 hb2.size hb3
      have HX3 := Lib.hid (blk_below hX2 hb3)
      have HP3 := Lib.hid (blk_below HS.out.p hbb)
      have HQ3 := Lib.hid (blk_below HS.out.q hbb)
      have R43 := Lib.hid (Kd.R_below HS.out.r4 hbb)
      have R53 := Lib.hid (Kd.R_below HS.out.r5 hbb)
      have HB3 := Lib.hid (below_then HS.out.b HS.out.b.size hbb)
      clear hb2 hX2 hb3 hbb hB
      cases hgo : goneB a1 x with
      | false =>
        have stay_next : stayL (l0.take (i + 1)) a1 = stayL (l0.take i) a1 ++ [x] := by rw [htake.out]; simp [stayL, hgo]
        have gone_next : goneL (l0.take (i + 1)) a1 = goneL (l0.take i) a1 := by rw [htake.out]; simp [goneL, hgo]
        clear hgo
        replace stay_next := Lib.hid stay_next
        replace gone_next := Lib.hid gone_next
        have c4 : w3.cell? ⟨w.heap.size, 0, none⟩ = some v4 := cell_of_row _ _ 0 _ _ _ HP3.out
        have e0 : w3.cell? ⟨B, 0, none⟩ = some (.bool x.f0) := cell_of_row _ _ 0 _ _ _ HX3.out
        have e1 : w3.cell? ⟨B, 1, none⟩ = some (.int .u32 x.f1) := cell_of_row _ _ 1 _ _ _ HX3.out
        have e2 : w3.cell? ⟨B, 2, none⟩ = some (.string x.f2) := cell_of_row _ _ 2 _ _ _ HX3.out
        have e3 : w3.cell? ⟨B, 3, none⟩ = some (.int .i64 x.f3) := cell_of_row _ _ 3 _ _ _ HX3.out
        have e4 : w3.cell? ⟨B, 4, none⟩ = some (.int .i64 x.f4) := cell_of_row _ _ 4 _ _ _ HX3.out
        have e5 : w3.cell? ⟨B, 5, none⟩ = some (.int .i64 x.f5) := cell_of_row _ _ 5 _ _ _ HX3.out
        have e6 : w3.cell? ⟨B, 6, none⟩ = some (.int .u64 x.f6) := cell_of_row _ _ 6 _ _ _ HX3.out
        have c4' := pw_cell_below (below_alloc (Below.refl _ w3) (.cells #[.bool x.f0, .int .u32 x.f1, .string x.f2, .int .i64 x.f3, .int .i64 x.f4, .int .i64 x.f5, .int .u64 x.f6] 34)) c4
        have hll : ((stayL (l0.take i) a1).length + 1) * 56 ≤ 140737488355328 := by have := stay_le l0 a1 i; omega
        have HLL := Lib.hid hll
        clear hll
        go_wp2_with fail
        go_region_law (refine Kd.R_append_step k34 (w0 := w) (W := w3.drew) w.heap.size rfl (.tmp 21) (.tmp 23) 23 34 (.agg #[(.bool false), (.int .u32 0), (.string ⟨#[]⟩), (.int .i64 0), (.int .i64 0), (.int .i64 0), (.int .u64 0)]) 56 rfl Try.underlying23 info34 rfl (by decide) (by omega) v4 (stayL (l0.take i) a1) x [.bool x.f0, .int .u32 x.f1, .string x.f2, .int .i64 x.f3, .int .i64 x.f4, .int .i64 x.f5, .int .u64 x.f6] (fun k => some k ≠ v5.ownBlock) (fun _ => False) rfl rfl (k34_mkM _ _ _ x) (fun _ hk => hk.elim) (fun k hk => Kd.fresh' (Kd.R_lt (Kd.R_below R53.out (Below.drew (Below.refl _ w3)))) k hk) (Kd.R_below R43.out (Below.drew (Below.refl _ w3))) HB3.out.drew HB3.out.size HLL.out ?_; intro v1 w4 ho hb hg hat; obtain ⟨A1, L1, n1, rfl⟩ : ∃ A L n, v1 = Value.slice A L n := (by obtain ⟨A, c, h⟩ := Kd.R_slice ho; exact ⟨_, _, _, h⟩); have k0 := blk_cell (blk_grown (show w3.drew.heap[w.heap.size]? = _ from HP3.out) hg (Kd.R_ne (Kd.R_below R43.out (Below.drew (Below.refl _ w3))) (show w3.drew.heap[w.heap.size]? = _ from HP3.out) (by decide))) 0; have k1 := blk_frozen (blk_grown (show w3.drew.heap[w.heap.size]? = _ from HP3.out) hg (Kd.R_ne (Kd.R_below R43.out (Below.drew (Below.refl _ w3))) (show w3.drew.heap[w.heap.size]? = _ from HP3.out) (by decide))) 0; replace ho := Lib.hid ho; replace hb := Lib.hid hb; replace hg := Lib.hid hg; replace hat := Lib.hid hat)
        all_goals (
          go_wp2_with fail
          have e9 : IntKind.i64.wrap ((i : Int) + 1) = ((i + 1 : Nat) : Int) := by rw [IntKind.wrap_i64]; omega
          obtain ⟨z1, z2, z3, z4, z5⟩ := SwAt.next (W := w) (w3 := w3.drew) (P := w.heap.size) (Q := Q) (g := 0) (o := 0) HP3.out HQ3.out HPQ.out (Kd.R_below R43.out (Below.drew (Below.refl _ w3))) (Kd.R_below R53.out (Below.drew (Below.refl _ w3))) hb.out (Nat.le_refl _) ho.out hg.out hat.out
          go_roundw
          case rel => exact ⟨i + 1, _, v5, by simp, by omega, Lib.hid ⟨z1, z2, by rw [stay_next.out]; exact z3, by rw [gone_next.out]; exact z4, z5⟩⟩
          case measure => simp [intOf]; omega)
      | true =>
        have stay_next : stayL (l0.take (i + 1)) a1 = stayL (l0.take i) a1 := by rw [htake.out]; simp [stayL, hgo]
        have gone_next : goneL (l0.take (i + 1)) a1 = goneL (l0.take i) a1 ++ [x] := by rw [htake.out]; simp [goneL, hgo]
        clear hgo
        replace stay_next := Lib.hid stay_next
        replace gone_next := Lib.hid gone_next
        have c4 : w3.cell? ⟨Q, 0, none⟩ = some v5 := cell_of_row _ _ 0 _ _ _ HQ3.out
        have e0 : w3.cell? ⟨B, 0, none⟩ = some (.bool x.f0) := cell_of_row _ _ 0 _ _ _ HX3.out
        have e1 : w3.cell? ⟨B, 1, none⟩ = some (.int .u32 x.f1) := cell_of_row _ _ 1 _ _ _ HX3.out
        have e2 : w3.cell? ⟨B, 2, none⟩ = some (.string x.f2) := cell_of_row _ _ 2 _ _ _ HX3.out
        have e3 : w3.cell? ⟨B, 3, none⟩ = some (.int .i64 x.f3) := cell_of_row _ _ 3 _ _ _ HX3.out
        have e4 : w3.cell? ⟨B, 4, none⟩ = some (.int .i64 x.f4) := cell_of_row _ _ 4 _ _ _ HX3.out
        have e5 : w3.cell? ⟨B, 5, none⟩ = some (.int .i64 x.f5) := cell_of_row _ _ 5 _ _ _ HX3.out
        have e6 : w3.cell? ⟨B, 6, none⟩ = some (.int .u64 x.f6) := cell_of_row _ _ 6 _ _ _ HX3.out
        have c4' := pw_cell_below (below_alloc (Below.refl _ w3) (.cells #[.bool x.f0, .int .u32 x.f1, .string x.f2, .int .i64 x.f3, .int .i64 x.f4, .int .i64 x.f5, .int .u64 x.f6] 34)) c4
        have hll : ((goneL (l0.take i) a1).length + 1) * 56 ≤ 140737488355328 := by have := gone_le l0 a1 i; omega
        have HLL := Lib.hid hll
        clear hll
        go_wp2_with fail
        go_region_law (refine Kd.R_append_step k34 (w0 := w) (W := w3.drew) w.heap.size rfl (.tmp 21) (.tmp 23) 23 34 (.agg #[(.bool false), (.int .u32 0), (.string ⟨#[]⟩), (.int .i64 0), (.int .i64 0), (.int .i64 0), (.int .u64 0)]) 56 rfl Try.underlying23 info34 rfl (by decide) (by omega) v5 (goneL (l0.take i) a1) x [.bool x.f0, .int .u32 x.f1, .string x.f2, .int .i64 x.f3, .int .i64 x.f4, .int .i64 x.f5, .int .u64 x.f6] (fun k => some k ≠ v4.ownBlock) (fun _ => False) rfl rfl (k34_mkM _ _ _ x) (fun _ hk => hk.elim) (fun k hk => Kd.fresh' (Kd.R_lt (Kd.R_below R43.out (Below.drew (Below.refl _ w3)))) k hk) (Kd.R_below R53.out (Below.drew (Below.refl _ w3))) HB3.out.drew HB3.out.size HLL.out ?_; intro v1 w4 ho hb hg hat; obtain ⟨A1, L1, n1, rfl⟩ : ∃ A L n, v1 = Value.slice A L n := (by obtain ⟨A, c, h⟩ := Kd.R_slice ho; exact ⟨_, _, _, h⟩); have k0 := blk_cell (blk_grown (show w3.drew.heap[Q]? = _ from HQ3.out) hg (Kd.R_ne (Kd.R_below R53.out (Below.drew (Below.refl _ w3))) (show w3.drew.heap[Q]? = _ from HQ3.out) (by decide))) 0; have k1 := blk_frozen (blk_grown (show w3.drew.heap[Q]? = _ from HQ3.out) hg (Kd.R_ne (Kd.R_below R53.out (Below.drew (Below.refl _ w3))) (show w3.drew.heap[Q]? = _ from HQ3.out) (by decide))) 0; replace ho := Lib.hid ho; replace hb := Lib.hid hb; replace hg := Lib.hid hg; replace hat := Lib.hid hat)
        all_goals (
          go_wp2_with fail
          have e9 : IntKind.i64.wrap ((i : Int) + 1) = ((i + 1 : Nat) : Int) := by rw [IntKind.wrap_i64]; omega
          obtain ⟨z1, z2, z3, z4, z5⟩ := SwAt.next (W := w) (w3 := w3.drew) (P := Q) (Q := w.heap.size) (g := 0) (o := 0) HQ3.out HP3.out (Ne.symm HPQ.out) (Kd.R_below R53.out (Below.drew (Below.refl _ w3))) (Kd.R_below R43.out (Below.drew (Below.refl _ w3))) hb.out (by have := HQ.out; omega) ho.out hg.out hat.out
          go_roundw
          case rel => exact ⟨i + 1, v4, _, by simp, by omega, Lib.hid ⟨z2, z1, by rw [stay_next.out]; exact z4, by rw [gone_next.out]; exact z3, z5⟩⟩
          case measure => simp [intOf]; omega)
    · obtain rfl : i = n := by omega
      obtain ⟨A4, L4, n4, rfl⟩ : ∃ A L n, v4 = Value.slice A L n := by obtain ⟨A, c, h⟩ := Kd.R_slice HS.out.r4; exact ⟨_, _, _, h⟩
      obtain ⟨A5, L5, n5, rfl⟩ : ∃ A L n, v5 = Value.slice A L n := by obtain ⟨A, c, h⟩ := Kd.R_slice HS.out.r5; exact ⟨_, _, _, h⟩
      have c4 := blk_cell HS.out.p 0
      have c5 := blk_cell HS.out.q 0
      have f4 := blk_frozen HS.out.p 0
      have f5 := blk_frozen HS.out.q 0
      simp at c4 c5
      have c5' : ∀ u : Value, (wr.setCell ⟨w.heap.size, 0, none⟩ u).cell? ⟨Q, 0, none⟩ = some (.slice A5 L5 n5) := fun u => (World.cell?_setCell_other wr _ _ _ (fun e => HPQ.out (by injection e))).trans c5
      have hne : (⟨Q, 0, none⟩ : Addr) ≠ ⟨w.heap.size, 0, none⟩ := fun e => HPQ.out (by injection e with e; exact e.symm)
      go_wp2_with fail
      refine bodyPost_ret (results_ss rfl _ _ ⟨w.heap.size, 0, none⟩ ⟨Q, 0, none⟩ (.slice A4 L4 n4) (.slice A5 L5 n5) rfl rfl Try.underlying23 ?_ ?_) rfl ?_
      · exact (World.cell?_setCell_other _ _ _ _ hne).trans (World.cell?_setCell_same _ _ _ c4)
      · exact World.cell?_setCell_same _ _ _ (c5' _)
      · have ht : l0.take i = l0 := List.take_of_length_le (by have := HN.out; omega)
        have h4 := HS.out.r4
        have h5 := HS.out.r5
        rw [ht] at h4 h5
        have hq : (wr.setCell ⟨w.heap.size, 0, none⟩ (.slice A4 L4 n4)).heap[Q]? = some (.cells #[.slice A5 L5 n5] 23 (0, 0)) := (Below.heap_setCell _ _ _ _ (Ne.symm HPQ.out)).trans HS.out.q
        exact ⟨_, _, rfl, Kd.R_set (Kd.R_set h4 HS.out.p (by decide) 0 _) hq (by decide) 0 _, Kd.R_set (Kd.R_set h5 HS.out.p (by decide) 0 _) hq (by decide) 0 _, (HS.out.b.setCell (p := ⟨w.heap.size, 0, none⟩) (Nat.le_refl _) _).setCell (p := ⟨Q, 0, none⟩) (by have := HQ.out; show w.heap.size ≤ Q; omega) _⟩
end Go.Proofs.Ytfkbiecbnjddmaa
