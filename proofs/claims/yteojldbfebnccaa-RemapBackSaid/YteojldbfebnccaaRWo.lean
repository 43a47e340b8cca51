/- remap.Lost, remap.New: the seats of a hall but those that moves name. (Printed by gen_wo.py.) -/
import Derived.Test.YteojldbfebnccaaRSet
import Derived.Test.YteojldbfebnccaaRIdx
namespace Go.Proofs.Yteojldbfebnccaa
open Go.RowKit Go.Proofs.YteojldbfebnccaaW.PrintWords
set_option linter.unusedVariables false
set_option maxRecDepth 100000
/-- 64 cells of bools -/
def bcells (f : Nat → Bool) : Array Value := ((List.range 64).map fun j => Value.bool (f j)).toArray
theorem bcells_size (f : Nat → Bool) : (bcells f).size = 64 := by simp [bcells]
theorem bcells_get (f : Nat → Bool) {j : Nat} (h : j < 64) : (bcells f)[j]? = some (.bool (f j)) := by simp [bcells, h]
theorem bcells_set (f : Nat → Bool) (n : Nat) : (bcells f).setIfInBounds n (.bool true) = bcells (fun j => if j = n then true else f j) := by
  apply Array.ext'
  rw [Array.toList_setIfInBounds]
  apply List.ext_getElem?
  intro j
  rw [List.getElem?_set]
  by_cases h : n = j
  · subst h
    by_cases h2 : n < 64 <;> simp [bcells, h2]
  · by_cases h2 : j < 64
    · simp [bcells, h2, h, Ne.symm h]
    · simp [bcells, h2, h]
theorem bcells_false : bcells (fun _ => false) = Array.replicate 64 (Value.bool false) := by
  apply Array.ext'
  simp [bcells, List.map_const']
theorem seatsI_range (l : List S61) : ∀ s ∈ seatsI l, 0 ≤ s ∧ s < 64 := by
  intro s hs
  obtain ⟨p, hp, rfl⟩ := List.mem_map.1 hs
  unfold seatsL sl at hp
  obtain ⟨i, hi, hp⟩ := List.mem_flatMap.1 hp
  rw [List.mem_range] at hi
  unfold rs at hp
  obtain ⟨k, hk, rfl⟩ := List.mem_map.1 hp
  have := List.mem_range.1 (List.mem_filter.1 hk).1
  show 0 ≤ 8 * (i : Int) + (k : Int) ∧ 8 * (i : Int) + (k : Int) < 64
  omega
theorem info3' : (Try.prog.info? 3).map (fun i => (i.zero, i.size, i.bytes)) = some (some (.int .i64 0), 1, 8) := by kernel_rfl

/-! ### the closure 38 -/
def nm38 (x : S49) : Int := x.f0
theorem name38 (x : S49) (W : World) : Calls Try.prog 38 #[.agg #[.int .i64 x.f0, .int .i64 x.f1]] W fun e W' => e = .returned (.int .i64 (nm38 x)) ∧ Below W.heap.size W W' := by
  go_enter Try.func38, Try.ntmps38
  go_wp2_with fail
  go_ret
  exact ⟨rfl, below_alloc (Below.refl _ _) _⟩
def led38 (l : List S49) (i : Nat) (j : Nat) : Bool := (l.take i).any fun x => nm38 x == (j : Int)
def remap_Lost.v (rows : List S61) (l : List S49) : List Int := (seatsI rows).filter fun s => !(l.any fun x => nm38 x == s)
theorem led38_succ {l : List S49} {i : Nat} {x : S49} (hx : l[i]? = some x) (j : Nat) : led38 l (i + 1) j = (led38 l i j || (nm38 x == (j : Int))) := by
  unfold led38
  rw [List.take_add_one, hx]
  simp
structure WoA38 (w W : World) (H N : Nat) (A0 : Option Addr) (c0 n0 : Nat) (l : List S49) (i : Nat) : Prop where
  box : W.heap[H]? = some (.cells #[.slice A0 n0 c0] 29 (0, 0))
  blk : W.heap[N]? = some (.cells (bcells (led38 l i)) 59 (0, 0))
  b : Below w.heap.size w W
theorem WoA38.below {w W W' : World} {H N : Nat} {A0 : Option Addr} {c0 n0 : Nat} {l : List S49} {i : Nat} (h : WoA38 w W H N A0 c0 n0 l i) (hb : Below W.heap.size W W') : WoA38 w W' H N A0 c0 n0 l i :=
  ⟨blk_below h.box hb, blk_below h.blk hb, below_then h.b h.b.size hb⟩
def keep38 (rows : List S61) (l : List S49) (k : Nat) : List Int := ((seatsI rows).take k).filter fun s => !(led38 l l.length s.toNat)
theorem keep38_all (rows : List S61) (l : List S49) : keep38 rows l (seatsI rows).length = remap_Lost.v rows l := by
  unfold keep38 remap_Lost.v
  rw [List.take_of_length_le (Nat.le_refl _)]
  apply List.filter_congr
  intro s hs
  have := seatsI_range rows s hs
  unfold led38
  rw [List.take_of_length_le (Nat.le_refl _), Int.toNat_of_nonneg this.1]
theorem keep38_succ {rows : List S61} {l : List S49} {k : Nat} {s : Int} (hs : (seatsI rows)[k]? = some s) : keep38 rows l (k + 1) = keep38 rows l k ++ if led38 l l.length s.toNat then [] else [s] := by
  unfold keep38
  rw [List.take_add_one, hs, List.filter_append]
  congr 1
  cases h : led38 l l.length s.toNat <;> simp [h]
structure WoB38 (w W : World) (N : Nat) (rows : List S61) (l : List S49) (k : Nat) (vs v6 : Value) : Prop where
  blk : W.heap[N]? = some (.cells (bcells (led38 l l.length)) 59 (0, 0))
  b : Below w.heap.size w W
  os : W.ownsRow w.heap.size 3 1 vs (seatsI rows).length (nums .i64 (seatsI rows))
  o6 : W.ownsRow w.heap.size 3 1 v6 (keep38 rows l k).length (nums .i64 (keep38 rows l k))
  ne : ∀ b, vs.ownBlock = some b → v6.ownBlock ≠ some b
set_option maxHeartbeats 8000000 in
theorem without38 (A0 : Option Addr) (c0 : Nat) (rows : List S61) (A1 : Option Addr) (c1 : Nat) (l : List S49) (w : World) (hr0 : Kd.C k61 w A0 rows.length rows) (hc0 : rows.length ≤ c0) (hr1 : Kd.C k49 w A1 l.length l) (hc1 : l.length ≤ c1) :
    Calls Try.prog 37 #[.agg #[.slice A0 rows.length c0], .slice A1 l.length c1, .func (.func 38) #[] #[]] w fun e w' => ∃ v, e = .returned v ∧ w'.ownsRow w.heap.size 3 1 v (remap_Lost.v rows l).length (nums .i64 (remap_Lost.v rows l)) ∧ Below w.heap.size w w' := by
  obtain ⟨n, hn⟩ : ∃ n, l.length = n := ⟨_, rfl⟩
  have hmx := Kd.C_max hr1
  rw [hn] at hr1 hc1 hmx ⊢
  have HR0 := Lib.hid hr0
  have HC0 := Lib.hid hc0
  have HR1 := Lib.hid hr1
  have HN := Lib.hid hn
  clear hr0 hc0 hr1 hn
  go_enter Try.func37, Try.ntmps37
  go_wp2_with fail
  generalize hw2 : World.alloc _ _ = w2
  have H2 := Lib.hid (show WoA38 w w2 w.heap.size (w.heap.size + 1) A0 c0 rows.length l 0 by
    rw [← hw2]
    refine ⟨blk_alloc (blk_new w _) _, ?_, below_alloc (below_alloc (Below.refl _ _) _) _⟩
    have e : bcells (led38 l 0) = bcells (fun _ => false) := by congr 1
    rw [e, bcells_false]
    have := blk_new (w.alloc (.cells #[.slice A0 rows.length c0] 29)) (.cells (Array.replicate 64 (Value.bool false)) 59)
    rw [World.size_alloc] at this
    exact this)
  obtain ⟨H, hH⟩ : ∃ H, w.heap.size = H := ⟨_, rfl⟩
  obtain ⟨N, hN⟩ : ∃ N, w.heap.size + 1 = N := ⟨_, rfl⟩
  have HNW := Lib.hid (show w.heap.size ≤ N by omega)
  rw [hN]
  rw [hN] at H2
  clear hw2 hN hH
  go_loopw [15] (fun v15 wr => ∃ i : Nat, v15 = .int .i64 i ∧ i ≤ n ∧ Hid (WoA38 w wr w.heap.size N A0 c0 rows.length l i)) (fun v _ => n - (intOf v).toNat)
  case atStart => exact ⟨0, rfl, Nat.zero_le _, H2⟩
  case round =>
    clear H2
    obtain ⟨i, rfl, hi, HA⟩ := hrel
    by_cases hlt : i < n
    · have p0 : (0 : Int) ≤ (i : Int) := by omega
      have q0 : (i : Int) < (n : Int) := by omega
      obtain ⟨ad, ea, hx0, hx1⟩ := at_T49 HR1.out (i : Int) p0 q0
      cases ea
      have HB := HA.out.b
      replace hx0 := pw_cell_below HB hx0
      replace hx1 := pw_cell_below HB hx1
      clear HB
      obtain ⟨x, hx⟩ : ∃ x, rd_T49 l (i : Int) = x := ⟨_, rfl⟩
      rw [hx] at hx0 hx1
      have HX := Lib.hid (show l[i]? = some x by rw [← hx]; exact rd49 (by rw [HN.out]; exact hlt))
      simp only [Int.toNat_natCast] at hx0 hx1
      clear hx
      go_wp2_with fail
      refine (name38 x _).mono ?_
      rintro e w3 ⟨rfl, hb⟩
      have HA3 := Lib.hid (HA.out.below (below_then (below_alloc (Below.refl _ _) _) (by simp) hb))
      clear hb HA hx0 hx1
      obtain ⟨v, hv⟩ : ∃ v, nm38 x = v := ⟨_, rfl⟩
      rw [hv]
      have HV := Lib.hid hv
      clear hv
      by_cases hg : 0 ≤ v ∧ v < 64
      · obtain ⟨g0, g1⟩ := hg
        obtain ⟨vn, rfl⟩ := Int.eq_ofNat_of_zero_le g0
        have hvn : vn < 64 := by omega
        have d0 : decide ((0 : Int) ≤ (vn : Int)) = true := decide_eq_true g0
        have d1 : decide ((vn : Int) < 64) = true := decide_eq_true g1
        have c0' := (cell_of_row _ _ vn _ _ _ HA3.out.blk).trans (bcells_get _ hvn)
        have f0' := blk_free HA3.out.blk vn
        go_wp2_with fail
        go_roundw
        case rel =>
          refine ⟨i + 1, by go_num, by omega, Lib.hid ⟨?_, ?_, ?_⟩⟩
          · exact (Below.heap_setCell _ _ _ _ (by have := HNW.out; have := blk_lt HA3.out.blk; intro e; have h1 := HA3.out.box; have h2 := HA3.out.blk; rw [e, h2] at h1; simp at h1)).trans HA3.out.box
          · have := blk_set HA3.out.blk vn (.bool true)
            rw [bcells_set] at this
            rw [show led38 l (i + 1) = (fun j => if j = vn then true else led38 l i j) from ?_]
            · exact this
            · funext j
              rw [led38_succ HX.out, HV.out]
              by_cases hj : j = vn
              · simp [hj]
              · have : ((vn : Int) == (j : Int)) = false := beq_eq_false_iff_ne.2 (by omega)
                rw [if_neg hj, this, Bool.or_false]
          · exact HA3.out.b.setCell HNW.out _
        case measure => simp [intOf]; omega
      · have HA4 := Lib.hid (show bcells (led38 l (i + 1)) = bcells (led38 l i) by
          apply Array.ext'
          unfold bcells
          rw [List.toList_toArray, List.toList_toArray]
          apply List.map_congr_left
          intro j hj
          rw [List.mem_range] at hj
          rw [led38_succ HX.out, HV.out]
          have : (v == (j : Int)) = false := beq_eq_false_iff_ne.2 (by omega)
          rw [this, Bool.or_false])
        by_cases h0 : 0 ≤ v
        · have d0 : decide ((0 : Int) ≤ v) = true := decide_eq_true h0
          have d1 : decide (v < 64) = false := decide_eq_false (by omega)
          clear hg
          go_wp2_with fail
          go_roundw
          case rel => exact ⟨i + 1, by go_num, by omega, Lib.hid ⟨HA3.out.box, by rw [HA4.out]; exact HA3.out.blk, HA3.out.b⟩⟩
          case measure => simp [intOf]; omega
        · have d0 : decide ((0 : Int) ≤ v) = false := decide_eq_false h0
          clear hg
          go_wp2_with fail
          go_roundw
          case rel => exact ⟨i + 1, by go_num, by omega, Lib.hid ⟨HA3.out.box, by rw [HA4.out]; exact HA3.out.blk, HA3.out.b⟩⟩
          case measure => simp [intOf]; omega
    · obtain rfl : n = i := by omega
      have c0' : wr.cell? ⟨w.heap.size, 0, none⟩ = some (.slice A0 rows.length c0) := cell_of_row _ _ 0 _ _ _ HA.out.box
      have dn : decide ((n : Int) < (n : Int)) = false := by simp
      clear hlt
      go_wp2_with fail
      refine (hall_Seats_calls A0 c0 rows wr (Kd.C_below HR0.out HA.out.b) HC0.out).mono ?_
      rintro e w4 ⟨vs, rfl, ho4, hb4⟩
      obtain ⟨As, cs, rfl⟩ := own_slice ho4
      have HB0 := Lib.hid (show WoB38 w w4 N rows l 0 (.slice As (seatsI rows).length cs) (.slice none 0 0) by
        refine ⟨?_, below_then HA.out.b HA.out.b.size hb4, own_weaken ho4 HA.out.b.size, ?_, fun b _ => by simp [Value.ownBlock]⟩
        · rw [HN.out]; exact blk_below HA.out.blk hb4
        · exact own_nil _ _ _ _)
      clear ho4 hb4 HA c0' dn
      have hSl : (seatsI rows).length ≤ 64 := by rw [show (seatsI rows).length = (seatsL rows).length by simp [seatsI]]; exact seatsL_len rows
      obtain ⟨S, hS⟩ : ∃ S, (seatsI rows).length = S := ⟨_, rfl⟩
      rw [hS] at HB0 hSl
      rw [hS]
      have HS := Lib.hid hS
      clear hS
      go_wp2_with fail
      obtain ⟨wo, hwo⟩ : ∃ wo : World, wo = wr := ⟨_, rfl⟩
      clear hwo
      go_loopg [6, 34] S (fun kq v6 v34 wx => ∃ k : Nat, kq = S - k ∧ v34 = .int .i64 k ∧ k ≤ S ∧ Hid (WoB38 w wx N rows l k (.slice As S cs) v6))
      case atStart => exact ⟨0, rfl, rfl, Nat.zero_le _, HB0⟩
      case round =>
        clear HB0
        obtain ⟨k, hkq, rfl, hk, HB⟩ := hrel
        by_cases hks : k < S
        · obtain ⟨s, hs⟩ : ∃ s, (seatsI rows)[k]? = some s := ⟨_, List.getElem?_eq_getElem (by rw [HS.out]; exact hks)⟩
          have hrg := seatsI_range rows s (List.mem_of_getElem? hs)
          obtain ⟨sn, rfl⟩ := Int.eq_ofNat_of_zero_le hrg.1
          have hsn : sn < 64 := by omega
          have p0 : (0 : Int) ≤ (k : Int) := by omega
          have q0 : (k : Int) < (S : Int) := by omega
          have p1 : (0 : Int) ≤ (sn : Int) := by omega
          have q1 : (sn : Int) < 64 := by omega
          obtain ⟨A', cc, e1, hrd⟩ := own_reads HB.out.os
          simp only [Value.slice.injEq] at e1
          obtain ⟨rfl, hSS, rfl⟩ := e1
          clear hSS
          obtain ⟨ad, e2, hc⟩ := hrd.at_ (k : Int) p0 (by rw [HS.out]; exact q0)
          subst e2
          have e3 : rd (seatsI rows) (k : Int) = (sn : Int) := by
            unfold rd
            rw [Int.toNat_natCast, List.getD_eq_getElem?_getD, hs]
            rfl
          rw [e3] at hc
          simp only [Int.toNat_natCast] at hc
          have n0 := (cell_of_row _ _ sn _ _ _ HB.out.blk).trans (bcells_get _ hsn)
          have HSS := Lib.hid hs
          have hkl : (keep38 rows l k).length ≤ 64 := by
            unfold keep38
            refine Nat.le_trans (List.length_filter_le _ _) ?_
            refine Nat.le_trans (List.length_take_le _ _) ?_
            omega
          clear e3 hs hrd hrg
          cases hled : led38 l l.length sn with
          | true =>
            rw [hled] at n0
            have HK := Lib.hid (show keep38 rows l (k + 1) = keep38 rows l k by
              rw [keep38_succ HSS.out, Int.toNat_natCast, hled]; simp)
            clear hled
            go_wp2_with fail
            go_roundg (S - (k + 1))
            case measure => omega
            case rel => exact ⟨k + 1, rfl, by go_num, by omega, Lib.hid ⟨HB.out.blk, HB.out.b, HB.out.os, by rw [HK.out]; exact HB.out.o6, HB.out.ne⟩⟩
          | false =>
            rw [hled] at n0
            have HK := Lib.hid (show keep38 rows l (k + 1) = keep38 rows l k ++ [(sn : Int)] by
              rw [keep38_succ HSS.out, Int.toNat_natCast, hled]; simp)
            clear hled
            go_wp2_with ((with_reducible refine gate_builtin (b := .append) (xs := #[.tmp 42, .tmp 44]) rfl ?_); at_builtin; refine print_append_num (w0 := w) w.heap.size rfl (.tmp 42) (.tmp 44) 39 3 .i64 8 rfl Try.underlying39 info3' (by decide) u6 (keep38 rows l k) (sn : Int) rfl rfl HB.out.o6 HB.out.b HB.out.b.size (by omega) ?_; intro v1 w1 hown hb1 hg1 hat1; have HOWN := Lib.hid hown; have HB1 := Lib.hid hb1; have HG1 := Lib.hid hg1; have HAT := Lib.hid hat1; clear hown hb1 hg1 hat1 n0 hc)
            go_roundg (S - (k + 1))
            case measure => omega
            case rel =>
              refine ⟨k + 1, rfl, by go_num, by omega, Lib.hid ⟨?_, HB1.out, ?_, by rw [HK.out]; exact HOWN.out, ?_⟩⟩
              · exact (HG1.out.block N (blk_lt HB.out.blk) (own_ne HB.out.o6 HB.out.blk (by decide))).trans HB.out.blk
              · refine own_other2 HB.out.os (fun b hb => ?_)
                have hlt := own_lt HB.out.os b hb
                exact HG1.out.block b hlt (Ne.symm (HB.out.ne b hb))
              · intro b hb
                rcases HAT.out with ha | ⟨b2, ha, hb2⟩
                · rw [ha]; exact HB.out.ne b hb
                · rw [ha]
                  intro e
                  cases e
                  have := own_lt HB.out.os b hb
                  omega
        · obtain rfl : S = k := by omega
          go_wp2_with fail
          go_ret
          refine ⟨_, rfl, ?_, HB.out.b⟩
          have := HB.out.o6
          rw [← HS.out, keep38_all] at this
          exact this
def remap_Lost.f (l0_0 : List S61) (l1 : List S49) : Option (List Int) := some (remap_Lost.v l0_0 l1)
set_option maxHeartbeats 2000000 in
theorem remap_Lost.calls (A0_0 : Option Addr) (c0_0 : Nat) (l0_0 : List S61) (A1 : Option Addr) (c1 : Nat) (l1 : List S49) (r : List Int) (w : World) (hr0_0 : Kd.C k61 w A0_0 l0_0.length l0_0) (hc0_0 : l0_0.length ≤ c0_0) (hr1 : Kd.C k49 w A1 l1.length l1) (hc1 : l1.length ≤ c1) (h : remap_Lost.f l0_0 l1 = some r) :
    Calls Try.prog 14 #[.agg #[.slice A0_0 l0_0.length c0_0], .slice A1 l1.length c1] w fun e w' => ∃ v0_ : Value, e = .returned (v0_) ∧ Kd.R (Kd.int .i64) 3 w' w.heap.size (fun _ => True) v0_ r ∧ Below w.heap.size w w' := by
  obtain rfl := Option.some.inj h
  clear h
  have hw := fun w hr0 hr1 => without38 A0_0 c0_0 l0_0 A1 c1 l1 w hr0 hc0_0 hr1 hc1
  obtain ⟨n0, hn0⟩ : ∃ n0, l0_0.length = n0 := ⟨_, rfl⟩
  obtain ⟨n1, hn1⟩ : ∃ n1, l1.length = n1 := ⟨_, rfl⟩
  have HR0 := Lib.hid hr0_0
  have HR1 := Lib.hid hr1
  rw [hn0, hn1] at hw ⊢
  rw [hn0] at HR0
  rw [hn1] at HR1
  have HW := Lib.hid hw
  clear hw hr0_0 hr1 hn0 hn1 hc0_0 hc1
  go_enter Try.func14, Try.ntmps14
  go_wp2_with fail
  refine (HW.out _ (Kd.C_alloc HR0.out _) (Kd.C_alloc HR1.out _)).mono ?_
  rintro e w2 ⟨v, rfl, ho, hb⟩
  obtain ⟨A5, cp5, e5⟩ := own_slice ho
  subst e5
  have HO := Lib.hid ho
  have HB := Lib.hid (below_then (below_alloc (Below.refl w.heap.size w) _) (by simp) hb)
  clear ho hb
  go_wp2_with fail
  go_ret
  refine ⟨_, rfl, ?_, HB.out⟩
  exact Kd.R_of_own (enc := fun x : Int => Value.int .i64 x) (own_weaken HO.out (by simp)) (fun _ _ => trivial)

/-! ### the closure 39 -/
def nm39 (x : S49) : Int := x.f1
theorem name39 (x : S49) (W : World) : Calls Try.prog 39 #[.agg #[.int .i64 x.f0, .int .i64 x.f1]] W fun e W' => e = .returned (.int .i64 (nm39 x)) ∧ Below W.heap.size W W' := by
  go_enter Try.func39, Try.ntmps39
  go_wp2_with fail
  go_ret
  exact ⟨rfl, below_alloc (Below.refl _ _) _⟩
def led39 (l : List S49) (i : Nat) (j : Nat) : Bool := (l.take i).any fun x => nm39 x == (j : Int)
def remap_New.v (rows : List S61) (l : List S49) : List Int := (seatsI rows).filter fun s => !(l.any fun x => nm39 x == s)
theorem led39_succ {l : List S49} {i : Nat} {x : S49} (hx : l[i]? = some x) (j : Nat) : led39 l (i + 1) j = (led39 l i j || (nm39 x == (j : Int))) := by
  unfold led39
  rw [List.take_add_one, hx]
  simp
structure WoA39 (w W : World) (H N : Nat) (A0 : Option Addr) (c0 n0 : Nat) (l : List S49) (i : Nat) : Prop where
  box : W.heap[H]? = some (.cells #[.slice A0 n0 c0] 29 (0, 0))
  blk : W.heap[N]? = some (.cells (bcells (led39 l i)) 59 (0, 0))
  b : Below w.heap.size w W
theorem WoA39.below {w W W' : World} {H N : Nat} {A0 : Option Addr} {c0 n0 : Nat} {l : List S49} {i : Nat} (h : WoA39 w W H N A0 c0 n0 l i) (hb : Below W.heap.size W W') : WoA39 w W' H N A0 c0 n0 l i :=
  ⟨blk_below h.box hb, blk_below h.blk hb, below_then h.b h.b.size hb⟩
def keep39 (rows : List S61) (l : List S49) (k : Nat) : List Int := ((seatsI rows).take k).filter fun s => !(led39 l l.length s.toNat)
theorem keep39_all (rows : List S61) (l : List S49) : keep39 rows l (seatsI rows).length = remap_New.v rows l := by
  unfold keep39 remap_New.v
  rw [List.take_of_length_le (Nat.le_refl _)]
  apply List.filter_congr
  intro s hs
  have := seatsI_range rows s hs
  unfold led39
  rw [List.take_of_length_le (Nat.le_refl _), Int.toNat_of_nonneg this.1]
theorem keep39_succ {rows : List S61} {l : List S49} {k : Nat} {s : Int} (hs : (seatsI rows)[k]? = some s) : keep39 rows l (k + 1) = keep39 rows l k ++ if led39 l l.length s.toNat then [] else [s] := by
  unfold keep39
  rw [List.take_add_one, hs, List.filter_append]
  congr 1
  cases h : led39 l l.length s.toNat <;> simp [h]
structure WoB39 (w W : World) (N : Nat) (rows : List S61) (l : List S49) (k : Nat) (vs v6 : Value) : Prop where
  blk : W.heap[N]? = some (.cells (bcells (led39 l l.length)) 59 (0, 0))
  b : Below w.heap.size w W
  os : W.ownsRow w.heap.size 3 1 vs (seatsI rows).length (nums .i64 (seatsI rows))
  o6 : W.ownsRow w.heap.size 3 1 v6 (keep39 rows l k).length (nums .i64 (keep39 rows l k))
  ne : ∀ b, vs.ownBlock = some b → v6.ownBlock ≠ some b
set_option maxHeartbeats 8000000 in
theorem without39 (A0 : Option Addr) (c0 : Nat) (rows : List S61) (A1 : Option Addr) (c1 : Nat) (l : List S49) (w : World) (hr0 : Kd.C k61 w A0 rows.length rows) (hc0 : rows.length ≤ c0) (hr1 : Kd.C k49 w A1 l.length l) (hc1 : l.length ≤ c1) :
    Calls Try.prog 37 #[.agg #[.slice A0 rows.length c0], .slice A1 l.length c1, .func (.func 39) #[] #[]] w fun e w' => ∃ v, e = .returned v ∧ w'.ownsRow w.heap.size 3 1 v (remap_New.v rows l).length (nums .i64 (remap_New.v rows l)) ∧ Below w.heap.size w w' := by
  obtain ⟨n, hn⟩ : ∃ n, l.length = n := ⟨_, rfl⟩
  have hmx := Kd.C_max hr1
  rw [hn] at hr1 hc1 hmx ⊢
  have HR0 := Lib.hid hr0
  have HC0 := Lib.hid hc0
  have HR1 := Lib.hid hr1
  have HN := Lib.hid hn
  clear hr0 hc0 hr1 hn
  go_enter Try.func37, Try.ntmps37
  go_wp2_with fail
  generalize hw2 : World.alloc _ _ = w2
  have H2 := Lib.hid (show WoA39 w w2 w.heap.size (w.heap.size + 1) A0 c0 rows.length l 0 by
    rw [← hw2]
    refine ⟨blk_alloc (blk_new w _) _, ?_, below_alloc (below_alloc (Below.refl _ _) _) _⟩
    have e : bcells (led39 l 0) = bcells (fun _ => false) := by congr 1
    rw [e, bcells_false]
    have := blk_new (w.alloc (.cells #[.slice A0 rows.length c0] 29)) (.cells (Array.replicate 64 (Value.bool false)) 59)
    rw [World.size_alloc] at this
    exact this)
  obtain ⟨H, hH⟩ : ∃ H, w.heap.size = H := ⟨_, rfl⟩
  obtain ⟨N, hN⟩ : ∃ N, w.heap.size + 1 = N := ⟨_, rfl⟩
  have HNW := Lib.hid (show w.heap.size ≤ N by omega)
  rw [hN]
  rw [hN] at H2
  clear hw2 hN hH
  go_loopw [15] (fun v15 wr => ∃ i : Nat, v15 = .int .i64 i ∧ i ≤ n ∧ Hid (WoA39 w wr w.heap.size N A0 c0 rows.length l i)) (fun v _ => n - (intOf v).toNat)
  case atStart => exact ⟨0, rfl, Nat.zero_le _, H2⟩
  case round =>
    clear H2
    obtain ⟨i, rfl, hi, HA⟩ := hrel
    by_cases hlt : i < n
    · have p0 : (0 : Int) ≤ (i : Int) := by omega
      have q0 : (i : Int) < (n : Int) := by omega
      obtain ⟨ad, ea, hx0, hx1⟩ := at_T49 HR1.out (i : Int) p0 q0
      cases ea
      have HB := HA.out.b
      replace hx0 := pw_cell_below HB hx0
      replace hx1 := pw_cell_below HB hx1
      clear HB
      obtain ⟨x, hx⟩ : ∃ x, rd_T49 l (i : Int) = x := ⟨_, rfl⟩
      rw [hx] at hx0 hx1
      have HX := Lib.hid (show l[i]? = some x by rw [← hx]; exact rd49 (by rw [HN.out]; exact hlt))
      simp only [Int.toNat_natCast] at hx0 hx1
      clear hx
      go_wp2_with fail
      refine (name39 x _).mono ?_
      rintro e w3 ⟨rfl, hb⟩
      have HA3 := Lib.hid (HA.out.below (below_then (below_alloc (Below.refl _ _) _) (by simp) hb))
      clear hb HA hx0 hx1
      obtain ⟨v, hv⟩ : ∃ v, nm39 x = v := ⟨_, rfl⟩
      rw [hv]
      have HV := Lib.hid hv
      clear hv
      by_cases hg : 0 ≤ v ∧ v < 64
      · obtain ⟨g0, g1⟩ := hg
        obtain ⟨vn, rfl⟩ := Int.eq_ofNat_of_zero_le g0
        have hvn : vn < 64 := by omega
        have d0 : decide ((0 : Int) ≤ (vn : Int)) = true := decide_eq_true g0
        have d1 : decide ((vn : Int) < 64) = true := decide_eq_true g1
        have c0' := (cell_of_row _ _ vn _ _ _ HA3.out.blk).trans (bcells_get _ hvn)
        have f0' := blk_free HA3.out.blk vn
        go_wp2_with fail
        go_roundw
        case rel =>
          refine ⟨i + 1, by go_num, by omega, Lib.hid ⟨?_, ?_, ?_⟩⟩
          · exact (Below.heap_setCell _ _ _ _ (by have := HNW.out; have := blk_lt HA3.out.blk; intro e; have h1 := HA3.out.box; have h2 := HA3.out.blk; rw [e, h2] at h1; simp at h1)).trans HA3.out.box
          · have := blk_set HA3.out.blk vn (.bool true)
            rw [bcells_set] at this
            rw [show led39 l (i + 1) = (fun j => if j = vn then true else led39 l i j) from ?_]
            · exact this
            · funext j
              rw [led39_succ HX.out, HV.out]
              by_cases hj : j = vn
              · simp [hj]
              · have : ((vn : Int) == (j : Int)) = false := beq_eq_false_iff_ne.2 (by omega)
                rw [if_neg hj, this, Bool.or_false]
          · exact HA3.out.b.setCell HNW.out _
        case measure => simp [intOf]; omega
      · have HA4 := Lib.hid (show bcells (led39 l (i + 1)) = bcells (led39 l i) by
          apply Array.ext'
          unfold bcells
          rw [List.toList_toArray, List.toList_toArray]
          apply List.map_congr_left
          intro j hj
          rw [List.mem_range] at hj
          rw [led39_succ HX.out, HV.out]
          have : (v == (j : Int)) = false := beq_eq_false_iff_ne.2 (by omega)
          rw [this, Bool.or_false])
        by_cases h0 : 0 ≤ v
        · have d0 : decide ((0 : Int) ≤ v) = true := decide_eq_true h0
          have d1 : decide (v < 64) = false := decide_eq_false (by omega)
          clear hg
          go_wp2_with fail
          go_roundw
          case rel => exact ⟨i + 1, by go_num, by omega, Lib.hid ⟨HA3.out.box, by rw [HA4.out]; exact HA3.out.blk, HA3.out.b⟩⟩
          case measure => simp [intOf]; omega
        · have d0 : decide ((0 : Int) ≤ v) = false := decide_eq_false h0
          clear hg
          go_wp2_with fail
          go_roundw
          case rel => exact ⟨i + 1, by go_num, by omega, Lib.hid ⟨HA3.out.box, by rw [HA4.out]; exact HA3.out.blk, HA3.out.b⟩⟩
          case measure => simp [intOf]; omega
    · obtain rfl : n = i := by omega
      have c0' : wr.cell? ⟨w.heap.size, 0, none⟩ = some (.slice A0 rows.length c0) := cell_of_row _ _ 0 _ _ _ HA.out.box
      have dn : decide ((n : Int) < (n : Int)) = false := by simp
      clear hlt
      go_wp2_with fail
      refine (hall_Seats_calls A0 c0 rows wr (Kd.C_below HR0.out HA.out.b) HC0.out).mono ?_
      rintro e w4 ⟨vs, rfl, ho4, hb4⟩
      obtain ⟨As, cs, rfl⟩ := own_slice ho4
      have HB0 := Lib.hid (show WoB39 w w4 N rows l 0 (.slice As (seatsI rows).length cs) (.slice none 0 0) by
        refine ⟨?_, below_then HA.out.b HA.out.b.size hb4, own_weaken ho4 HA.out.b.size, ?_, fun b _ => by simp [Value.ownBlock]⟩
        · rw [HN.out]; exact blk_below HA.out.blk hb4
        · exact own_nil _ _ _ _)
      clear ho4 hb4 HA c0' dn
      have hSl : (seatsI rows).length ≤ 64 := by rw [show (seatsI rows).length = (seatsL rows).length by simp [seatsI]]; exact seatsL_len rows
      obtain ⟨S, hS⟩ : ∃ S, (seatsI rows).length = S := ⟨_, rfl⟩
      rw [hS] at HB0 hSl
      rw [hS]
      have HS := Lib.hid hS
      clear hS
      go_wp2_with fail
      obtain ⟨wo, hwo⟩ : ∃ wo : World, wo = wr := ⟨_, rfl⟩
      clear hwo
      go_loopg [6, 34] S (fun kq v6 v34 wx => ∃ k : Nat, kq = S - k ∧ v34 = .int .i64 k ∧ k ≤ S ∧ Hid (WoB39 w wx N rows l k (.slice As S cs) v6))
      case atStart => exact ⟨0, rfl, rfl, Nat.zero_le _, HB0⟩
      case round =>
        clear HB0
        obtain ⟨k, hkq, rfl, hk, HB⟩ := hrel
        by_cases hks : k < S
        · obtain ⟨s, hs⟩ : ∃ s, (seatsI rows)[k]? = some s := ⟨_, List.getElem?_eq_getElem (by rw [HS.out]; exact hks)⟩
          have hrg := seatsI_range rows s (List.mem_of_getElem? hs)
          obtain ⟨sn, rfl⟩ := Int.eq_ofNat_of_zero_le hrg.1
          have hsn : sn < 64 := by omega
          have p0 : (0 : Int) ≤ (k : Int) := by omega
          have q0 : (k : Int) < (S : Int) := by omega
          have p1 : (0 : Int) ≤ (sn : Int) := by omega
          have q1 : (sn : Int) < 64 := by omega
          obtain ⟨A', cc, e1, hrd⟩ := own_reads HB.out.os
          simp only [Value.slice.injEq] at e1
          obtain ⟨rfl, hSS, rfl⟩ := e1
          clear hSS
          obtain ⟨ad, e2, hc⟩ := hrd.at_ (k : Int) p0 (by rw [HS.out]; exact q0)
          subst e2
          have e3 : rd (seatsI rows) (k : Int) = (sn : Int) := by
            unfold rd
            rw [Int.toNat_natCast, List.getD_eq_getElem?_getD, hs]
            rfl
          rw [e3] at hc
          simp only [Int.toNat_natCast] at hc
          have n0 := (cell_of_row _ _ sn _ _ _ HB.out.blk).trans (bcells_get _ hsn)
          have HSS := Lib.hid hs
          have hkl : (keep39 rows l k).length ≤ 64 := by
            unfold keep39
            refine Nat.le_trans (List.length_filter_le _ _) ?_
            refine Nat.le_trans (List.length_take_le _ _) ?_
            omega
          clear e3 hs hrd hrg
          cases hled : led39 l l.length sn with
          | true =>
            rw [hled] at n0
            have HK := Lib.hid (show keep39 rows l (k + 1) = keep39 rows l k by
              rw [keep39_succ HSS.out, Int.toNat_natCast, hled]; simp)
            clear hled
            go_wp2_with fail
            go_roundg (S - (k + 1))
            case measure => omega
            case rel => exact ⟨k + 1, rfl, by go_num, by omega, Lib.hid ⟨HB.out.blk, HB.out.b, HB.out.os, by rw [HK.out]; exact HB.out.o6, HB.out.ne⟩⟩
          | false =>
            rw [hled] at n0
            have HK := Lib.hid (show keep39 rows l (k + 1) = keep39 rows l k ++ [(sn : Int)] by
              rw [keep39_succ HSS.out, Int.toNat_natCast, hled]; simp)
            clear hled
            go_wp2_with ((with_reducible refine gate_builtin (b := .append) (xs := #[.tmp 42, .tmp 44]) rfl ?_); at_builtin; refine print_append_num (w0 := w) w.heap.size rfl (.tmp 42) (.tmp 44) 39 3 .i64 8 rfl Try.underlying39 info3' (by decide) u6 (keep39 rows l k) (sn : Int) rfl rfl HB.out.o6 HB.out.b HB.out.b.size (by omega) ?_; intro v1 w1 hown hb1 hg1 hat1; have HOWN := Lib.hid hown; have HB1 := Lib.hid hb1; have HG1 := Lib.hid hg1; have HAT := Lib.hid hat1; clear hown hb1 hg1 hat1 n0 hc)
            go_roundg (S - (k + 1))
            case measure => omega
            case rel =>
              refine ⟨k + 1, rfl, by go_num, by omega, Lib.hid ⟨?_, HB1.out, ?_, by rw [HK.out]; exact HOWN.out, ?_⟩⟩
              · exact (HG1.out.block N (blk_lt HB.out.blk) (own_ne HB.out.o6 HB.out.blk (by decide))).trans HB.out.blk
              · refine own_other2 HB.out.os (fun b hb => ?_)
                have hlt := own_lt HB.out.os b hb
                exact HG1.out.block b hlt (Ne.symm (HB.out.ne b hb))
              · intro b hb
                rcases HAT.out with ha | ⟨b2, ha, hb2⟩
                · rw [ha]; exact HB.out.ne b hb
                · rw [ha]
                  intro e
                  cases e
                  have := own_lt HB.out.os b hb
                  omega
        · obtain rfl : S = k := by omega
          go_wp2_with fail
          go_ret
          refine ⟨_, rfl, ?_, HB.out.b⟩
          have := HB.out.o6
          rw [← HS.out, keep39_all] at this
          exact this
def remap_New.f (l0_0 : List S61) (l1 : List S49) : Option (List Int) := some (remap_New.v l0_0 l1)
set_option maxHeartbeats 2000000 in
theorem remap_New.calls (A0_0 : Option Addr) (c0_0 : Nat) (l0_0 : List S61) (A1 : Option Addr) (c1 : Nat) (l1 : List S49) (r : List Int) (w : World) (hr0_0 : Kd.C k61 w A0_0 l0_0.length l0_0) (hc0_0 : l0_0.length ≤ c0_0) (hr1 : Kd.C k49 w A1 l1.length l1) (hc1 : l1.length ≤ c1) (h : remap_New.f l0_0 l1 = some r) :
    Calls Try.prog 15 #[.agg #[.slice A0_0 l0_0.length c0_0], .slice A1 l1.length c1] w fun e w' => ∃ v0_ : Value, e = .returned (v0_) ∧ Kd.R (Kd.int .i64) 3 w' w.heap.size (fun _ => True) v0_ r ∧ Below w.heap.size w w' := by
  obtain rfl := Option.some.inj h
  clear h
  have hw := fun w hr0 hr1 => without39 A0_0 c0_0 l0_0 A1 c1 l1 w hr0 hc0_0 hr1 hc1
  obtain ⟨n0, hn0⟩ : ∃ n0, l0_0.length = n0 := ⟨_, rfl⟩
  obtain ⟨n1, hn1⟩ : ∃ n1, l1.length = n1 := ⟨_, rfl⟩
  have HR0 := Lib.hid hr0_0
  have HR1 := Lib.hid hr1
  rw [hn0, hn1] at hw ⊢
  rw [hn0] at HR0
  rw [hn1] at HR1
  have HW := Lib.hid hw
  clear hw hr0_0 hr1 hn0 hn1 hc0_0 hc1
  go_enter Try.func15, Try.ntmps15
  go_wp2_with fail
  refine (HW.out _ (Kd.C_alloc HR0.out _) (Kd.C_alloc HR1.out _)).mono ?_
  rintro e w2 ⟨v, rfl, ho, hb⟩
  obtain ⟨A5, cp5, e5⟩ := own_slice ho
  subst e5
  have HO := Lib.hid ho
  have HB := Lib.hid (below_then (below_alloc (Below.refl w.heap.size w) _) (by simp) hb)
  clear ho hb
  go_wp2_with fail
  go_ret
  refine ⟨_, rfl, ?_, HB.out⟩
  exact Kd.R_of_own (enc := fun x : Int => Value.int .i64 x) (own_weaken HO.out (by simp)) (fun _ _ => trivial)
end Go.Proofs.Yteojldbfebnccaa
