/- moves (10): which seats go where. (Printed by gen_mov.py.) -/
import Derived.Test.YteojldbfebnccaaRGood
import Derived.StillTailTactics
namespace Go.Proofs.Yteojldbfebnccaa
open Go.RowKit Go.Proofs.YteojldbfebnccaaW.PrintWords Go.Proofs.YteojldbfebnccaaW.PrintLast Go.Proofs.YteojldbfebnccaaW.PrintMore
set_option linter.unusedVariables false
set_option linter.unusedSimpArgs false
set_option maxRecDepth 100000
theorem R61_keep {W W' : World} {base : Nat} {v : Value} {l : List S61} (h : Kd.R k61 61 W base (fun _ => True) v l) (hm : ∀ (k : Nat) (cs : Array Value), W.heap[k]? = some (.cells cs 61 (0, 0)) → W'.heap[k]? = W.heap[k]?) : Kd.R k61 61 W' base (fun _ => True) v l := by
  obtain ⟨_, inner, ho, hr⟩ := h
  refine ⟨fun _ _ => trivial, inner, own_move ho (fun k hk => ?_), hr⟩
  obtain ⟨cs, hc⟩ := own_typed ho k hk
  exact hm k cs hc
theorem R49_keep {W W' : World} {base : Nat} {v : Value} {l : List S49} (h : Kd.R k49 49 W base (fun _ => True) v l) (hm : ∀ (k : Nat) (cs : Array Value), W.heap[k]? = some (.cells cs 49 (0, 0)) → W'.heap[k]? = W.heap[k]?) : Kd.R k49 49 W' base (fun _ => True) v l := by
  obtain ⟨_, inner, ho, hr⟩ := h
  refine ⟨fun _ _ => trivial, inner, own_move ho (fun k hk => ?_), hr⟩
  obtain ⟨cs, hc⟩ := own_typed ho k hk
  exact hm k cs hc
theorem RI_keep {W W' : World} {base : Nat} {v : Value} {l : List Int} (h : Kd.R (Kd.int .i64) 3 W base (fun _ => True) v l) (hm : ∀ (k : Nat) (cs : Array Value), W.heap[k]? = some (.cells cs 3 (0, 0)) → W'.heap[k]? = W.heap[k]?) : Kd.R (Kd.int .i64) 3 W' base (fun _ => True) v l := by
  obtain ⟨_, inner, ho, hr⟩ := h
  refine ⟨fun _ _ => trivial, inner, own_move ho (fun k hk => ?_), hr⟩
  obtain ⟨cs, hc⟩ := own_typed ho k hk
  exact hm k cs hc
theorem RI_get {W : World} {base : Nat} {ok : Nat → Prop} {A : Option Addr} {n c : Nat} {l : List Int} (h : Kd.R (Kd.int .i64) 3 W base ok (.slice A n c) l) {j : Nat} {x : Int} (hx : l[j]? = some x) : ∃ ad, A = some ad ∧ W.cell? (ad.add j) = some (.int .i64 x) := by
  obtain ⟨A', c', e, _, hC⟩ := Kd.R_reads h
  have hj := (List.getElem?_eq_some_iff.1 hx).1
  obtain ⟨ad, e2, hc⟩ := hC.2.2 (by omega)
  simp only [Value.slice.injEq] at e
  refine ⟨ad, e.1.trans e2, ?_⟩
  obtain ⟨cs, h1, h2, h3⟩ := hc j x hx
  have h2' : cs = [.int .i64 x] := h2
  subst h2'
  have := h3 0 _ rfl
  rwa [show j * (Kd.int .i64).sz + 0 = j from by show j * 1 + 0 = j; omega] at this
theorem R61_get {W : World} {base : Nat} {ok : Nat → Prop} {A : Option Addr} {n c : Nat} {l : List S61} (h : Kd.R k61 61 W base ok (.slice A n c) l) {j : Nat} (hj : j < l.length) : ∃ ad, A = some ad ∧ W.cell? (ad.add (j * 2)) = some (.int .i64 (rd_T61 l (j : Int)).f0) := by
  obtain ⟨A', c', e, _, hC⟩ := Kd.R_reads h
  simp only [Value.slice.injEq] at e
  obtain ⟨ad, e2, h1, _⟩ := at_T61 hC (j : Int) (by omega) (by omega)
  rw [Int.toNat_natCast] at h1
  exact ⟨ad, e.1.trans e2, h1⟩
structure MvAt (w W : World) (B HA HB LD : Nat) (A1 : Option Addr) (n1 c1 : Nat) (A2 : Option Addr) (n2 c2 : Nat) (A3 : Option Addr) (n3 c3 : Nat) (RA : Option Addr) (ca : Nat) (RB : Option Addr) (cb : Nat) (AL : Option Addr) (cl : Nat) (ra rb : List S61) (all ch : List Int) (led : Nat → Bool) : Prop where
  plan : W.heap[B]? = some (.cells #[.slice A1 n1 c1, .slice A2 n2 c2, .slice A3 n3 c3] 25 (0, 0))
  bA : W.heap[HA]? = some (.cells #[.slice RA ra.length ca] 29 (0, 0))
  bB : W.heap[HB]? = some (.cells #[.slice RB rb.length cb] 29 (0, 0))
  bL : W.heap[LD]? = some (.cells (bcells led) 59 (0, 0))
  rra : Kd.R k61 61 W w.heap.size (fun _ => True) (.slice RA ra.length ca) ra
  rrb : Kd.R k61 61 W w.heap.size (fun _ => True) (.slice RB rb.length cb) rb
  ral : Kd.R (Kd.int .i64) 3 W w.heap.size (fun _ => True) (.slice AL all.length cl) all
  chs : ∀ (i : Nat) (x : Int), ch[i]? = some x → ∃ ad, A3 = some ad ∧ w.cell? (ad.add i) = some (.int .u8 x)
  b : Below w.heap.size w W
  newL : w.heap.size ≤ LD
section
variable {w W W' : World} {B HA HB LD n1 c1 n2 c2 n3 c3 ca cb cl : Nat} {A1 A2 A3 RA RB AL : Option Addr} {ra rb : List S61} {all ch : List Int} {led : Nat → Bool}
theorem MvAt.keep (h : MvAt w W B HA HB LD A1 n1 c1 A2 n2 c2 A3 n3 c3 RA ca RB cb AL cl ra rb all ch led) (hb : Below w.heap.size w W') (hm : ∀ (k : Nat) (cs : Array Value) (t : TypeId), W.heap[k]? = some (.cells cs t (0, 0)) → t ≠ 49 → W'.heap[k]? = W.heap[k]?) : MvAt w W' B HA HB LD A1 n1 c1 A2 n2 c2 A3 n3 c3 RA ca RB cb AL cl ra rb all ch led :=
  ⟨(hm _ _ _ h.plan (by decide)).trans h.plan, (hm _ _ _ h.bA (by decide)).trans h.bA, (hm _ _ _ h.bB (by decide)).trans h.bB, (hm _ _ _ h.bL (by decide)).trans h.bL, R61_keep h.rra (fun k cs hk => hm k cs 61 hk (by decide)), R61_keep h.rrb (fun k cs hk => hm k cs 61 hk (by decide)), RI_keep h.ral (fun k cs hk => hm k cs 3 hk (by decide)), h.chs, hb, h.newL⟩
theorem MvAt.below (h : MvAt w W B HA HB LD A1 n1 c1 A2 n2 c2 A3 n3 c3 RA ca RB cb AL cl ra rb all ch led) (hb : Below W.heap.size W W') : MvAt w W' B HA HB LD A1 n1 c1 A2 n2 c2 A3 n3 c3 RA ca RB cb AL cl ra rb all ch led :=
  h.keep (below_then h.b h.b.size hb) (fun k cs t hk _ => hb.block k (blk_lt hk))
theorem MvAt.setL (h : MvAt w W B HA HB LD A1 n1 c1 A2 n2 c2 A3 n3 c3 RA ca RB cb AL cl ra rb all ch led) (j : Nat) : MvAt w (W.setCell ⟨LD, j, none⟩ (.bool true)) B HA HB LD A1 n1 c1 A2 n2 c2 A3 n3 c3 RA ca RB cb AL cl ra rb all ch (mark led j) := by
  have hne : ∀ (k : Nat) (cs : Array Value) (t : TypeId), W.heap[k]? = some (.cells cs t (0, 0)) → t ≠ 59 → (W.setCell ⟨LD, j, none⟩ (.bool true)).heap[k]? = W.heap[k]? := by
    intro k cs t hk ht
    refine Below.heap_setCell _ _ _ _ ?_
    rintro rfl
    have := h.bL
    rw [hk] at this
    simp at this
    exact ht this.2
  refine ⟨(hne _ _ _ h.plan (by decide)).trans h.plan, (hne _ _ _ h.bA (by decide)).trans h.bA, (hne _ _ _ h.bB (by decide)).trans h.bB, ?_, R61_keep h.rra (fun k cs hk => hne k cs 61 hk (by decide)), R61_keep h.rrb (fun k cs hk => hne k cs 61 hk (by decide)), RI_keep h.ral (fun k cs hk => hne k cs 3 hk (by decide)), h.chs, h.b.setCell h.newL _, h.newL⟩
  have := blk_set h.bL j (.bool true)
  rw [bcells_set] at this
  exact this
theorem MvAt.grown (h : MvAt w W B HA HB LD A1 n1 c1 A2 n2 c2 A3 n3 c3 RA ca RB cb AL cl ra rb all ch led) {base : Nat} {v : Value} {out : List S49} (ho : Kd.R k49 49 W base (fun _ => True) v out) (hb : Below w.heap.size w W') (hg : W.grownBy W' v.ownBlock) : MvAt w W' B HA HB LD A1 n1 c1 A2 n2 c2 A3 n3 c3 RA ca RB cb AL cl ra rb all ch led := by
  refine h.keep hb fun k cs t hk ht => hg.block k (blk_lt hk) fun e => ?_
  obtain ⟨_, inner, hown, _⟩ := ho
  obtain ⟨cs', hc⟩ := own_typed hown k e.symm
  rw [hk] at hc
  simp at hc
  exact ht hc.2
end
/-- the seats among which one is taken -/
structure MayOk (rb : List S61) (led : Nat → Bool) (cls : Int) (may : List Int) (j : Nat) : Prop where
  len : may.length ≤ j
  ok : ∀ g ∈ may, g ∈ seatsI rb ∧ led g.toNat = false ∧ clsAt rb g.toNat = cls
theorem MayOk.skip {rb : List S61} {led : Nat → Bool} {cls : Int} {may : List Int} {j : Nat} (h : MayOk rb led cls may j) : MayOk rb led cls may (j + 1) := ⟨Nat.le_succ_of_le h.len, h.ok⟩
theorem MayOk.put {rb : List S61} {led : Nat → Bool} {cls : Int} {may : List Int} {j : Nat} (h : MayOk rb led cls may j) {g : Int} (h1 : g ∈ seatsI rb) (h2 : led g.toNat = false) (h3 : clsAt rb g.toNat = cls) : MayOk rb led cls (may ++ [g]) (j + 1) := by
  refine ⟨by rw [List.length_append, List.length_singleton]; have := h.len; omega, fun x hx => ?_⟩
  rcases List.mem_append.1 hx with hx | hx
  · exact h.ok x hx
  · rw [List.mem_singleton.1 hx]; exact ⟨h1, h2, h3⟩
set_option maxHeartbeats 16000000 in
theorem moves_calls {w : World} {pv : Value} {a b : List (Int × Int)} {ch : List Int} (h : PlanIn w pv a b ch) :
    Calls Try.prog 10 #[pv] w fun e w' => ∃ v, e = .returned v ∧ ∃ out, Good (rowsV a) (rowsV b) out ∧ Kd.R k49 49 w' w.heap.size (fun _ => True) v out ∧ Below w.heap.size w w' := by
  have hpi := h
  obtain ⟨A1, c1, A2, c2, A3, c3, rfl, p1, p2, p3, l1, l2, l3⟩ := h.lies
  obtain ⟨oka, _⟩ := rowsV_ok h.a8
  obtain ⟨okb, _⟩ := rowsV_ok h.b8
  have la := rowsV_len a
  have lb := rowsV_len b
  have hha := has_seats oka la
  have hhb := has_seats okb lb
  have hsm := h.small
  have h8 := h.ch8
  clear h
  obtain ⟨ra, hra⟩ : ∃ ra, rowsV a = ra := ⟨_, rfl⟩
  obtain ⟨rb, hrb⟩ : ∃ rb, rowsV b = rb := ⟨_, rfl⟩
  obtain ⟨n1, hn1⟩ : ∃ n1, a.length = n1 := ⟨_, rfl⟩
  obtain ⟨n2, hn2⟩ : ∃ n2, b.length = n2 := ⟨_, rfl⟩
  obtain ⟨n3, hn3⟩ : ∃ n3, ch.length = n3 := ⟨_, rfl⟩
  rw [hra] at hha oka la
  rw [hrb] at hhb okb lb
  rw [hn3] at hsm
  rw [hra, hrb, hn1, hn2, hn3]
  rw [hn1, hn2, hn3] at hpi
  have HPI := Lib.hid hpi
  have HN3 := Lib.hid hn3
  have HRA := Lib.hid hra
  have HRB := Lib.hid hrb
  have HHA := Lib.hid hha
  have HHB := Lib.hid hhb
  have H8 := Lib.hid h8
  have HP3 := Lib.hid p3
  clear hpi hn1 hn2 hn3 hra hrb hha hhb h8 p1 p2 p3 l1 l2 l3
  go_enter Try.func10, Try.ntmps10
  go_wp2_with fail
  have hb0 := below_alloc (Below.refl w.heap.size w) (.cells #[.slice A1 n1 c1, .slice A2 n2 c2, .slice A3 n3 c3] 25)
  refine (halls_calls (HPI.out.below hb0)).mono ?_
  rintro e u1 ⟨v1, v2, rfl, hr1, hr2, hb⟩
  rw [HRA.out] at hr1
  rw [HRB.out] at hr2
  obtain ⟨RA, ca, rfl⟩ := Kd.R_slice hr1
  obtain ⟨RB, cb, rfl⟩ := Kd.R_slice hr2
  have HR1 := Lib.hid (Kd.R_lower hr1 hb0.size)
  have HR2 := Lib.hid (Kd.R_lower hr2 hb0.size)
  have HB1 := Lib.hid (below_then hb0 hb0.size hb)
  have HX1 := Lib.hid (blk_below (blk_new w (.cells #[.slice A1 n1 c1, .slice A2 n2 c2, .slice A3 n3 c3] 25)) hb)
  clear hr1 hr2 hb hb0
  go_wp2_with fail
  generalize hw2 : World.alloc _ _ = w2
  have hbx : Below u1.heap.size u1 w2 := by rw [← hw2]; exact below_alloc (below_alloc (below_alloc (Below.refl _ _) _) _) _
  have hA2 : w2.heap[u1.heap.size]? = some (.cells #[.slice RA ra.length ca] 29 (0, 0)) := by rw [← hw2]; exact blk_alloc (blk_alloc (blk_new u1 _) _) _
  have hB2 : w2.heap[u1.heap.size + 1]? = some (.cells #[.slice RB rb.length cb] 29 (0, 0)) := by
    rw [← hw2]
    exact blk_alloc (by simpa using blk_new (u1.alloc (.cells #[.slice RA ra.length ca] 29)) (.cells #[.slice RB rb.length cb] 29)) _
  have hL2 : w2.heap[u1.heap.size + 1 + 1]? = some (.cells (bcells fun _ => false) 59 (0, 0)) := by
    rw [← hw2, bcells_false]
    have := blk_new ((u1.alloc (.cells #[.slice RA ra.length ca] 29)).alloc (.cells #[.slice RB rb.length cb] 29)) (.cells (Array.replicate 64 (Value.bool false)) 59)
    rw [World.size_alloc, World.size_alloc] at this
    exact this
  obtain ⟨B, hB⟩ : ∃ B, w.heap.size = B := ⟨_, rfl⟩
  have HBE := Lib.hid hB
  obtain ⟨HA, hHA⟩ : ∃ HA, u1.heap.size = HA := ⟨_, rfl⟩
  obtain ⟨HB, hHB⟩ : ∃ HB, HA + 1 = HB := ⟨_, rfl⟩
  obtain ⟨LD, hLD⟩ : ∃ LD, HB + 1 = LD := ⟨_, rfl⟩
  rw [hHA] at hA2
  rw [hHA, hHB] at hB2
  rw [hHA, hHB, hLD] at hL2
  have hX2 := blk_below HX1.out hbx
  rw [hB] at hX2
  rw [hHA, hHB, hLD, hB]
  have HL := Lib.hid (show w.heap.size ≤ LD by have := HB1.out.size; omega)
  have HRA2 := Lib.hid (Kd.R_below HR1.out hbx)
  have HRB2 := Lib.hid (Kd.R_below HR2.out hbx)
  have HB2 := Lib.hid (below_then HB1.out HB1.out.size hbx)
  have HXX := Lib.hid hX2
  have HAA := Lib.hid hA2
  have HBB := Lib.hid hB2
  have HLL := Lib.hid hL2
  clear hw2 hbx hA2 hB2 hL2 hX2 hB hHA hHB hLD HR1 HR2 HB1 HX1
  have hcr : ∀ {d : Nat} {l : List S61} {A : Option Addr} {c n : Nat} {W : World}, Kd.R k61 61 W d (fun _ => True) (.slice A n c) l → Kd.C k61 W A l.length l ∧ l.length ≤ c := by
    intro d l A c n W hh
    obtain ⟨A', c', e, hl, hC⟩ := Kd.R_reads hh
    simp only [Value.slice.injEq] at e
    rw [e.1, e.2.2]
    exact ⟨hC, hl⟩
  have HCR := @hcr
  clear hcr
  refine (foyerlaw19_has.calls 100 RA ca ra (seatsI ra) w2 (HCR HRA2.out).1 (HCR HRA2.out).2 HHA.out).mono ?_
  rintro e w3 ⟨v7, rfl, hr7, hb⟩
  obtain ⟨AL, cl, rfl⟩ := Kd.R_slice hr7
  obtain ⟨all, hall⟩ : ∃ all, seatsI ra = all := ⟨_, rfl⟩
  have hal : (seatsI ra).length ≤ 64 := by
    rw [seatsI_eq, List.length_map]
    exact Nat.le_trans (List.length_filter_le _ _) (by simp)
  rw [hall] at hr7 hal
  rw [hall]
  have HALL := Lib.hid hall
  have HM := Lib.hid (show MvAt w w3 B HA HB LD A1 n1 c1 A2 n2 c2 A3 n3 c3 RA ca RB cb AL cl ra rb all ch (fun _ => false) from ⟨blk_below HXX.out hb, blk_below HAA.out hb, blk_below HBB.out hb, blk_below HLL.out hb, Kd.R_below HRA2.out hb, Kd.R_below HRB2.out hb, Kd.R_lower hr7 HB2.out.size, HP3.out, below_then HB2.out HB2.out.size hb, HL.out⟩)
  have HO := Lib.hid (show Kd.R k49 49 w3 w.heap.size (fun _ => True) (.slice none 0 0) [] from Kd.R_nil _ _ _ _ _)
  have HI := Lib.hid (show MvInv ra rb all 0 (fun _ => false) [] from ⟨by simp, by simp, by simp, by simp, by simp⟩)
  clear hr7 hb hall HRA2 HRB2 HB2 HXX HAA HBB HLL HL
  obtain ⟨nl, hnl⟩ : ∃ nl, all.length = nl := ⟨_, rfl⟩
  have HNL := Lib.hid hnl
  rw [hnl] at hal
  rw [hnl]
  clear hnl
  go_wp2_with fail
  go_loopw [5, 8] (fun v5 v8 wr => ∃ (i : Nat) (led : Nat → Bool) (out : List S49), v8 = .int .i64 i ∧ i ≤ nl ∧ Hid (MvAt w wr B HA HB LD A1 n1 c1 A2 n2 c2 A3 n3 c3 RA ca RB cb AL cl ra rb all ch led) ∧ Hid (Kd.R k49 49 wr w.heap.size (fun _ => True) v5 out) ∧ Hid (MvInv ra rb all i led out)) (fun _ v8 _ => nl - (intOf v8).toNat)
  case atStart => exact ⟨0, _, [], rfl, Nat.zero_le _, HM, HO, HI⟩
  case round =>
    clear HM HO HI
    obtain ⟨i, led, out, rfl, hi, HM, HO, HI⟩ := hrel
    have p0 : (0 : Int) ≤ (i : Int) := by omega
    have pl2 : wr.cell? ⟨B, 2, none⟩ = some (.slice A3 n3 c3) := cell_of_row _ _ 2 _ _ _ HM.out.plan
    by_cases hlt : i < nl
    · have q0 : (i : Int) < (nl : Int) := by omega
      have q1 : decide ((i : Int) < (nl : Int)) = true := decide_eq_true q0
      by_cases h3 : 0 < n3
      · have q2 : (0 : Int) < (n3 : Int) := by omega
        have q3 : decide ((0 : Int) < (n3 : Int)) = true := decide_eq_true q2
        obtain ⟨im, him⟩ : ∃ im, i % n3 = im := ⟨_, rfl⟩
        have him3 : im < n3 := by rw [← him]; exact Nat.mod_lt _ h3
        have htm : (i : Int).tmod (n3 : Int) = (im : Int) := by
          rw [Int.tmod_eq_emod_of_nonneg (by omega), ← him]
          omega
        have htm2 : (i : Int) % (n3 : Int) = (im : Int) := by
          rw [← him]
          omega
        clear him
        obtain ⟨x, hx⟩ : ∃ x, ch[im]? = some x := ⟨_, List.getElem?_eq_getElem (by rw [HN3.out]; exact him3)⟩
        obtain ⟨adc, rfl, hxc⟩ := HP3.out im x hx
        replace hxc := pw_cell_below HM.out.b hxc
        have hx8 := H8.out x (List.mem_of_getElem? hx)
        obtain ⟨cn, rfl⟩ := Int.eq_ofNat_of_zero_le hx8.1
        have hcn : cn < 256 := by omega
        have hcw : wrap64 (cn : Int) = (cn : Int) := by unfold wrap64; omega
        have m0 : (0 : Int) ≤ (im : Int) := by omega
        have m1 : (im : Int) < (n3 : Int) := by omega
        have hn30 : ¬ n3 = 0 := by omega
        clear hx hx8 h3
        go_wp2_with fail
        refine start_ (n := 11) (S := fun w' => w'.cell? ⟨B, 2, none⟩ = some (.slice (some adc) n3 c3) ∧ w'.cell? (adc.add im) = some (.int .u8 (cn : Int))) (ds := []) #[false, false, false, false, false, false, false, false, false, false, false] (by kernel_rfl) rfl rfl ⟨pw_cell_below (Below.drew (Below.refl _ _)) pl2, pw_cell_below (Below.drew (Below.refl _ _)) hxc⟩ (fun hHeld => ?_)
        refine pure_ (i := 0) (N := some 33) (v := ?_) (a' := ?_) #[true, false, false, false, false, false, false, false, false, false, false] rfl rfl (by kernel_rfl) (fun _ _ _ h => h) (Or.inl ⟨by rfl, ?_⟩) ?_ ?_
        rotate_left
        · intro w'
          go_simp
          with_reducible rfl
        rotate_left
        · simp only [Act.put, List.setIfInBounds_toArray, List.set_cons_zero, List.set_cons_succ, i64_w, i32_w]
          rfl
        refine pure_ (i := 2) (N := some 35) (v := ?_) (a' := ?_) #[true, false, true, false, false, false, false, false, false, false, false] rfl rfl (by kernel_rfl) (fun _ _ _ h => h) (Or.inl ⟨by rfl, ?_⟩) ?_ ?_
        rotate_left
        · intro w'
          go_simp
          with_reducible rfl
        rotate_left
        · simp only [Act.put, List.setIfInBounds_toArray, List.set_cons_zero, List.set_cons_succ, i64_w, i32_w]
          rfl
        refine pure_ (i := 3) (N := some 36) (v := ?_) (a' := ?_) #[true, false, true, true, false, false, false, false, false, false, false] rfl rfl (by kernel_rfl) (fun _ _ _ h => h) (Or.inl ⟨by rfl, ?_⟩) ?_ ?_
        rotate_left
        · intro w'
          go_simp
          with_reducible rfl
        rotate_left
        · simp only [Act.put, List.setIfInBounds_toArray, List.set_cons_zero, List.set_cons_succ, i64_w, i32_w]
          rfl
        refine take_ (i := 1) (N := some 34) (v := ?_) (a' := ?_) #[true, true, true, true, false, false, false, false, false, false, false] rfl rfl (by kernel_rfl) (fun _ _ _ h => h) (Or.inl ⟨by rfl, ?_⟩) hHeld ?_ ?_
        rotate_left
        · rintro w' ⟨s0, s1⟩
          go_simp
          with_reducible rfl
        rotate_left
        · simp only [Act.put, List.setIfInBounds_toArray, List.set_cons_zero, List.set_cons_succ, i64_w, i32_w]
          rfl
        refine take_ (i := 4) (N := some 37) (v := ?_) (a' := ?_) #[true, true, true, true, true, false, false, false, false, false, false] rfl rfl (by kernel_rfl) (fun _ _ _ h => h) (Or.inl ⟨by rfl, ?_⟩) hHeld ?_ ?_
        rotate_left
        · rintro w' ⟨s0, s1⟩
          go_simp
          with_reducible rfl
        rotate_left
        · simp only [Act.put, List.setIfInBounds_toArray, List.set_cons_zero, List.set_cons_succ, i64_w, i32_w]
          rfl
        refine pure_ (i := 5) (N := some 38) (v := ?_) (a' := ?_) #[true, true, true, true, true, true, false, false, false, false, false] rfl rfl (by kernel_rfl) (fun _ _ _ h => h) (Or.inl ⟨by rfl, ?_⟩) ?_ ?_
        rotate_left
        · intro w'
          go_simp
          with_reducible rfl
        rotate_left
        · simp only [Act.put, List.setIfInBounds_toArray, List.set_cons_zero, List.set_cons_succ, i64_w, i32_w]
          rfl
        refine pure_ (i := 6) (N := some 39) (v := ?_) (a' := ?_) #[true, true, true, true, true, true, true, false, false, false, false] rfl rfl (by kernel_rfl) (fun _ _ _ h => h) (Or.inl ⟨by rfl, ?_⟩) ?_ ?_
        rotate_left
        · intro w'
          go_simp
          with_reducible rfl
        rotate_left
        · simp only [Act.put, List.setIfInBounds_toArray, List.set_cons_zero, List.set_cons_succ, i64_w, i32_w]
          rfl
        refine pure_ (i := 7) (N := some 40) (v := ?_) (a' := ?_) #[true, true, true, true, true, true, true, true, false, false, false] rfl rfl (by kernel_rfl) (fun _ _ _ h => h) (Or.inl ⟨by rfl, ?_⟩) ?_ ?_
        rotate_left
        · intro w'
          go_simp
          with_reducible rfl
        rotate_left
        · simp only [Act.put, List.setIfInBounds_toArray, List.set_cons_zero, List.set_cons_succ, i64_w, i32_w]
          rfl
        refine take_ (i := 8) (N := some 41) (v := ?_) (a' := ?_) #[true, true, true, true, true, true, true, true, true, false, false] rfl rfl (by kernel_rfl) (fun _ _ _ h => h) (Or.inl ⟨by rfl, ?_⟩) hHeld ?_ ?_
        rotate_left
        · rintro w' ⟨s0, s1⟩
          go_simp
          with_reducible rfl
        rotate_left
        · simp only [Act.put, List.setIfInBounds_toArray, List.set_cons_zero, List.set_cons_succ, i64_w, i32_w]
          rfl
        refine pure_ (i := 9) (N := some 42) (v := ?_) (a' := ?_) #[true, true, true, true, true, true, true, true, true, true, false] rfl rfl (by kernel_rfl) (fun _ _ _ h => h) (Or.inl ⟨by rfl, ?_⟩) ?_ ?_
        rotate_left
        · intro w'
          go_simp
          with_reducible rfl
        rotate_left
        · simp only [Act.put, List.setIfInBounds_toArray, List.set_cons_zero, List.set_cons_succ, i64_w, i32_w]
          rfl
        refine pure_ (i := 10) (N := some 9) (v := ?_) (a' := ?_) #[true, true, true, true, true, true, true, true, true, true, true] rfl rfl (by kernel_rfl) (fun _ _ _ h => h) (Or.inl ⟨by rfl, ?_⟩) ?_ ?_
        rotate_left
        · intro w'
          go_simp
          with_reducible rfl
        rotate_left
        · simp only [Act.put, List.setIfInBounds_toArray, List.set_cons_zero, List.set_cons_succ, i64_w, i32_w]
          rfl
        refine done_ (by kernel_rfl) ?_
        generalize hw4 : World.drew wr = w4
        have hd4 : Below wr.heap.size wr w4 := by rw [← hw4]; exact Below.drew (Below.refl _ _)
        have HM4 := Lib.hid (HM.out.below hd4)
        have HO4 := Lib.hid (Kd.R_below HO.out hd4)
        clear hw4 hd4 HM HO pl2 hxc htm htm2 m0 m1
        have bb := cell_of_row _ _ 0 _ _ _ HM4.out.bB
        rw [hcw]
        have HCW := Lib.hid hcw
        clear hcw
        go_wp2_with fail
        refine (foyerlaw19_has.calls 100 RB cb rb (seatsI rb) w4 (HCR HM4.out.rrb).1 (HCR HM4.out.rrb).2 HHB.out).mono ?_
        rintro e w5 ⟨v44, rfl, hr44, hb⟩
        obtain ⟨BL, bl, rfl⟩ := Kd.R_slice hr44
        obtain ⟨sb, hsb⟩ : ∃ sb, seatsI rb = sb := ⟨_, rfl⟩
        have hsl : (seatsI rb).length ≤ 64 := by
          rw [seatsI_eq, List.length_map]
          exact Nat.le_trans (List.length_filter_le _ _) (by simp)
        rw [hsb] at hr44 hsl
        rw [hsb]
        have HSB := Lib.hid hsb
        obtain ⟨nb, hnb⟩ : ∃ nb, sb.length = nb := ⟨_, rfl⟩
        rw [hnb] at hsl
        have HNB := Lib.hid hnb
        have HRS := Lib.hid hr44
        rw [hnb]
        have HM5 := Lib.hid (HM4.out.below hb)
        have HO5 := Lib.hid (Kd.R_below HO4.out hb)
        clear hb hr44 hsb hnb HM4 HO4 bb
        obtain ⟨s, hs⟩ : ∃ s, all[i]? = some s := ⟨_, List.getElem?_eq_getElem (by rw [HNL.out]; exact hlt)⟩
        have hsm9 : s ∈ seatsI ra := by rw [HALL.out]; exact List.mem_of_getElem? hs
        have hs9 := seat_rng hsm9
        obtain ⟨sn, rfl⟩ := Int.eq_ofNat_of_zero_le hs9.1
        have hsn : sn < 64 := by omega
        have hsq := hasB_ln (mem_seatsI.1 hsm9)
        have HS := Lib.hid hs
        clear hs hsm9 hs9
        have HMY := Lib.hid (show MayOk rb led (clsAt ra sn) [] 0 from ⟨Nat.le_refl _, by simp⟩)
        have HMR := Lib.hid (show Kd.R (Kd.int .i64) 3 w5 w5.heap.size (fun _ => True) (.slice none 0 0) [] from Kd.R_nil _ _ _ _ _)
        have HBI := Lib.hid (Below.refl w5.heap.size w5)
        go_wp2_with fail
        go_loopw [10, 46] (fun v10 v46 wi => ∃ (j : Nat) (may : List Int), v46 = .int .i64 j ∧ j ≤ nb ∧ Hid (MayOk rb led (clsAt ra sn) may j) ∧ Hid (Kd.R (Kd.int .i64) 3 wi w5.heap.size (fun _ => True) v10 may) ∧ Hid (Below w5.heap.size w5 wi)) (fun _ v46 _ => nb - (intOf v46).toNat)
        case atStart => exact ⟨0, [], rfl, Nat.zero_le _, HMY, HMR, HBI⟩
        case round =>
          clear HMY HMR HBI
          obtain ⟨j, may, rfl, hj, HMY, HMR, HBI⟩ := hrel
          have j0 : (0 : Int) ≤ (j : Int) := by omega
          by_cases hjn : j < nb
          · have j1 : (j : Int) < (nb : Int) := by omega
            have j2 : decide ((j : Int) < (nb : Int)) = true := decide_eq_true j1
            obtain ⟨g, hg⟩ : ∃ g, sb[j]? = some g := ⟨_, List.getElem?_eq_getElem (by rw [HNB.out]; exact hjn)⟩
            have hgm : g ∈ seatsI rb := by rw [HSB.out]; exact List.mem_of_getElem? hg
            have hgr := seat_rng hgm
            obtain ⟨gn, rfl⟩ := Int.eq_ofNat_of_zero_le hgr.1
            have hgn : gn < 64 := by omega
            have hgq := hasB_ln (mem_seatsI.1 hgm)
            have HGM := Lib.hid hgm
            obtain ⟨adb, rfl, hgc⟩ := RI_get HRS.out hg
            replace hgc := pw_cell_below HBI.out hgc
            have HM6 := Lib.hid (HM5.out.below HBI.out)
            clear hg hgm hgr
            obtain ⟨adA, hadA, hcA⟩ := R61_get HM6.out.rra hsq
            obtain ⟨adB, hadB, hcB⟩ := R61_get HM6.out.rrb hgq
            obtain ⟨adS, hadS, hcS⟩ := RI_get HM6.out.ral HS.out
            subst hadA hadB hadS
            have lc := (cell_of_row _ _ gn _ _ _ HM6.out.bL).trans (bcells_get led hgn)
            have ba := cell_of_row _ _ 0 _ _ _ HM6.out.bA
            have bb := cell_of_row _ _ 0 _ _ _ HM6.out.bB
            have hq1 : (gn : Int).tdiv 8 = ((gn / 8 : Nat) : Int) := by rw [Int.tdiv_eq_ediv_of_nonneg (by omega)]; omega
            have hq2 : (sn : Int).tdiv 8 = ((sn / 8 : Nat) : Int) := by rw [Int.tdiv_eq_ediv_of_nonneg (by omega)]; omega
            obtain ⟨gq, hgqe⟩ : ∃ gq, gn / 8 = gq := ⟨_, rfl⟩
            obtain ⟨sq, hsqe⟩ : ∃ sq, sn / 8 = sq := ⟨_, rfl⟩
            have HGQ := Lib.hid hgqe
            have HSQ := Lib.hid hsqe
            rw [hgqe] at hq1 hcB hgq
            rw [hsqe] at hq2 hcA
            have hsq' : sq < ra.length := by rw [← hsqe]; exact hsq
            clear hgqe hsqe
            obtain ⟨clA, hclA⟩ : ∃ clA, (rd_T61 ra (sq : Int)).f0 = clA := ⟨_, rfl⟩
            obtain ⟨clB, hclB⟩ : ∃ clB, (rd_T61 rb (gq : Int)).f0 = clB := ⟨_, rfl⟩
            rw [hclA] at hcA
            rw [hclB] at hcB
            have HCA := Lib.hid (show clsAt ra sn = clA by unfold clsAt; rw [HSQ.out]; exact hclA)
            have HCB := Lib.hid (show clsAt rb gn = clB by unfold clsAt; rw [HGQ.out]; exact hclB)
            clear hclA hclB
            have g0 : (0 : Int) ≤ (gn : Int) := by omega
            have g1 : (gn : Int) < 64 := by omega
            have g2 : (0 : Int) ≤ (gq : Int) := by omega
            have g3 : (gq : Int) < (rb.length : Int) := by omega
            have s0 : (0 : Int) ≤ (sn : Int) := by omega
            have s2 : (0 : Int) ≤ (sq : Int) := by omega
            have s3 : (sq : Int) < (ra.length : Int) := by omega
            have hwg : wrap64 (gq : Int) = (gq : Int) := by unfold wrap64; omega
            have hws : wrap64 (sq : Int) = (sq : Int) := by unfold wrap64; omega
            have HGN := Lib.hid (show (gn : Int).toNat = gn from Int.toNat_natCast gn)
            have HJ3 : (may.length + 1) * 8 ≤ 140737488355328 := by have := HMY.out.len; omega
            cases hled : led gn with
            | true =>
              rw [hled] at lc
              clear hled HJ3 bb hcB ba hcS hcA
              go_wp2_with fail
              refine start_ (n := 24) (S := fun w' => w'.cell? ⟨LD, gn, none⟩ = some (.bool true)) (ds := []) #[false, false, false, false, false, false, false, false, false, false, false, false, false, false, false, false, false, false, false, false, false, false, false, false] (by kernel_rfl) rfl rfl (pw_cell_below (Below.drew (Below.refl _ _)) lc) (fun hHeld => ?_)
              refine pure_ (i := 0) (N := some 50) (v := ?_) (a' := ?_) #[true, false, false, false, false, false, false, false, false, false, false, false, false, false, false, false, false, false, false, false, false, false, false, false] rfl rfl (by kernel_rfl) (fun _ _ _ h => h) (Or.inl ⟨by rfl, ?_⟩) ?_ ?_
              rotate_left
              · intro w'
                go_simp
                with_reducible rfl
              rotate_left
              · simp only [Act.put, List.setIfInBounds_toArray, List.set_cons_zero, List.set_cons_succ, i64_w, i32_w]
                rfl
              refine pure_ (i := 1) (N := some 51) (v := ?_) (a' := ?_) #[true, true, false, false, false, false, false, false, false, false, false, false, false, false, false, false, false, false, false, false, false, false, false, false] rfl rfl (by kernel_rfl) (fun _ _ _ h => h) (Or.inl ⟨by rfl, ?_⟩) ?_ ?_
              rotate_left
              · intro w'
                go_simp
                with_reducible rfl
              rotate_left
              · simp only [Act.put, List.setIfInBounds_toArray, List.set_cons_zero, List.set_cons_succ, i64_w, i32_w]
                rfl
              refine take_ (i := 2) (N := some 52) (v := ?_) (a' := ?_) #[true, true, true, false, false, false, false, false, false, false, false, false, false, false, false, false, false, false, false, false, false, false, false, false] rfl rfl (by kernel_rfl) (fun _ _ _ h => h) (Or.inl ⟨by rfl, ?_⟩) hHeld ?_ ?_
              rotate_left
              · intro w' s0
                go_simp
                with_reducible rfl
              rotate_left
              · simp only [Act.put, List.setIfInBounds_toArray, List.set_cons_zero, List.set_cons_succ, i64_w, i32_w]
                rfl
              refine pure_ (i := 3) (N := some 53) (v := ?_) (a' := ?_) #[true, true, true, true, false, false, false, false, false, false, false, false, false, false, false, false, false, false, false, false, false, false, false, false] rfl rfl (by kernel_rfl) (fun _ _ _ h => h) (Or.inl ⟨by rfl, ?_⟩) ?_ ?_
              rotate_left
              · intro w'
                go_simp
                with_reducible rfl
              rotate_left
              · simp only [Act.put, List.setIfInBounds_toArray, List.set_cons_zero, List.set_cons_succ, i64_w, i32_w]
                rfl
              refine pure_ (i := 4) (N := some 54) (v := ?_) (a' := ?_) #[true, true, true, true, true, false, false, false, false, false, false, false, false, false, false, false, false, false, false, false, false, false, false, false] rfl rfl (by kernel_rfl) (fun _ _ _ h => h) (Or.inl ⟨by rfl, ?_⟩) ?_ ?_
              rotate_left
              · intro w'
                go_simp
                with_reducible rfl
              rotate_left
              · simp only [Act.put, List.setIfInBounds_toArray, List.set_cons_zero, List.set_cons_succ, i64_w, i32_w]
                rfl
              refine pure_ (i := 5) (N := some 55) (v := undef) (a' := ?_) #[true, true, true, true, true, true, false, false, false, false, false, false, false, false, false, false, false, false, false, false, false, false, false, false] rfl rfl (by kernel_rfl) (fun _ _ _ h => h) (Or.inr ⟨by rfl, rfl⟩) ?_ ?_
              rotate_left
              · simp only [Act.put, List.setIfInBounds_toArray, List.set_cons_zero, List.set_cons_succ, i64_w, i32_w]
                rfl
              refine pure_ (i := 6) (N := some 56) (v := undef) (a' := ?_) #[true, true, true, true, true, true, true, false, false, false, false, false, false, false, false, false, false, false, false, false, false, false, false, false] rfl rfl (by kernel_rfl) (fun _ _ _ h => h) (Or.inr ⟨by rfl, rfl⟩) ?_ ?_
              rotate_left
              · simp only [Act.put, List.setIfInBounds_toArray, List.set_cons_zero, List.set_cons_succ, i64_w, i32_w]
                rfl
              refine pure_ (i := 7) (N := some 57) (v := undef) (a' := ?_) #[true, true, true, true, true, true, true, true, false, false, false, false, false, false, false, false, false, false, false, false, false, false, false, false] rfl rfl (by kernel_rfl) (fun _ _ _ h => h) (Or.inr ⟨by rfl, rfl⟩) ?_ ?_
              rotate_left
              · simp only [Act.put, List.setIfInBounds_toArray, List.set_cons_zero, List.set_cons_succ, i64_w, i32_w]
                rfl
              refine pure_ (i := 8) (N := some 58) (v := undef) (a' := ?_) #[true, true, true, true, true, true, true, true, true, false, false, false, false, false, false, false, false, false, false, false, false, false, false, false] rfl rfl (by kernel_rfl) (fun _ _ _ h => h) (Or.inr ⟨by rfl, rfl⟩) ?_ ?_
              rotate_left
              · simp only [Act.put, List.setIfInBounds_toArray, List.set_cons_zero, List.set_cons_succ, i64_w, i32_w]
                rfl
              refine pure_ (i := 9) (N := some 59) (v := undef) (a' := ?_) #[true, true, true, true, true, true, true, true, true, true, false, false, false, false, false, false, false, false, false, false, false, false, false, false] rfl rfl (by kernel_rfl) (fun _ _ _ h => h) (Or.inr ⟨by rfl, rfl⟩) ?_ ?_
              rotate_left
              · simp only [Act.put, List.setIfInBounds_toArray, List.set_cons_zero, List.set_cons_succ, i64_w, i32_w]
                rfl
              refine pure_ (i := 10) (N := some 60) (v := undef) (a' := ?_) #[true, true, true, true, true, true, true, true, true, true, true, false, false, false, false, false, false, false, false, false, false, false, false, false] rfl rfl (by kernel_rfl) (fun _ _ _ h => h) (Or.inr ⟨by rfl, rfl⟩) ?_ ?_
              rotate_left
              · simp only [Act.put, List.setIfInBounds_toArray, List.set_cons_zero, List.set_cons_succ, i64_w, i32_w]
                rfl
              refine pure_ (i := 11) (N := some 61) (v := undef) (a' := ?_) #[true, true, true, true, true, true, true, true, true, true, true, true, false, false, false, false, false, false, false, false, false, false, false, false] rfl rfl (by kernel_rfl) (fun _ _ _ h => h) (Or.inr ⟨by rfl, rfl⟩) ?_ ?_
              rotate_left
              · simp only [Act.put, List.setIfInBounds_toArray, List.set_cons_zero, List.set_cons_succ, i64_w, i32_w]
                rfl
              refine pure_ (i := 12) (N := some 62) (v := undef) (a' := ?_) #[true, true, true, true, true, true, true, true, true, true, true, true, true, false, false, false, false, false, false, false, false, false, false, false] rfl rfl (by kernel_rfl) (fun _ _ _ h => h) (Or.inr ⟨by rfl, rfl⟩) ?_ ?_
              rotate_left
              · simp only [Act.put, List.setIfInBounds_toArray, List.set_cons_zero, List.set_cons_succ, i64_w, i32_w]
                rfl
              refine pure_ (i := 13) (N := some 63) (v := undef) (a' := ?_) #[true, true, true, true, true, true, true, true, true, true, true, true, true, true, false, false, false, false, false, false, false, false, false, false] rfl rfl (by kernel_rfl) (fun _ _ _ h => h) (Or.inr ⟨by rfl, rfl⟩) ?_ ?_
              rotate_left
              · simp only [Act.put, List.setIfInBounds_toArray, List.set_cons_zero, List.set_cons_succ, i64_w, i32_w]
                rfl
              refine pure_ (i := 14) (N := some 64) (v := undef) (a' := ?_) #[true, true, true, true, true, true, true, true, true, true, true, true, true, true, true, false, false, false, false, false, false, false, false, false] rfl rfl (by kernel_rfl) (fun _ _ _ h => h) (Or.inr ⟨by rfl, rfl⟩) ?_ ?_
              rotate_left
              · simp only [Act.put, List.setIfInBounds_toArray, List.set_cons_zero, List.set_cons_succ, i64_w, i32_w]
                rfl
              refine pure_ (i := 15) (N := some 65) (v := undef) (a' := ?_) #[true, true, true, true, true, true, true, true, true, true, true, true, true, true, true, true, false, false, false, false, false, false, false, false] rfl rfl (by kernel_rfl) (fun _ _ _ h => h) (Or.inr ⟨by rfl, rfl⟩) ?_ ?_
              rotate_left
              · simp only [Act.put, List.setIfInBounds_toArray, List.set_cons_zero, List.set_cons_succ, i64_w, i32_w]
                rfl
              refine pure_ (i := 16) (N := some 66) (v := undef) (a' := ?_) #[true, true, true, true, true, true, true, true, true, true, true, true, true, true, true, true, true, false, false, false, false, false, false, false] rfl rfl (by kernel_rfl) (fun _ _ _ h => h) (Or.inr ⟨by rfl, rfl⟩) ?_ ?_
              rotate_left
              · simp only [Act.put, List.setIfInBounds_toArray, List.set_cons_zero, List.set_cons_succ, i64_w, i32_w]
                rfl
              refine pure_ (i := 17) (N := some 67) (v := undef) (a' := ?_) #[true, true, true, true, true, true, true, true, true, true, true, true, true, true, true, true, true, true, false, false, false, false, false, false] rfl rfl (by kernel_rfl) (fun _ _ _ h => h) (Or.inr ⟨by rfl, rfl⟩) ?_ ?_
              rotate_left
              · simp only [Act.put, List.setIfInBounds_toArray, List.set_cons_zero, List.set_cons_succ, i64_w, i32_w]
                rfl
              refine pure_ (i := 18) (N := some 68) (v := undef) (a' := ?_) #[true, true, true, true, true, true, true, true, true, true, true, true, true, true, true, true, true, true, true, false, false, false, false, false] rfl rfl (by kernel_rfl) (fun _ _ _ h => h) (Or.inr ⟨by rfl, rfl⟩) ?_ ?_
              rotate_left
              · simp only [Act.put, List.setIfInBounds_toArray, List.set_cons_zero, List.set_cons_succ, i64_w, i32_w]
                rfl
              refine pure_ (i := 19) (N := some 69) (v := undef) (a' := ?_) #[true, true, true, true, true, true, true, true, true, true, true, true, true, true, true, true, true, true, true, true, false, false, false, false] rfl rfl (by kernel_rfl) (fun _ _ _ h => h) (Or.inr ⟨by rfl, rfl⟩) ?_ ?_
              rotate_left
              · simp only [Act.put, List.setIfInBounds_toArray, List.set_cons_zero, List.set_cons_succ, i64_w, i32_w]
                rfl
              refine pure_ (i := 20) (N := some 70) (v := undef) (a' := ?_) #[true, true, true, true, true, true, true, true, true, true, true, true, true, true, true, true, true, true, true, true, true, false, false, false] rfl rfl (by kernel_rfl) (fun _ _ _ h => h) (Or.inr ⟨by rfl, rfl⟩) ?_ ?_
              rotate_left
              · simp only [Act.put, List.setIfInBounds_toArray, List.set_cons_zero, List.set_cons_succ, i64_w, i32_w]
                rfl
              refine pure_ (i := 21) (N := some 71) (v := undef) (a' := ?_) #[true, true, true, true, true, true, true, true, true, true, true, true, true, true, true, true, true, true, true, true, true, true, false, false] rfl rfl (by kernel_rfl) (fun _ _ _ h => h) (Or.inr ⟨by rfl, rfl⟩) ?_ ?_
              rotate_left
              · simp only [Act.put, List.setIfInBounds_toArray, List.set_cons_zero, List.set_cons_succ, i64_w, i32_w]
                rfl
              refine pure_ (i := 22) (N := some 72) (v := undef) (a' := ?_) #[true, true, true, true, true, true, true, true, true, true, true, true, true, true, true, true, true, true, true, true, true, true, true, false] rfl rfl (by kernel_rfl) (fun _ _ _ h => h) (Or.inr ⟨by rfl, rfl⟩) ?_ ?_
              rotate_left
              · simp only [Act.put, List.setIfInBounds_toArray, List.set_cons_zero, List.set_cons_succ, i64_w, i32_w]
                rfl
              refine pure_ (i := 23) (N := some 73) (v := ?_) (a' := ?_) #[true, true, true, true, true, true, true, true, true, true, true, true, true, true, true, true, true, true, true, true, true, true, true, true] rfl rfl (by kernel_rfl) (fun _ _ _ h => h) (Or.inl ⟨by rfl, ?_⟩) ?_ ?_
              rotate_left
              · intro w'
                go_simp
                with_reducible rfl
              rotate_left
              · simp only [Act.put, List.setIfInBounds_toArray, List.set_cons_zero, List.set_cons_succ, i64_w, i32_w]
                rfl
              refine done_ (by kernel_rfl) ?_
              have HMR7 := Lib.hid (Kd.R_drew HMR.out)
              have HBI7 := Lib.hid (HBI.out.drew)
              go_wp2_with fail
              go_roundw
              case rel => exact ⟨j + 1, may, by go_num, by omega, Lib.hid HMY.out.skip, HMR7, HBI7⟩
              case measure => simp [intOf]; omega
            | false =>
              rw [hled] at lc
              have HLED := Lib.hid hled
              clear hled
              by_cases hcl : clB = clA
              · have bcl : (clB == clA) = true := beq_iff_eq.2 hcl
                have HCL := Lib.hid (show clsAt rb gn = clsAt ra sn by rw [HCA.out, HCB.out, hcl])
                clear hcl
                go_wp2_with fail
                refine start_ (n := 24) (S := fun w' => w'.cell? ⟨LD, gn, none⟩ = some (.bool false) ∧ w'.cell? ⟨HB, 0, none⟩ = some (.slice (some adB) rb.length cb) ∧ w'.cell? (adB.add (gq * 2)) = some (.int .i64 clB) ∧ w'.cell? ⟨HA, 0, none⟩ = some (.slice (some adA) ra.length ca) ∧ w'.cell? (adS.add i) = some (.int .i64 (sn : Int)) ∧ w'.cell? (adA.add (sq * 2)) = some (.int .i64 clA)) (ds := []) #[false, false, false, false, false, false, false, false, false, false, false, false, false, false, false, false, false, false, false, false, false, false, false, false] (by kernel_rfl) rfl rfl ⟨pw_cell_below (Below.drew (Below.refl _ _)) lc, pw_cell_below (Below.drew (Below.refl _ _)) bb, pw_cell_below (Below.drew (Below.refl _ _)) hcB, pw_cell_below (Below.drew (Below.refl _ _)) ba, pw_cell_below (Below.drew (Below.refl _ _)) hcS, pw_cell_below (Below.drew (Below.refl _ _)) hcA⟩ (fun hHeld => ?_)
                refine pure_ (i := 0) (N := some 50) (v := ?_) (a' := ?_) #[true, false, false, false, false, false, false, false, false, false, false, false, false, false, false, false, false, false, false, false, false, false, false, false] rfl rfl (by kernel_rfl) (fun _ _ _ h => h) (Or.inl ⟨by rfl, ?_⟩) ?_ ?_
                rotate_left
                · intro w'
                  go_simp
                  with_reducible rfl
                rotate_left
                · simp only [Act.put, List.setIfInBounds_toArray, List.set_cons_zero, List.set_cons_succ, i64_w, i32_w]
                  rfl
                refine pure_ (i := 1) (N := some 51) (v := ?_) (a' := ?_) #[true, true, false, false, false, false, false, false, false, false, false, false, false, false, false, false, false, false, false, false, false, false, false, false] rfl rfl (by kernel_rfl) (fun _ _ _ h => h) (Or.inl ⟨by rfl, ?_⟩) ?_ ?_
                rotate_left
                · intro w'
                  go_simp
                  with_reducible rfl
                rotate_left
                · simp only [Act.put, List.setIfInBounds_toArray, List.set_cons_zero, List.set_cons_succ, i64_w, i32_w]
                  rfl
                refine take_ (i := 2) (N := some 52) (v := ?_) (a' := ?_) #[true, true, true, false, false, false, false, false, false, false, false, false, false, false, false, false, false, false, false, false, false, false, false, false] rfl rfl (by kernel_rfl) (fun _ _ _ h => h) (Or.inl ⟨by rfl, ?_⟩) hHeld ?_ ?_
                rotate_left
                · rintro w' ⟨s0, s1, s2, s3, s4, s5⟩
                  go_simp
                  with_reducible rfl
                rotate_left
                · simp only [Act.put, List.setIfInBounds_toArray, List.set_cons_zero, List.set_cons_succ, i64_w, i32_w]
                  rfl
                refine pure_ (i := 3) (N := some 53) (v := ?_) (a' := ?_) #[true, true, true, true, false, false, false, false, false, false, false, false, false, false, false, false, false, false, false, false, false, false, false, false] rfl rfl (by kernel_rfl) (fun _ _ _ h => h) (Or.inl ⟨by rfl, ?_⟩) ?_ ?_
                rotate_left
                · intro w'
                  go_simp
                  with_reducible rfl
                rotate_left
                · simp only [Act.put, List.setIfInBounds_toArray, List.set_cons_zero, List.set_cons_succ, i64_w, i32_w]
                  rfl
                refine pure_ (i := 4) (N := some 54) (v := ?_) (a' := ?_) #[true, true, true, true, true, false, false, false, false, false, false, false, false, false, false, false, false, false, false, false, false, false, false, false] rfl rfl (by kernel_rfl) (fun _ _ _ h => h) (Or.inl ⟨by rfl, ?_⟩) ?_ ?_
                rotate_left
                · intro w'
                  go_simp
                  with_reducible rfl
                rotate_left
                · simp only [Act.put, List.setIfInBounds_toArray, List.set_cons_zero, List.set_cons_succ, i64_w, i32_w]
                  rfl
                refine pure_ (i := 5) (N := some 55) (v := ?_) (a' := ?_) #[true, true, true, true, true, true, false, false, false, false, false, false, false, false, false, false, false, false, false, false, false, false, false, false] rfl rfl (by kernel_rfl) (fun _ _ _ h => h) (Or.inl ⟨by rfl, ?_⟩) ?_ ?_
                rotate_left
                · intro w'
                  go_simp
                  with_reducible rfl
                rotate_left
                · simp only [Act.put, List.setIfInBounds_toArray, List.set_cons_zero, List.set_cons_succ, i64_w, i32_w]
                  rfl
                refine pure_ (i := 7) (N := some 57) (v := ?_) (a' := ?_) #[true, true, true, true, true, true, false, true, false, false, false, false, false, false, false, false, false, false, false, false, false, false, false, false] rfl rfl (by kernel_rfl) (fun _ _ _ h => h) (Or.inl ⟨by rfl, ?_⟩) ?_ ?_
                rotate_left
                · intro w'
                  go_simp
                  with_reducible rfl
                rotate_left
                · simp only [Act.put, List.setIfInBounds_toArray, List.set_cons_zero, List.set_cons_succ, i64_w, i32_w]
                  rfl
                refine pure_ (i := 8) (N := some 58) (v := ?_) (a' := ?_) #[true, true, true, true, true, true, false, true, true, false, false, false, false, false, false, false, false, false, false, false, false, false, false, false] rfl rfl (by kernel_rfl) (fun _ _ _ h => h) (Or.inl ⟨by rfl, ?_⟩) ?_ ?_
                rotate_left
                · intro w'
                  go_simp
                  with_reducible rfl
                rotate_left
                · simp only [Act.put, List.setIfInBounds_toArray, List.set_cons_zero, List.set_cons_succ, i64_w, i32_w]
                  rfl
                refine pure_ (i := 12) (N := some 62) (v := ?_) (a' := ?_) #[true, true, true, true, true, true, false, true, true, false, false, false, true, false, false, false, false, false, false, false, false, false, false, false] rfl rfl (by kernel_rfl) (fun _ _ _ h => h) (Or.inl ⟨by rfl, ?_⟩) ?_ ?_
                rotate_left
                · intro w'
                  go_simp
                  with_reducible rfl
                rotate_left
                · simp only [Act.put, List.setIfInBounds_toArray, List.set_cons_zero, List.set_cons_succ, i64_w, i32_w]
                  rfl
                refine pure_ (i := 14) (N := some 64) (v := ?_) (a' := ?_) #[true, true, true, true, true, true, false, true, true, false, false, false, true, false, true, false, false, false, false, false, false, false, false, false] rfl rfl (by kernel_rfl) (fun _ _ _ h => h) (Or.inl ⟨by rfl, ?_⟩) ?_ ?_
                rotate_left
                · intro w'
                  go_simp
                  with_reducible rfl
                rotate_left
                · simp only [Act.put, List.setIfInBounds_toArray, List.set_cons_zero, List.set_cons_succ, i64_w, i32_w]
                  rfl
                refine pure_ (i := 15) (N := some 65) (v := ?_) (a' := ?_) #[true, true, true, true, true, true, false, true, true, false, false, false, true, false, true, true, false, false, false, false, false, false, false, false] rfl rfl (by kernel_rfl) (fun _ _ _ h => h) (Or.inl ⟨by rfl, ?_⟩) ?_ ?_
                rotate_left
                · intro w'
                  go_simp
                  with_reducible rfl
                rotate_left
                · simp only [Act.put, List.setIfInBounds_toArray, List.set_cons_zero, List.set_cons_succ, i64_w, i32_w]
                  rfl
                refine pure_ (i := 16) (N := some 66) (v := ?_) (a' := ?_) #[true, true, true, true, true, true, false, true, true, false, false, false, true, false, true, true, true, false, false, false, false, false, false, false] rfl rfl (by kernel_rfl) (fun _ _ _ h => h) (Or.inl ⟨by rfl, ?_⟩) ?_ ?_
                rotate_left
                · intro w'
                  go_simp
                  with_reducible rfl
                rotate_left
                · simp only [Act.put, List.setIfInBounds_toArray, List.set_cons_zero, List.set_cons_succ, i64_w, i32_w]
                  rfl
                refine take_ (i := 6) (N := some 56) (v := ?_) (a' := ?_) #[true, true, true, true, true, true, true, true, true, false, false, false, true, false, true, true, true, false, false, false, false, false, false, false] rfl rfl (by kernel_rfl) (fun _ _ _ h => h) (Or.inl ⟨by rfl, ?_⟩) hHeld ?_ ?_
                rotate_left
                · rintro w' ⟨s0, s1, s2, s3, s4, s5⟩
                  go_simp
                  with_reducible rfl
                rotate_left
                · simp only [Act.put, List.setIfInBounds_toArray, List.set_cons_zero, List.set_cons_succ, i64_w, i32_w]
                  rfl
                refine pure_ (i := 9) (N := some 59) (v := ?_) (a' := ?_) #[true, true, true, true, true, true, true, true, true, true, false, false, true, false, true, true, true, false, false, false, false, false, false, false] rfl rfl (by kernel_rfl) (fun _ _ _ h => h) (Or.inl ⟨by rfl, ?_⟩) ?_ ?_
                rotate_left
                · intro w'
                  go_simp
                  with_reducible rfl
                rotate_left
                · simp only [Act.put, List.setIfInBounds_toArray, List.set_cons_zero, List.set_cons_succ, i64_w, i32_w]
                  rfl
                refine pure_ (i := 10) (N := some 60) (v := ?_) (a' := ?_) #[true, true, true, true, true, true, true, true, true, true, true, false, true, false, true, true, true, false, false, false, false, false, false, false] rfl rfl (by kernel_rfl) (fun _ _ _ h => h) (Or.inl ⟨by rfl, ?_⟩) ?_ ?_
                rotate_left
                · intro w'
                  go_simp
                  with_reducible rfl
                rotate_left
                · simp only [Act.put, List.setIfInBounds_toArray, List.set_cons_zero, List.set_cons_succ, i64_w, i32_w]
                  rfl
                refine take_ (i := 11) (N := some 61) (v := ?_) (a' := ?_) #[true, true, true, true, true, true, true, true, true, true, true, true, true, false, true, true, true, false, false, false, false, false, false, false] rfl rfl (by kernel_rfl) (fun _ _ _ h => h) (Or.inl ⟨by rfl, ?_⟩) hHeld ?_ ?_
                rotate_left
                · rintro w' ⟨s0, s1, s2, s3, s4, s5⟩
                  go_simp
                  with_reducible rfl
                rotate_left
                · simp only [Act.put, List.setIfInBounds_toArray, List.set_cons_zero, List.set_cons_succ, i64_w, i32_w]
                  rfl
                refine take_ (i := 13) (N := some 63) (v := ?_) (a' := ?_) #[true, true, true, true, true, true, true, true, true, true, true, true, true, true, true, true, true, false, false, false, false, false, false, false] rfl rfl (by kernel_rfl) (fun _ _ _ h => h) (Or.inl ⟨by rfl, ?_⟩) hHeld ?_ ?_
                rotate_left
                · rintro w' ⟨s0, s1, s2, s3, s4, s5⟩
                  go_simp
                  with_reducible rfl
                rotate_left
                · simp only [Act.put, List.setIfInBounds_toArray, List.set_cons_zero, List.set_cons_succ, i64_w, i32_w]
                  rfl
                refine take_ (i := 17) (N := some 67) (v := ?_) (a' := ?_) #[true, true, true, true, true, true, true, true, true, true, true, true, true, true, true, true, true, true, false, false, false, false, false, false] rfl rfl (by kernel_rfl) (fun _ _ _ h => h) (Or.inl ⟨by rfl, ?_⟩) hHeld ?_ ?_
                rotate_left
                · rintro w' ⟨s0, s1, s2, s3, s4, s5⟩
                  go_simp
                  with_reducible rfl
                rotate_left
                · simp only [Act.put, List.setIfInBounds_toArray, List.set_cons_zero, List.set_cons_succ, i64_w, i32_w]
                  rfl
                refine pure_ (i := 18) (N := some 68) (v := ?_) (a' := ?_) #[true, true, true, true, true, true, true, true, true, true, true, true, true, true, true, true, true, true, true, false, false, false, false, false] rfl rfl (by kernel_rfl) (fun _ _ _ h => h) (Or.inl ⟨by rfl, ?_⟩) ?_ ?_
                rotate_left
                · intro w'
                  go_simp
                  with_reducible rfl
                rotate_left
                · simp only [Act.put, List.setIfInBounds_toArray, List.set_cons_zero, List.set_cons_succ, i64_w, i32_w]
                  rfl
                refine pure_ (i := 19) (N := some 69) (v := ?_) (a' := ?_) #[true, true, true, true, true, true, true, true, true, true, true, true, true, true, true, true, true, true, true, true, false, false, false, false] rfl rfl (by kernel_rfl) (fun _ _ _ h => h) (Or.inl ⟨by rfl, ?_⟩) ?_ ?_
                rotate_left
                · intro w'
                  go_simp
                  with_reducible rfl
                rotate_left
                · simp only [Act.put, List.setIfInBounds_toArray, List.set_cons_zero, List.set_cons_succ, i64_w, i32_w]
                  rfl
                refine pure_ (i := 20) (N := some 70) (v := ?_) (a' := ?_) #[true, true, true, true, true, true, true, true, true, true, true, true, true, true, true, true, true, true, true, true, true, false, false, false] rfl rfl (by kernel_rfl) (fun _ _ _ h => h) (Or.inl ⟨by rfl, ?_⟩) ?_ ?_
                rotate_left
                · intro w'
                  go_simp
                  with_reducible rfl
                rotate_left
                · simp only [Act.put, List.setIfInBounds_toArray, List.set_cons_zero, List.set_cons_succ, i64_w, i32_w]
                  rfl
                refine take_ (i := 21) (N := some 71) (v := ?_) (a' := ?_) #[true, true, true, true, true, true, true, true, true, true, true, true, true, true, true, true, true, true, true, true, true, true, false, false] rfl rfl (by kernel_rfl) (fun _ _ _ h => h) (Or.inl ⟨by rfl, ?_⟩) hHeld ?_ ?_
                rotate_left
                · rintro w' ⟨s0, s1, s2, s3, s4, s5⟩
                  go_simp
                  with_reducible rfl
                rotate_left
                · simp only [Act.put, List.setIfInBounds_toArray, List.set_cons_zero, List.set_cons_succ, i64_w, i32_w]
                  rfl
                refine pure_ (i := 22) (N := some 72) (v := ?_) (a' := ?_) #[true, true, true, true, true, true, true, true, true, true, true, true, true, true, true, true, true, true, true, true, true, true, true, false] rfl rfl (by kernel_rfl) (fun _ _ _ h => h) (Or.inl ⟨by rfl, ?_⟩) ?_ ?_
                rotate_left
                · intro w'
                  go_simp
                  with_reducible rfl
                rotate_left
                · simp only [Act.put, List.setIfInBounds_toArray, List.set_cons_zero, List.set_cons_succ, i64_w, i32_w]
                  rfl
                refine pure_ (i := 23) (N := some 73) (v := ?_) (a' := ?_) #[true, true, true, true, true, true, true, true, true, true, true, true, true, true, true, true, true, true, true, true, true, true, true, true] rfl rfl (by kernel_rfl) (fun _ _ _ h => h) (Or.inl ⟨by rfl, ?_⟩) ?_ ?_
                rotate_left
                · intro w'
                  go_simp
                  with_reducible rfl
                rotate_left
                · simp only [Act.put, List.setIfInBounds_toArray, List.set_cons_zero, List.set_cons_succ, i64_w, i32_w]
                  rfl
                refine done_ (by kernel_rfl) ?_
                have HMR7 := Lib.hid (Kd.R_drew HMR.out)
                have HBI7 := Lib.hid (HBI.out.drew)
                clear lc bb hcB ba hcS hcA bcl
                go_wp2_with ((with_reducible refine gate_builtin (b := .append) (xs := #[.tmp 74, .tmp 76]) rfl ?_); at_builtin; refine Kd.R_append (Kd.int .i64) (w0 := w5) w5.heap.size rfl (.tmp 74) (.tmp 76) 39 3 (.int .i64 0) 8 rfl Try.underlying39 info3 rfl (by decide) (by decide) u10 may (gn : Int) [.int .i64 (gn : Int)] (fun _ => True) (fun _ => False) rfl rfl rfl (fun _ h => h.elim) (fun _ _ => trivial) HMR7.out HBI7.out HBI7.out.size HJ3 ?_; intro v1 z1 hR1 hb1 hg1 hat1; have HR1 := Lib.hid hR1; have HB1 := Lib.hid hb1; clear hR1 hb1 hg1 hat1)
                go_roundw
                case rel => exact ⟨j + 1, may ++ [(gn : Int)], by go_num, by omega, Lib.hid (HMY.out.put HGM.out (by rw [HGN.out]; exact HLED.out) (by rw [HGN.out]; exact HCL.out)), HR1, HB1⟩
                case measure => simp [intOf]; omega
              · have bcl : (clB == clA) = false := beq_eq_false_iff_ne.2 hcl
                clear hcl
                go_wp2_with fail
                refine start_ (n := 24) (S := fun w' => w'.cell? ⟨LD, gn, none⟩ = some (.bool false) ∧ w'.cell? ⟨HB, 0, none⟩ = some (.slice (some adB) rb.length cb) ∧ w'.cell? (adB.add (gq * 2)) = some (.int .i64 clB) ∧ w'.cell? ⟨HA, 0, none⟩ = some (.slice (some adA) ra.length ca) ∧ w'.cell? (adS.add i) = some (.int .i64 (sn : Int)) ∧ w'.cell? (adA.add (sq * 2)) = some (.int .i64 clA)) (ds := []) #[false, false, false, false, false, false, false, false, false, false, false, false, false, false, false, false, false, false, false, false, false, false, false, false] (by kernel_rfl) rfl rfl ⟨pw_cell_below (Below.drew (Below.refl _ _)) lc, pw_cell_below (Below.drew (Below.refl _ _)) bb, pw_cell_below (Below.drew (Below.refl _ _)) hcB, pw_cell_below (Below.drew (Below.refl _ _)) ba, pw_cell_below (Below.drew (Below.refl _ _)) hcS, pw_cell_below (Below.drew (Below.refl _ _)) hcA⟩ (fun hHeld => ?_)
                refine pure_ (i := 0) (N := some 50) (v := ?_) (a' := ?_) #[true, false, false, false, false, false, false, false, false, false, false, false, false, false, false, false, false, false, false, false, false, false, false, false] rfl rfl (by kernel_rfl) (fun _ _ _ h => h) (Or.inl ⟨by rfl, ?_⟩) ?_ ?_
                rotate_left
                · intro w'
                  go_simp
                  with_reducible rfl
                rotate_left
                · simp only [Act.put, List.setIfInBounds_toArray, List.set_cons_zero, List.set_cons_succ, i64_w, i32_w]
                  rfl
                refine pure_ (i := 1) (N := some 51) (v := ?_) (a' := ?_) #[true, true, false, false, false, false, false, false, false, false, false, false, false, false, false, false, false, false, false, false, false, false, false, false] rfl rfl (by kernel_rfl) (fun _ _ _ h => h) (Or.inl ⟨by rfl, ?_⟩) ?_ ?_
                rotate_left
                · intro w'
                  go_simp
                  with_reducible rfl
                rotate_left
                · simp only [Act.put, List.setIfInBounds_toArray, List.set_cons_zero, List.set_cons_succ, i64_w, i32_w]
                  rfl
                refine take_ (i := 2) (N := some 52) (v := ?_) (a' := ?_) #[true, true, true, false, false, false, false, false, false, false, false, false, false, false, false, false, false, false, false, false, false, false, false, false] rfl rfl (by kernel_rfl) (fun _ _ _ h => h) (Or.inl ⟨by rfl, ?_⟩) hHeld ?_ ?_
                rotate_left
                · rintro w' ⟨s0, s1, s2, s3, s4, s5⟩
                  go_simp
                  with_reducible rfl
                rotate_left
                · simp only [Act.put, List.setIfInBounds_toArray, List.set_cons_zero, List.set_cons_succ, i64_w, i32_w]
                  rfl
                refine pure_ (i := 3) (N := some 53) (v := ?_) (a' := ?_) #[true, true, true, true, false, false, false, false, false, false, false, false, false, false, false, false, false, false, false, false, false, false, false, false] rfl rfl (by kernel_rfl) (fun _ _ _ h => h) (Or.inl ⟨by rfl, ?_⟩) ?_ ?_
                rotate_left
                · intro w'
                  go_simp
                  with_reducible rfl
                rotate_left
                · simp only [Act.put, List.setIfInBounds_toArray, List.set_cons_zero, List.set_cons_succ, i64_w, i32_w]
                  rfl
                refine pure_ (i := 4) (N := some 54) (v := ?_) (a' := ?_) #[true, true, true, true, true, false, false, false, false, false, false, false, false, false, false, false, false, false, false, false, false, false, false, false] rfl rfl (by kernel_rfl) (fun _ _ _ h => h) (Or.inl ⟨by rfl, ?_⟩) ?_ ?_
                rotate_left
                · intro w'
                  go_simp
                  with_reducible rfl
                rotate_left
                · simp only [Act.put, List.setIfInBounds_toArray, List.set_cons_zero, List.set_cons_succ, i64_w, i32_w]
                  rfl
                refine pure_ (i := 5) (N := some 55) (v := ?_) (a' := ?_) #[true, true, true, true, true, true, false, false, false, false, false, false, false, false, false, false, false, false, false, false, false, false, false, false] rfl rfl (by kernel_rfl) (fun _ _ _ h => h) (Or.inl ⟨by rfl, ?_⟩) ?_ ?_
                rotate_left
                · intro w'
                  go_simp
                  with_reducible rfl
                rotate_left
                · simp only [Act.put, List.setIfInBounds_toArray, List.set_cons_zero, List.set_cons_succ, i64_w, i32_w]
                  rfl
                refine pure_ (i := 7) (N := some 57) (v := ?_) (a' := ?_) #[true, true, true, true, true, true, false, true, false, false, false, false, false, false, false, false, false, false, false, false, false, false, false, false] rfl rfl (by kernel_rfl) (fun _ _ _ h => h) (Or.inl ⟨by rfl, ?_⟩) ?_ ?_
                rotate_left
                · intro w'
                  go_simp
                  with_reducible rfl
                rotate_left
                · simp only [Act.put, List.setIfInBounds_toArray, List.set_cons_zero, List.set_cons_succ, i64_w, i32_w]
                  rfl
                refine pure_ (i := 8) (N := some 58) (v := ?_) (a' := ?_) #[true, true, true, true, true, true, false, true, true, false, false, false, false, false, false, false, false, false, false, false, false, false, false, false] rfl rfl (by kernel_rfl) (fun _ _ _ h => h) (Or.inl ⟨by rfl, ?_⟩) ?_ ?_
                rotate_left
                · intro w'
                  go_simp
                  with_reducible rfl
                rotate_left
                · simp only [Act.put, List.setIfInBounds_toArray, List.set_cons_zero, List.set_cons_succ, i64_w, i32_w]
                  rfl
                refine pure_ (i := 12) (N := some 62) (v := ?_) (a' := ?_) #[true, true, true, true, true, true, false, true, true, false, false, false, true, false, false, false, false, false, false, false, false, false, false, false] rfl rfl (by kernel_rfl) (fun _ _ _ h => h) (Or.inl ⟨by rfl, ?_⟩) ?_ ?_
                rotate_left
                · intro w'
                  go_simp
                  with_reducible rfl
                rotate_left
                · simp only [Act.put, List.setIfInBounds_toArray, List.set_cons_zero, List.set_cons_succ, i64_w, i32_w]
                  rfl
                refine pure_ (i := 14) (N := some 64) (v := ?_) (a' := ?_) #[true, true, true, true, true, true, false, true, true, false, false, false, true, false, true, false, false, false, false, false, false, false, false, false] rfl rfl (by kernel_rfl) (fun _ _ _ h => h) (Or.inl ⟨by rfl, ?_⟩) ?_ ?_
                rotate_left
                · intro w'
                  go_simp
                  with_reducible rfl
                rotate_left
                · simp only [Act.put, List.setIfInBounds_toArray, List.set_cons_zero, List.set_cons_succ, i64_w, i32_w]
                  rfl
                refine pure_ (i := 15) (N := some 65) (v := ?_) (a' := ?_) #[true, true, true, true, true, true, false, true, true, false, false, false, true, false, true, true, false, false, false, false, false, false, false, false] rfl rfl (by kernel_rfl) (fun _ _ _ h => h) (Or.inl ⟨by rfl, ?_⟩) ?_ ?_
                rotate_left
                · intro w'
                  go_simp
                  with_reducible rfl
                rotate_left
                · simp only [Act.put, List.setIfInBounds_toArray, List.set_cons_zero, List.set_cons_succ, i64_w, i32_w]
                  rfl
                refine pure_ (i := 16) (N := some 66) (v := ?_) (a' := ?_) #[true, true, true, true, true, true, false, true, true, false, false, false, true, false, true, true, true, false, false, false, false, false, false, false] rfl rfl (by kernel_rfl) (fun _ _ _ h => h) (Or.inl ⟨by rfl, ?_⟩) ?_ ?_
                rotate_left
                · intro w'
                  go_simp
                  with_reducible rfl
                rotate_left
                · simp only [Act.put, List.setIfInBounds_toArray, List.set_cons_zero, List.set_cons_succ, i64_w, i32_w]
                  rfl
                refine take_ (i := 6) (N := some 56) (v := ?_) (a' := ?_) #[true, true, true, true, true, true, true, true, true, false, false, false, true, false, true, true, true, false, false, false, false, false, false, false] rfl rfl (by kernel_rfl) (fun _ _ _ h => h) (Or.inl ⟨by rfl, ?_⟩) hHeld ?_ ?_
                rotate_left
                · rintro w' ⟨s0, s1, s2, s3, s4, s5⟩
                  go_simp
                  with_reducible rfl
                rotate_left
                · simp only [Act.put, List.setIfInBounds_toArray, List.set_cons_zero, List.set_cons_succ, i64_w, i32_w]
                  rfl
                refine pure_ (i := 9) (N := some 59) (v := ?_) (a' := ?_) #[true, true, true, true, true, true, true, true, true, true, false, false, true, false, true, true, true, false, false, false, false, false, false, false] rfl rfl (by kernel_rfl) (fun _ _ _ h => h) (Or.inl ⟨by rfl, ?_⟩) ?_ ?_
                rotate_left
                · intro w'
                  go_simp
                  with_reducible rfl
                rotate_left
                · simp only [Act.put, List.setIfInBounds_toArray, List.set_cons_zero, List.set_cons_succ, i64_w, i32_w]
                  rfl
                refine pure_ (i := 10) (N := some 60) (v := ?_) (a' := ?_) #[true, true, true, true, true, true, true, true, true, true, true, false, true, false, true, true, true, false, false, false, false, false, false, false] rfl rfl (by kernel_rfl) (fun _ _ _ h => h) (Or.inl ⟨by rfl, ?_⟩) ?_ ?_
                rotate_left
                · intro w'
                  go_simp
                  with_reducible rfl
                rotate_left
                · simp only [Act.put, List.setIfInBounds_toArray, List.set_cons_zero, List.set_cons_succ, i64_w, i32_w]
                  rfl
                refine take_ (i := 11) (N := some 61) (v := ?_) (a' := ?_) #[true, true, true, true, true, true, true, true, true, true, true, true, true, false, true, true, true, false, false, false, false, false, false, false] rfl rfl (by kernel_rfl) (fun _ _ _ h => h) (Or.inl ⟨by rfl, ?_⟩) hHeld ?_ ?_
                rotate_left
                · rintro w' ⟨s0, s1, s2, s3, s4, s5⟩
                  go_simp
                  with_reducible rfl
                rotate_left
                · simp only [Act.put, List.setIfInBounds_toArray, List.set_cons_zero, List.set_cons_succ, i64_w, i32_w]
                  rfl
                refine take_ (i := 13) (N := some 63) (v := ?_) (a' := ?_) #[true, true, true, true, true, true, true, true, true, true, true, true, true, true, true, true, true, false, false, false, false, false, false, false] rfl rfl (by kernel_rfl) (fun _ _ _ h => h) (Or.inl ⟨by rfl, ?_⟩) hHeld ?_ ?_
                rotate_left
                · rintro w' ⟨s0, s1, s2, s3, s4, s5⟩
                  go_simp
                  with_reducible rfl
                rotate_left
                · simp only [Act.put, List.setIfInBounds_toArray, List.set_cons_zero, List.set_cons_succ, i64_w, i32_w]
                  rfl
                refine take_ (i := 17) (N := some 67) (v := ?_) (a' := ?_) #[true, true, true, true, true, true, true, true, true, true, true, true, true, true, true, true, true, true, false, false, false, false, false, false] rfl rfl (by kernel_rfl) (fun _ _ _ h => h) (Or.inl ⟨by rfl, ?_⟩) hHeld ?_ ?_
                rotate_left
                · rintro w' ⟨s0, s1, s2, s3, s4, s5⟩
                  go_simp
                  with_reducible rfl
                rotate_left
                · simp only [Act.put, List.setIfInBounds_toArray, List.set_cons_zero, List.set_cons_succ, i64_w, i32_w]
                  rfl
                refine pure_ (i := 18) (N := some 68) (v := ?_) (a' := ?_) #[true, true, true, true, true, true, true, true, true, true, true, true, true, true, true, true, true, true, true, false, false, false, false, false] rfl rfl (by kernel_rfl) (fun _ _ _ h => h) (Or.inl ⟨by rfl, ?_⟩) ?_ ?_
                rotate_left
                · intro w'
                  go_simp
                  with_reducible rfl
                rotate_left
                · simp only [Act.put, List.setIfInBounds_toArray, List.set_cons_zero, List.set_cons_succ, i64_w, i32_w]
                  rfl
                refine pure_ (i := 19) (N := some 69) (v := ?_) (a' := ?_) #[true, true, true, true, true, true, true, true, true, true, true, true, true, true, true, true, true, true, true, true, false, false, false, false] rfl rfl (by kernel_rfl) (fun _ _ _ h => h) (Or.inl ⟨by rfl, ?_⟩) ?_ ?_
                rotate_left
                · intro w'
                  go_simp
                  with_reducible rfl
                rotate_left
                · simp only [Act.put, List.setIfInBounds_toArray, List.set_cons_zero, List.set_cons_succ, i64_w, i32_w]
                  rfl
                refine pure_ (i := 20) (N := some 70) (v := ?_) (a' := ?_) #[true, true, true, true, true, true, true, true, true, true, true, true, true, true, true, true, true, true, true, true, true, false, false, false] rfl rfl (by kernel_rfl) (fun _ _ _ h => h) (Or.inl ⟨by rfl, ?_⟩) ?_ ?_
                rotate_left
                · intro w'
                  go_simp
                  with_reducible rfl
                rotate_left
                · simp only [Act.put, List.setIfInBounds_toArray, List.set_cons_zero, List.set_cons_succ, i64_w, i32_w]
                  rfl
                refine take_ (i := 21) (N := some 71) (v := ?_) (a' := ?_) #[true, true, true, true, true, true, true, true, true, true, true, true, true, true, true, true, true, true, true, true, true, true, false, false] rfl rfl (by kernel_rfl) (fun _ _ _ h => h) (Or.inl ⟨by rfl, ?_⟩) hHeld ?_ ?_
                rotate_left
                · rintro w' ⟨s0, s1, s2, s3, s4, s5⟩
                  go_simp
                  with_reducible rfl
                rotate_left
                · simp only [Act.put, List.setIfInBounds_toArray, List.set_cons_zero, List.set_cons_succ, i64_w, i32_w]
                  rfl
                refine pure_ (i := 22) (N := some 72) (v := ?_) (a' := ?_) #[true, true, true, true, true, true, true, true, true, true, true, true, true, true, true, true, true, true, true, true, true, true, true, false] rfl rfl (by kernel_rfl) (fun _ _ _ h => h) (Or.inl ⟨by rfl, ?_⟩) ?_ ?_
                rotate_left
                · intro w'
                  go_simp
                  with_reducible rfl
                rotate_left
                · simp only [Act.put, List.setIfInBounds_toArray, List.set_cons_zero, List.set_cons_succ, i64_w, i32_w]
                  rfl
                refine pure_ (i := 23) (N := some 73) (v := ?_) (a' := ?_) #[true, true, true, true, true, true, true, true, true, true, true, true, true, true, true, true, true, true, true, true, true, true, true, true] rfl rfl (by kernel_rfl) (fun _ _ _ h => h) (Or.inl ⟨by rfl, ?_⟩) ?_ ?_
                rotate_left
                · intro w'
                  go_simp
                  with_reducible rfl
                rotate_left
                · simp only [Act.put, List.setIfInBounds_toArray, List.set_cons_zero, List.set_cons_succ, i64_w, i32_w]
                  rfl
                refine done_ (by kernel_rfl) ?_
                have HMR7 := Lib.hid (Kd.R_drew HMR.out)
                have HBI7 := Lib.hid (HBI.out.drew)
                clear lc bb hcB ba hcS hcA bcl
                go_wp2_with fail
                go_roundw
                case rel => exact ⟨j + 1, may, by go_num, by omega, Lib.hid HMY.out.skip, HMR7, HBI7⟩
                case measure => simp [intOf]; omega
          · obtain rfl : j = nb := by omega
            have j2 : decide ((j : Int) < (j : Int)) = false := by simp
            have HM6 := Lib.hid (HM5.out.below HBI.out)
            have HO6 := Lib.hid (Kd.R_below HO5.out HBI.out)
            clear HM5 HO5
            obtain ⟨MA, mc, hmv⟩ := Kd.R_slice HMR.out
            subst hmv
            obtain ⟨m, hm⟩ : ∃ m, may.length = m := ⟨_, rfl⟩
            have hm64 : m ≤ 64 := by have := HMY.out.len; omega
            have HML := Lib.hid hm
            rw [hm]
            clear hm
            by_cases e3 : cn % 4 = 3
            · have b3 : ((cn : Int) % 4 == 3) = true := by rw [beq_iff_eq]; omega
              have b4 : ((cn : Int).tmod 4 == 3) = true := by rw [Int.tmod_eq_emod_of_nonneg (by omega)]; exact b3
              have b5 : (cn % 4 == 3) = true := by rw [beq_iff_eq]; omega
              clear e3
              go_wp2_with fail
              go_roundw
              case rel => exact ⟨i + 1, led, out, by go_num, by omega, HM6, HO6, Lib.hid HI.out.skip⟩
              case measure => simp [intOf]; omega
            · have b3 : ((cn : Int) % 4 == 3) = false := by rw [beq_eq_false_iff_ne]; omega
              have b4 : ((cn : Int).tmod 4 == 3) = false := by rw [Int.tmod_eq_emod_of_nonneg (by omega)]; exact b3
              have b5 : (cn % 4 == 3) = false := by rw [beq_eq_false_iff_ne]; omega
              clear e3
              by_cases hm0 : m = 0
              · have d3 : ((m : Int) == 0) = true := by rw [beq_iff_eq]; omega
                have d4 : (m == 0) = true := by rw [beq_iff_eq]; omega
                go_wp2_with fail
                go_roundw
                case rel => exact ⟨i + 1, led, out, by go_num, by omega, HM6, HO6, Lib.hid HI.out.skip⟩
                case measure => simp [intOf]; omega
              · have d3 : ((m : Int) == 0) = false := by rw [beq_eq_false_iff_ne]; omega
                have d4 : (m == 0) = false := by rw [beq_eq_false_iff_ne]; omega
                have hi64 : i < 64 := by omega
                obtain ⟨kk, hkk⟩ : ∃ kk, (cn / 4 + i) % m = kk := ⟨_, rfl⟩
                have hkm : kk < m := by rw [← hkk]; exact Nat.mod_lt _ (by omega)
                obtain ⟨g, hg⟩ : ∃ g, may[kk]? = some g := ⟨_, List.getElem?_eq_getElem (by rw [HML.out]; exact hkm)⟩
                obtain ⟨hgm, hgl, hgc⟩ := HMY.out.ok g (List.mem_of_getElem? hg)
                have hgr := seat_rng hgm
                obtain ⟨gn, rfl⟩ := Int.eq_ofNat_of_zero_le hgr.1
                have hgn : gn < 64 := by omega
                obtain ⟨adm, hadm, hmc⟩ := RI_get HMR.out hg
                subst hadm
                have HI9 := Lib.hid (HI.out.put HS.out hgm hgl (by simpa using hgc))
                rw [Int.toNat_natCast] at hgl
                have lc := (cell_of_row _ _ gn _ _ _ HM6.out.bL).trans (bcells_get led hgn)
                have lf := blk_free HM6.out.bL gn
                have HM8 := Lib.hid (HM6.out.setL gn)
                obtain ⟨adS, hadS, hcS8⟩ := RI_get HM8.out.ral HS.out
                subst hadS
                have HO8 := Lib.hid (show Kd.R k49 49 (World.setCell wr ⟨LD, gn, none⟩ (.bool true)) w.heap.size (fun _ => True) u5 out from R49_keep HO6.out (fun k cs hk => Below.heap_setCell _ _ _ _ (by
                  rintro rfl
                  have h9 := HM6.out.bL
                  rw [hk] at h9
                  simp at h9)))
                have hk1 : ((cn : Int) / 4 + (i : Int)) % (m : Int) = (kk : Int) := by rw [← hkk]; simp
                have hk2 : ((cn : Int) / 4 + (i : Int)).tmod (m : Int) = (kk : Int) := by rw [Int.tmod_eq_emod_of_nonneg (by omega)]; exact hk1
                have k0 : (0 : Int) ≤ (kk : Int) := by omega
                have k1 : (kk : Int) < (m : Int) := by omega
                have g0 : (0 : Int) ≤ (gn : Int) := by omega
                have g1 : (gn : Int) < 64 := by omega
                have hol : (out.length + 1) * 16 ≤ 140737488355328 := by
                  have h9 := HI.out.sub.length_le
                  rw [List.length_map, List.length_take] at h9
                  omega
                clear hkk hg hgm hgl hgc hgr
                have HSZ := Lib.hid (show (World.setCell wr ⟨LD, gn, none⟩ (.bool true)).heap.size = wr.heap.size by simp [World.setCell])
                go_wp2_with ((with_reducible refine gate_builtin (b := .append) (xs := #[.tmp 99, .tmp 106]) rfl ?_); at_builtin; refine Kd.R_append k49 (w0 := w) w.heap.size rfl (.tmp 99) (.tmp 106) 32 49 (.agg #[.int .i64 0, .int .i64 0]) 16 rfl Try.underlying32 info49 rfl (by decide) (by decide) u5 out (⟨(sn : Int), (gn : Int)⟩ : S49) [.int .i64 (sn : Int), .int .i64 (gn : Int)] (fun _ => True) (fun _ => False) rfl (by rw [HSZ.out]; rfl) (k49_mkM _ _ _ _) (fun _ h => h.elim) (fun _ _ => trivial) HO8.out HM8.out.b HM8.out.b.size hol ?_; intro v1 z1 hR1 hb1 hg1 hat1; have HR1 := Lib.hid hR1; have HM9 := Lib.hid (HM8.out.grown HO8.out hb1 hg1); clear hR1 hb1 hg1 hat1)
                go_roundw
                case rel => exact ⟨i + 1, _, _, by go_num, by omega, HM9, HR1, HI9⟩
                case measure => simp [intOf]; omega
      · have q3 : decide ((0 : Int) < (n3 : Int)) = false := decide_eq_false (by omega)
        have q4 : decide (0 < n3) = false := decide_eq_false (by omega)
        go_wp2_with fail
        go_ret
        exact ⟨_, rfl, out, (HALL.out ▸ HI.out).good, HO.out, HM.out.b⟩
    · have q1 : decide ((i : Int) < (nl : Int)) = false := decide_eq_false (by omega)
      go_wp2_with fail
      go_ret
      exact ⟨_, rfl, out, (HALL.out ▸ HI.out).good, HO.out, HM.out.b⟩
end Go.Proofs.Yteojldbfebnccaa
