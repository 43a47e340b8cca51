/- LeaseOrder: the walk. -/
import Derived.Test.YtfkbiecbnjddmaaLOrder
namespace Go.Proofs.Ytfkbiecbnjddmaa
open Go.RowKit Go.MapKept Go.ChangeMaps Go.ChangeShapes Go.Proofs.YtfkbiecbnjddmaaW.PrintWords
set_option linter.unusedVariables false
set_option linter.unusedSimpArgs false
/-- the state between two acts -/
structure OrdAt (W0 W : World) (r T : Nat) (s : St) (xs : List Lz) (now : Int) (i : Nat) : Prop where
  row : RowAt W r s xs
  there : There W T xs
  foot : ∀ k, s.foot k → W0.heap.size ≤ k
  notT : ¬ s.foot T
  newT : W0.heap.size ≤ T
  b : Below W0.heap.size W0 W
  len : xs.length ≤ i
  now0 : 0 ≤ now
  now1 : now ≤ 99 * i
theorem OrdAt.below {W0 W W' : World} {r T : Nat} {s : St} {xs : List Lz} {now : Int} {i : Nat} (h : OrdAt W0 W r T s xs now i) (hb : Below W.heap.size W W') : OrdAt W0 W' r T s xs now i :=
  ⟨h.row.below hb, h.there.congr (hb.block T h.there.lt) (fun _ _ => Iff.rfl), h.foot, h.notT, h.newT, below_then h.b h.b.size hb, h.len, h.now0, h.now1⟩
theorem There.look {W : World} {T : Nat} {xs : List Lz} (h : There W T xs) {k : Int × Int} (hk : okKey k) :
    (∃ x, x ∈ xs ∧ x.key = k ∧ (Instr.lookup 65 (.map (some T)) (keyV k) true).run Try.prog W = .ok (.tuple #[.int .u64 x.2.2, .bool true]) W) ∨
    (k ∉ xs.map Lz.key ∧ (Instr.lookup 65 (.map (some T)) (keyV k) true).run Try.prog W = .ok (.tuple #[.int .u64 0, .bool false]) W) := by
  have h' : MapIs W T .u64 (Till' xs) xs.length := h
  rcases h'.lookup key67 Try.underlying65 zero22 hk with ⟨p, ⟨x, hx, h1, rfl⟩, hr⟩ | ⟨hno, hr⟩
  · exact .inl ⟨x, hx, h1, hr⟩
  · refine .inr ⟨fun hc => ?_, hr⟩
    obtain ⟨x, hx, rfl⟩ := List.mem_map.1 hc
    exact hno x.2.2 ⟨x, hx, rfl, rfl⟩
theorem There.look2 {W : World} {T : Nat} {xs : List Lz} (h : There W T xs) {k : Int × Int} (hk : okKey k) :
    ∃ (p : Int) (b : Bool), (Instr.lookup 65 (.map (some T)) (keyV k) true).run Try.prog W = .ok (.tuple #[.int .u64 p, .bool b]) W ∧ (b = true → ∃ x, x ∈ xs ∧ x.key = k ∧ x.2.2 = p) ∧ (b = false → k ∉ xs.map Lz.key) := by
  rcases h.look hk with ⟨x, hx, h1, hr⟩ | ⟨hno, hr⟩
  · exact ⟨_, _, hr, fun _ => ⟨x, hx, h1, rfl⟩, fun h => by cases h⟩
  · exact ⟨_, _, hr, fun h => by (cases h), fun _ => hno⟩
theorem OrdAt.out {W0 W W' : World} {r T : Nat} {s : St} {xs zs : List Lz} {now : Int} {i : Nat} (h : OrdAt W0 W r T s xs now i) (o : RowOut W W' r s zs) :
    ∃ s' ys, RowAt W' r s' ys ∧ ys.Perm zs ∧ (∀ k, s'.foot k → W0.heap.size ≤ k) ∧ ¬ s'.foot T ∧ There W' T xs ∧ Below W0.heap.size W0 W' ∧ ∀ b, b < W.heap.size → ¬ s.foot b → W'.heap[b]? = W.heap[b]? := by
  obtain ⟨off, s', ys, h1, h2, h3⟩ := o
  have hT := h.there.lt
  refine ⟨s', ys, h1, h2, fun i hi => (h3 i hi).elim (h.foot i) (Nat.le_trans h.b.size), fun hc => (h3 T hc).elim h.notT (fun h => by omega), h.there.congr (off.block T hT h.notT) (fun _ _ => Iff.rfl), ?_, fun b hb hf => off.block b hb hf⟩
  exact ⟨off.os.trans h.b.os, off.tape.trans h.b.tape, off.output.trans h.b.output, Nat.le_trans h.b.size off.size, fun i hi => (off.block i (Nat.lt_of_lt_of_le hi h.b.size) (fun hc => by have := h.foot i hc; omega)).trans (h.b.block i hi)⟩
theorem There.lenr {W : World} {T : Nat} {xs : List Lz} (h : There W T xs) : (Builtin.len_ #[65] 3 #[.map (some T)]).run Try.prog W = .ok (.int .i64 xs.length) W := by
  obtain ⟨es, cl, h1, h2⟩ := h.len
  simp [Builtin.len_, run_underlying Try.underlying65, MapKept.run_getObj_map h1, Result.andThen, h2, goInt]
theorem There.look_one {W : World} {T : Nat} {xs : List Lz} (h : There W T xs) {z : Lz} (hk : okKey z.key) (hz : z ∈ xs) (hn : (xs.map Lz.key).Nodup) :
    (Instr.lookup 65 (.map (some T)) (.agg #[.int .i64 z.1, .int .u32 z.2.1]) true).run Try.prog W = .ok (.tuple #[.int .u64 z.2.2, .bool true]) W := by
  rcases h.look hk with ⟨x, hx, h1, hr⟩ | ⟨hno, _⟩
  · obtain rfl := key_unique hn hx hz h1
    exact hr
  · exact absurd (List.mem_map.2 ⟨z, hz, rfl⟩) hno
/-- the state within a Take's loop -/
structure TakeIn (W0 W : World) (r T : Nat) (s : St) (rest out : List Lz) (v : Value) (B j : Nat) : Prop where
  row : RowAt W r s rest
  foot : ∀ k, s.foot k → W0.heap.size ≤ k
  notT : ¬ s.foot T
  newT : W0.heap.size ≤ T
  b : Below W0.heap.size W0 W
  there : There W T (out.drop j ++ rest)
  own : W.ownsRow B 55 3 v out.length (flat out)
  gt : T < B
theorem own_cells {W : World} {B n : Nat} {A : Option Addr} {c : Nat} {out : List Lz} {j : Nat} {x : Lz} (h : W.ownsRow B 55 3 (.slice A n c) out.length (flat out)) (hx : out[j]? = some x) :
    ∃ g, A = some ⟨g, 0, none⟩ ∧ W.cell? ⟨g, j * 3, none⟩ = some (.int .i64 x.1) ∧ W.cell? ⟨g, j * 3 + 1, none⟩ = some (.int .u32 x.2.1) ∧ W.cell? ⟨g, j * 3 + 2, none⟩ = some (.int .u64 x.2.2) := by
  have hi : j < out.length := (List.getElem?_eq_some_iff.1 hx).1
  rcases h.2 with ⟨hv, hn⟩ | ⟨g, cap, cur, hv, _, hg, hle, _, _, _⟩
  · omega
  · obtain ⟨a, b, d⟩ := flat_get out j x hx
    have ho := h
    rw [hv] at ho
    simp only [Value.slice.injEq] at hv
    refine ⟨g, hv.1, ?_, ?_, ?_⟩
    · rw [ho.cellAt (j * 3) (by omega)]; exact a
    · rw [ho.cellAt (j * 3 + 1) (by omega)]; exact b
    · rw [ho.cellAt (j * 3 + 2) (by omega)]; exact d
theorem TakeIn.below {W0 W W' : World} {r T : Nat} {s : St} {rest out : List Lz} {v : Value} {B j : Nat} (h : TakeIn W0 W r T s rest out v B j) (hb : Below W.heap.size W W') : TakeIn W0 W' r T s rest out v B j :=
  ⟨h.row.below hb, h.foot, h.notT, h.newT, below_then h.b h.b.size hb, h.there.congr (hb.block T h.there.lt) (fun _ _ => Iff.rfl), pw_own_below h.own hb, h.gt⟩
theorem row_setT {W : World} {r T : Nat} {s : St} {ys xs : List Lz} (h : RowAt W r s ys) (hm : There W T xs) (hn : ¬ s.foot T) (o : Obj) : RowAt (setBlock W T o) r s ys := by
  have hm' : MapIs W T .u64 (Till' xs) xs.length := hm
  obtain ⟨es, cl, hb⟩ := hm'.block
  refine h.move fun i hi hf => heap_setBlock_other hb o ?_
  rintro rfl
  rcases hf with hf | rfl
  · exact hn hf
  · exact absurd (h.row.symm.trans hb) (by simp)
theorem below_setT {W0 W : World} {T : Nat} {xs : List Lz} (h : Below W0.heap.size W0 W) (hm : There W T xs) (hT : W0.heap.size ≤ T) (o : Obj) : Below W0.heap.size W0 (setBlock W T o) := by
  have hm' : MapIs W T .u64 (Till' xs) xs.length := hm
  obtain ⟨es, cl, hb⟩ := hm'.block
  refine ⟨h.os, h.tape, h.output, by simp [setBlock]; exact h.size, fun i hi => (heap_setBlock_other hb o (by omega)).trans (h.block i hi)⟩
theorem TakeIn.setT {W0 W : World} {r T : Nat} {s : St} {rest out : List Lz} {v : Value} {B j : Nat} (h : TakeIn W0 W r T s rest out v B j) {o : Obj} (ht : There (setBlock W T o) T (out.drop (j + 1) ++ rest)) : TakeIn W0 (setBlock W T o) r T s rest out v B (j + 1) := by
  refine ⟨row_setT h.row h.there h.notT o, h.foot, h.notT, h.newT, below_setT h.b h.there h.newT o, ht, own_move h.own fun k hk => ?_, h.gt⟩
  have h' : MapIs W T .u64 (Till' (out.drop j ++ rest)) (out.drop j ++ rest).length := h.there
  obtain ⟨es, cl, hb⟩ := h'.block
  exact heap_setBlock_other hb o (by have := own_base h.own k hk; have := h.gt; omega)
theorem ahead_true {y z : Lz} (h : le y z) (hk : y.key ≠ z.key) : foyerlaw26_ahead.f y.1 y.2.1 y.2.2 z.1 z.2.1 z.2.2 = some true := by
  rw [le_iff] at h
  unfold foyerlaw26_ahead.f
  by_cases h1 : y.2.2 = z.2.2
  · rw [if_pos h1]
    by_cases h2 : y.1 < z.1
    · rw [if_pos h2]
    · rw [if_neg h2]
      by_cases h3 : y.1 = z.1
      · rw [if_pos h3]
        have : y.2.1 ≠ z.2.1 := fun e => hk (by unfold Lz.key; rw [h3, e])
        rw [decide_eq_true (by omega)]
      · omega
  · rw [if_neg h1, decide_eq_true (by omega)]
theorem OrdAt.setT {W0 W : World} {r T : Nat} {s : St} {xs ys : List Lz} {now : Int} {i : Nat} {o : Obj} (hr : RowAt W r s ys) (hm : There W T xs) (hf : ∀ k, s.foot k → W0.heap.size ≤ k) (hn : ¬ s.foot T) (hT : W0.heap.size ≤ T) (hb : Below W0.heap.size W0 W)
    {zs : List Lz} (ht : There (setBlock W T o) T zs) (hz : ys.Perm zs) (hl : zs.length ≤ i) (h0 : 0 ≤ now) (h1 : now ≤ 99 * i) : OrdAt W0 (setBlock W T o) r T s ys now i :=
  ⟨row_setT hr hm hn o, ht.of_perm hz, hf, hn, hT, below_setT hb hm hT o, by rw [hz.length_eq]; exact hl, h0, h1⟩
set_option maxHeartbeats 8000000
set_option maxRecDepth 100000
theorem order_calls (A : Option Addr) (c : Nat) (l : List Ac) (W : World) (hr : ActsAt W A l) (hc : l.length ≤ c) :
    Calls Try.prog 6 #[.slice A l.length c] W fun e w' => e = .returned (.bool true) ∧ Below W.heap.size W w' := by
  obtain ⟨n, hn⟩ : ∃ n, l.length = n := ⟨_, rfl⟩
  rw [hn] at hc ⊢
  have HR := Lib.hid hr
  have HN := Lib.hid hn
  clear hr hn
  go_enter Try.func6, Try.ntmps6
  go_wp2_with fail
  refine (works_calls).mono ?_
  rintro e w1 ⟨rfl, hb⟩
  have HB1 := Lib.hid hb
  clear hb
  go_wp2_with fail
  refine new_calls.mono ?_
  rintro e w2 ⟨r, s, rfl, hr, hf, hrb, hb⟩
  have HR2 := Lib.hid hr
  have HF2 := Lib.hid hf
  have HB2 := Lib.hid (below_then HB1.out HB1.out.size hb)
  clear hr hf hb
  go_wp2_with fail
  rw [made65]
  go_wp2_with fail
  obtain ⟨w3, hw3⟩ : ∃ w3, w2.alloc (.map #[] 0) = w3 := ⟨_, rfl⟩
  rw [hw3]
  have hb3 : Below w2.heap.size w2 w3 := by rw [← hw3]; exact below_alloc (Below.refl _ _) _
  have H3 := Lib.hid (show OrdAt W w3 r w2.heap.size s [] 0 0 from ⟨HR2.out.below hb3, by
    rw [← hw3]
    exact ⟨#[], 0, blk_new w2 _, stamped_empty 0, rfl, by simp, fun k p => ⟨fun ⟨x, hx, _⟩ => by simp at hx, fun ⟨e, he, _⟩ => by simp at he⟩⟩,
    fun k hk => Nat.le_trans HB1.out.size (HF2.out k hk), fun hc => by have := HR2.out.is.foot_lt _ hc; omega, HB2.out.size, below_then HB2.out HB2.out.size hb3, by simp, by omega, by omega⟩)
  obtain ⟨T, hT⟩ : ∃ T, w2.heap.size = T := ⟨_, rfl⟩
  rw [hT] at H3
  rw [hT]
  clear hw3 hb3 hT HR2 HF2 HB2
  go_loopw [5, 6] (fun v5 v6 wr => ∃ (i : Nat) (now : Int) (s : St) (xs : List Lz), v5 = .int .u64 now ∧ v6 = .int .i64 i ∧ i ≤ n ∧ i ≤ 200 ∧ Hid (OrdAt W wr r T s xs now i)) (fun _ v6 _ => n - (intOf v6).toNat)
  case atStart => exact ⟨0, 0, s, [], rfl, rfl, Nat.zero_le _, by omega, H3⟩
  case round =>
    clear H3
    obtain ⟨i, now, s, xs, rfl, rfl, hi, hi2, HO⟩ := hrel
    by_cases hlt : i < n ∧ i < 200
    · obtain ⟨x, hx⟩ : ∃ x, l[i]? = some x := ⟨_, List.getElem?_eq_getElem (by rw [HN.out]; exact hlt.1)⟩
      obtain ⟨hok, ad, ea, x0, x1, x2, x3⟩ := (HR.out.below HO.out.b) i x hx
      subst ea
      have p0 : (0 : Int) ≤ (i : Int) := by omega
      have q0 : (i : Int) < (n : Int) := by omega
      have q1 : (i : Int) < 200 := by omega
      have q2 : decide ((i : Int) < (n : Int)) = true := decide_eq_true q0
      have q3 : decide ((i : Int) < 200) = true := decide_eq_true q1
      have HX := Lib.hid hx
      have HOK := Lib.hid hok
      clear hx hok
      go_wp2_with fail
      obtain ⟨k1, hk1⟩ : ∃ k1, wrap64 (x.2.1.tmod 4) = k1 := ⟨_, rfl⟩
      obtain ⟨k2, hk2⟩ : ∃ k2, x.2.2.1.tmod 40 = k2 := ⟨_, rfl⟩
      have hke : okKey (k1, k2) := by
        have w1 := HOK.out.2.1
        have w2 := HOK.out.2.2.1
        simp [Lit.wf, IntKind.min, IntKind.max, IntKind.signed, IntKind.bits] at w1 w2
        refine ⟨?_, ?_⟩
        · simp [Lit.wf, IntKind.min, IntKind.max, IntKind.signed, IntKind.bits]; unfold wrap64 at hk1; omega
        · rw [Int.tmod_eq_emod_of_nonneg w2.1] at hk2
          simp [Lit.wf, IntKind.min, IntKind.max, IntKind.signed, IntKind.bits]; omega
      rw [hk1, hk2]
      obtain ⟨w4, hw4⟩ : ∃ w4, (wr.alloc (.cells #[.int .u8 x.1, .int .i8 x.2.1, .int .u32 x.2.2.1, .int .u64 x.2.2.2] 48)).alloc (.cells #[.int .i64 k1, .int .u32 k2] 67) = w4 := ⟨_, rfl⟩
      rw [hw4]
      have hb4 : Below wr.heap.size wr w4 := by rw [← hw4]; exact below_alloc (below_alloc (Below.refl _ _) _) _
      have HX4 := Lib.hid (show w4.heap[wr.heap.size]? = some (.cells #[.int .u8 x.1, .int .i8 x.2.1, .int .u32 x.2.2.1, .int .u64 x.2.2.2] 48 (0, 0)) by rw [← hw4]; exact blk_alloc (blk_new wr _) _)
      have HK4 := Lib.hid (show w4.heap[wr.heap.size + 1]? = some (.cells #[.int .i64 k1, .int .u32 k2] 67 (0, 0)) by rw [← hw4]; simpa using blk_new (wr.alloc _) _)
      have HO4 := Lib.hid (HO.out.below hb4)
      clear hw4 hb4 x0 x1 x2 x3
      obtain ⟨p, b, hlr, hb1, hb0⟩ := HO4.out.there.look2 hke
      simp only [keyV] at hlr
      have HKE := Lib.hid hke
      have HB1' := Lib.hid hb1
      have HB0 := Lib.hid hb0
      clear hke hb1 hb0
      rw [hlr]
      clear hlr
      obtain ⟨P7, hP7⟩ : ∃ P7, wr.heap.size = P7 := ⟨_, rfl⟩
      obtain ⟨P8, hP8⟩ : ∃ P8, wr.heap.size + 1 = P8 := ⟨_, rfl⟩
      rw [hP7] at HX4
      rw [hP8] at HK4
      rw [hP8, hP7]
      clear hP7 hP8
      have y0 : w4.cell? ⟨P7, 0, none⟩ = some (.int .u8 x.1) := cell_of_row _ _ 0 _ _ _ HX4.out
      have y3 : w4.cell? ⟨P7, 3, none⟩ = some (.int .u64 x.2.2.2) := cell_of_row _ _ 3 _ _ _ HX4.out
      have z0 : w4.cell? ⟨P8, 0, none⟩ = some (.int .i64 k1) := cell_of_row _ _ 0 _ _ _ HK4.out
      have z1 : w4.cell? ⟨P8, 1, none⟩ = some (.int .u32 k2) := cell_of_row _ _ 1 _ _ _ HK4.out
      have HNF8 := Lib.hid (show ¬ s.foot P8 from HO4.out.row.is.foot_ne HK4.out (by decide) (by decide))
      have HNF7 := Lib.hid (show ¬ s.foot P7 from HO4.out.row.is.foot_ne HX4.out (by decide) (by decide))
      by_cases h3 : x.1.tmod 5 = 3
      · go_wp2_with fail
        have hlen : xs.length ≤ 1000 := by have := HO4.out.len; omega
        refine (drop_calls HO4.out.row hlen HKE.out).mono ?_
        rintro e w5 (⟨hno, rfl, ho⟩ | ⟨z, hz, hzk, rfl, ho⟩)
        · obtain rfl : b = false := by
            cases b with
            | false => rfl
            | true =>
              obtain ⟨y, hy, hyk, _⟩ := HB1'.out rfl
              exact absurd (List.mem_map.2 ⟨y, hy, hyk⟩) hno
          have HNO := Lib.hid hno
          have HOUT := Lib.hid ho
          clear hno ho
          obtain ⟨s5, ys, hr5, hp5, hf5, hnt5, ht5, hb5, hk5⟩ := HO4.out.out HOUT.out
          have HK5 := Lib.hid ((hk5 P8 (blk_lt HK4.out) HNF8.out).trans HK4.out)
          have z0 : w5.cell? ⟨P8, 0, none⟩ = some (.int .i64 k1) := cell_of_row _ _ 0 _ _ _ HK5.out
          have z1 : w5.cell? ⟨P8, 1, none⟩ = some (.int .u32 k2) := cell_of_row _ _ 1 _ _ _ HK5.out
          obtain ⟨o, hdel, hdt⟩ := ht5.del_none HKE.out HNO.out 0
          have HO6 := Lib.hid (show OrdAt W (setBlock w5 T o) r T s5 ys now (i + 1) from OrdAt.setT hr5 ht5 hf5 hnt5 HO4.out.newT hb5 hdt hp5 (by have := HO4.out.len; omega) HO4.out.now0 (by have := HO4.out.now1; omega))
          clear hr5 hp5 hf5 hnt5 ht5 hb5 hk5 hdt y0 y3
          simp only [keyV] at hdel
          go_wp2_with fail
          obtain ⟨w6, hw6⟩ : ∃ w6, setBlock w5 T o = w6 := ⟨_, rfl⟩
          rw [hw6] at HO6
          rw [hw6]
          clear hw6
          refine (rlen_calls HO6.out.row (by have := HO6.out.len; omega)).mono ?_
          rintro e w7 ⟨rfl, hb⟩
          have HO7 := Lib.hid (HO6.out.below hb)
          clear hb HO6
          have hlr := HO7.out.there.lenr
          go_wp2_with fail
          go_roundw
          case rel => exact ⟨i + 1, now, s5, ys, rfl, by go_num, by omega, by omega, HO7⟩
          case measure => simp [intOf]; omega
        · obtain rfl : b = true := by
            cases b with
            | true => rfl
            | false => exact absurd (List.mem_map.2 ⟨z, hz, hzk⟩) (HB0.out rfl)
          have HZ := Lib.hid hz
          have HZK := Lib.hid hzk
          have HOUT := Lib.hid ho
          clear hz hzk ho
          obtain ⟨s5, ys, hr5, hp5, hf5, hnt5, ht5, hb5, hk5⟩ := HO4.out.out HOUT.out
          have HK5 := Lib.hid ((hk5 P8 (blk_lt HK4.out) HNF8.out).trans HK4.out)
          have z0 : w5.cell? ⟨P8, 0, none⟩ = some (.int .i64 k1) := cell_of_row _ _ 0 _ _ _ HK5.out
          have z1 : w5.cell? ⟨P8, 1, none⟩ = some (.int .u32 k2) := cell_of_row _ _ 1 _ _ _ HK5.out
          obtain ⟨o, hdel, hdt⟩ := ht5.del_one (HZK.out ▸ HKE.out) HZ.out HO4.out.row.is.keys 0
          have HO6 := Lib.hid (show OrdAt W (setBlock w5 T o) r T s5 ys now (i + 1) from OrdAt.setT hr5 ht5 hf5 hnt5 HO4.out.newT hb5 hdt hp5 (by have := HO4.out.len; have := List.length_erase_le (a := z) (l := xs); omega) HO4.out.now0 (by have := HO4.out.now1; omega))
          clear hr5 hp5 hf5 hnt5 ht5 hb5 hk5 hdt y0 y3
          rw [HZK.out] at hdel
          simp only [keyV] at hdel
          go_wp2_with fail
          obtain ⟨w6, hw6⟩ : ∃ w6, setBlock w5 T o = w6 := ⟨_, rfl⟩
          rw [hw6] at HO6
          rw [hw6]
          clear hw6
          refine (rlen_calls HO6.out.row (by have := HO6.out.len; omega)).mono ?_
          rintro e w7 ⟨rfl, hb⟩
          have HO7 := Lib.hid (HO6.out.below hb)
          clear hb HO6
          have hlr := HO7.out.there.lenr
          go_wp2_with fail
          go_roundw
          case rel => exact ⟨i + 1, now, s5, ys, rfl, by go_num, by omega, by omega, HO7⟩
          case measure => simp [intOf]; omega
      · by_cases h4 : x.1.tmod 5 = 4
        · have g3 : (x.1.tmod 5 == 3) = false := beq_eq_false_iff_ne.2 h3
          have g4 : (x.1.tmod 5 == 4) = true := beq_iff_eq.2 h4
          clear h3 h4
          have t9 : 0 ≤ x.2.2.2 := by
            have w4 := HOK.out.2.2.2
            simp [Lit.wf, IntKind.min, IntKind.max, IntKind.signed, IntKind.bits] at w4
            exact w4.1
          obtain ⟨tq, htq⟩ : ∃ tq, x.2.2.2.tmod 100 = tq := ⟨_, rfl⟩
          have t0 : 0 ≤ tq := by rw [Int.tmod_eq_emod_of_nonneg t9] at htq; omega
          have t1 : tq < 100 := by rw [Int.tmod_eq_emod_of_nonneg t9] at htq; omega
          have n0 : 0 ≤ now := HO4.out.now0
          have n1 : now ≤ 20000 := by have := HO4.out.now1; omega
          have htq2 : x.2.2.2 % 100 = tq := by rw [← Int.tmod_eq_emod_of_nonneg t9]; exact htq
          go_wp2_with fail
          obtain ⟨nw, hnw⟩ : ∃ nw, now + tq = nw := ⟨_, rfl⟩
          rw [hnw]
          have m0 : 0 ≤ nw := by omega
          have HM1 := Lib.hid (show nw ≤ 99 * ((i + 1 : Nat) : Int) by have := HO4.out.now1; omega)
          have hlen : xs.length ≤ 1000 := by have := HO4.out.len; omega
          clear hnw htq htq2 t0 t1 t9 n0 n1 y0 y3 z0 z1
          refine (take_calls HO4.out.row hlen nw).mono ?_
          rintro e w5 ⟨v, rfl, out, rest, ht⟩
          obtain ⟨A, cp, rfl⟩ := own_slice ht.own
          have HT := Lib.hid ht
          clear ht
          have HOL := Lib.hid (show out.length + rest.length = xs.length by have := HT.out.took.perm.length_eq; rwa [List.length_append] at this)
          have HIN : ∃ s5, TakeIn W w5 r T s5 rest out (.slice A out.length cp) w4.heap.size 0 := by
            obtain ⟨s5, h1, h2, h3⟩ := HT.out.here
            have hT4 := HO4.out.there.lt
            refine ⟨s5, h1, fun k hk => (h2 k hk).elim (HO4.out.foot k) (Nat.le_trans HO4.out.b.size), fun hc => (h2 T hc).elim HO4.out.notT (fun h => by omega), HO4.out.newT, ?_, ?_, HT.out.own, hT4⟩
            · have off := HT.out.off
              exact ⟨off.os.trans HO4.out.b.os, off.tape.trans HO4.out.b.tape, off.output.trans HO4.out.b.output, Nat.le_trans HO4.out.b.size off.size, fun i hi => (off.block i (Nat.lt_of_lt_of_le hi HO4.out.b.size) (fun hc => by have := HO4.out.foot i hc; omega)).trans (HO4.out.b.block i hi)⟩
            · have h4 : There w5 T xs := HO4.out.there.congr (HT.out.off.block T hT4 HO4.out.notT) (fun _ _ => Iff.rfl)
              simpa using h4.of_perm HT.out.took.perm
          obtain ⟨s5, hin⟩ := HIN
          have HIN := Lib.hid hin
          clear hin
          have HKN := Lib.hid (show ((out ++ rest).map Lz.key).Nodup from (HT.out.took.perm.map Lz.key).nodup_iff.2 HO4.out.row.is.keys)
          have HOKS := Lib.hid (show ∀ x ∈ out ++ rest, okLz x from fun x hx => HO4.out.row.is.okays x (HT.out.took.perm.mem_iff.1 hx))
          obtain ⟨B4, hB4⟩ : ∃ B4, w4.heap.size = B4 := ⟨_, rfl⟩
          rw [hB4] at HIN
          have HOV := Lib.hid HT.out.took.over
          have HSO := Lib.hid HT.out.took.sorted
          have HDN := Lib.hid HT.out.done
          have HLN := Lib.hid HO4.out.len
          clear hB4 HT HX4 HK4 HO4 HB1' HB0 HNF7 HNF8 HKE HO
          have hol : out.length ≤ 1000 := by have := HOL.out; omega
          go_wp2_with fail
          obtain ⟨wo, hwo⟩ : ∃ wo : World, wo = wr := ⟨_, rfl⟩
          clear hwo
          go_loopw [12] (fun v12 wx => ∃ j : Nat, v12 = .int .i64 j ∧ j ≤ out.length ∧ Hid (TakeIn W wx r T s5 rest out (.slice A out.length cp) B4 j)) (fun v12 _ => out.length - (intOf v12).toNat)
          case atStart => exact ⟨0, rfl, Nat.zero_le _, HIN⟩
          case round =>
            clear HIN
            obtain ⟨j, rfl, hj, HI⟩ := hrel
            by_cases hjl : j < out.length
            · obtain ⟨z, hz⟩ : ∃ z, out[j]? = some z := ⟨_, List.getElem?_eq_getElem hjl⟩
              obtain ⟨g, hA, c0, c1, c2⟩ := own_cells HI.out.own hz
              subst hA
              have HZ := Lib.hid hz
              clear hz
              have r0 : (0 : Int) ≤ (j : Int) := by omega
              have r1 : (j : Int) < (out.length : Int) := by omega
              have r2 : decide ((j : Int) < (out.length : Int)) = true := decide_eq_true r1
              have hzm : z ∈ out.drop j := List.mem_of_getElem? (i := 0) (by rw [List.getElem?_drop]; exact HZ.out)
              have hsub : (out.drop j ++ rest).Sublist (out ++ rest) := (List.drop_sublist j out).append_right rest
              have hkz : okKey z.key := by
                have := HOKS.out z (hsub.subset (List.mem_append_left _ hzm))
                exact ⟨this.1, this.2.1⟩
              have HKZ := Lib.hid hkz
              have HZM := Lib.hid hzm
              have HND := Lib.hid (show ((out.drop j ++ rest).map Lz.key).Nodup from HKN.out.sublist (hsub.map _))
              clear hkz hzm hsub
              have EN : ∀ w, (fun W' => W'.cell? ⟨g, j * 3, none⟩ = some (.int .i64 z.1) ∧ W'.cell? ⟨g, j * 3 + 1, none⟩ = some (.int .u32 z.2.1) ∧ W'.cell? ⟨g, j * 3 + 2, none⟩ = some (.int .u64 z.2.2) ∧ Hid (TakeIn W W' r T s5 rest out (.slice (some ⟨g, 0, none⟩) out.length cp) B4 j)) w →
                  (Instr.lookup 65 (.map (some T)) (.agg #[.int .i64 z.1, .int .u32 z.2.1]) true).run Try.prog w = .ok (.tuple #[.int .u64 z.2.2, .bool true]) w :=
                fun w h => h.2.2.2.out.there.look_one HKZ.out (List.mem_append_left _ HZM.out) HND.out
              have KB : ∀ w w', Below w.heap.size w w' → (fun W' => W'.cell? ⟨g, j * 3, none⟩ = some (.int .i64 z.1) ∧ W'.cell? ⟨g, j * 3 + 1, none⟩ = some (.int .u32 z.2.1) ∧ W'.cell? ⟨g, j * 3 + 2, none⟩ = some (.int .u64 z.2.2) ∧ Hid (TakeIn W W' r T s5 rest out (.slice (some ⟨g, 0, none⟩) out.length cp) B4 j)) w → (fun W' => W'.cell? ⟨g, j * 3, none⟩ = some (.int .i64 z.1) ∧ W'.cell? ⟨g, j * 3 + 1, none⟩ = some (.int .u32 z.2.1) ∧ W'.cell? ⟨g, j * 3 + 2, none⟩ = some (.int .u64 z.2.2) ∧ Hid (TakeIn W W' r T s5 rest out (.slice (some ⟨g, 0, none⟩) out.length cp) B4 j)) w' := by
                rintro w w' hb ⟨a1, a2, a3, a4⟩
                exact ⟨pw_cell_below hb a1, pw_cell_below hb a2, pw_cell_below hb a3, Lib.hid (a4.out.below hb)⟩
              have SH := KB wr wr.drew (Below.drew (Below.refl _ _)) ⟨c0, c1, c2, HI⟩
              go_wp2_with fail
              clear c0 c1 c2
              go_region_held3 (fun W' => W'.cell? ⟨g, j * 3, none⟩ = some (.int .i64 z.1) ∧ W'.cell? ⟨g, j * 3 + 1, none⟩ = some (.int .u32 z.2.1) ∧ W'.cell? ⟨g, j * 3 + 2, none⟩ = some (.int .u64 z.2.2) ∧ Hid (TakeIn W W' r T s5 rest out (.slice (some ⟨g, 0, none⟩) out.length cp) B4 j)) (first | assumption | exact KB _ _ (by assumption) (by assumption))
                ((have hr1 := EN _ (by assumption); rw [hr1]))
              clear SH KB EN
              rename_i hHeld
              obtain ⟨w6, hw6⟩ : ∃ w6, wr.drew = w6 := ⟨_, rfl⟩
              rw [hw6] at hHeld
              rw [hw6]
              clear hw6
              obtain ⟨c0, c1, c2, HI6⟩ := hHeld
              have hzo : z ∈ out := List.mem_of_getElem? HZ.out
              have b1 : (z.2.2 != z.2.2) = false := bne_self_eq_false _
              have b2 : decide (nw < z.2.2) = false := decide_eq_false (by have := HOV.out z hzo; omega)
              clear hzo
              by_cases hj0 : j = 0
              · have b3 : decide ((0 : Int) < (j : Int)) = false := decide_eq_false (by omega)
                have b4 : decide (0 < j) = false := decide_eq_false (by omega)
                have HJ0 := Lib.hid hj0
                clear hj0
                go_wp2_with fail
                go_quiet (fail)
                generalize hw7 : World.drewN w6 _ = w7
                have hb7 : Below w6.heap.size w6 w7 := by rw [← hw7]; exact pw_below_drewN (Below.refl _ _) _
                clear hw7
                have e0 := pw_cell_below hb7 c0
                have e1 := pw_cell_below hb7 c1
                have HI7 := Lib.hid (HI6.out.below hb7)
                clear hb7 c0 c1 c2 HI6 b1 b2 b3 b4
                go_wp2_with fail
                go_still_tail 12, (by kernel_rfl)
                change wpList _ _ _ _ _ (World.drew _)
                generalize hw8 : World.drew _ = w8
                have hb8 : Below w7.heap.size w7 w8 := by rw [← hw8]; exact Below.drew (Below.refl _ _)
                have HI8 := Lib.hid (HI7.out.below hb8)
                clear hw8 hb8 e0 e1
                obtain ⟨o, hdel, hdt⟩ := HI8.out.there.del_one HKZ.out (List.mem_append_left _ HZM.out) HND.out 0
                have HI9 := Lib.hid (HI8.out.setT (o := o) (by
                  have e : out.drop j = z :: out.drop (j + 1) := by
                    rw [List.drop_eq_getElem_cons hjl, (List.getElem?_eq_some_iff.1 HZ.out).2]
                  rw [e, List.cons_append, List.erase_cons_head] at hdt
                  exact hdt))
                clear hdt
                simp only [keyV, Lz.key] at hdel
                go_wp2_with fail
                go_roundw
                case rel => exact ⟨j + 1, by go_num, by omega, HI9⟩
                case measure => simp [intOf]; omega
              · obtain ⟨jm, hjm⟩ : ∃ jm, j = jm + 1 := ⟨j - 1, by omega⟩
                obtain ⟨y, hy⟩ : ∃ y, out[jm]? = some y := ⟨_, List.getElem?_eq_getElem (by omega)⟩
                obtain ⟨g', hA, d0, d1, d2⟩ := own_cells HI6.out.own hy
                obtain rfl : g = g' := by simpa using hA
                clear hA
                have HAH := Lib.hid (show foyerlaw26_ahead.f y.1 y.2.1 y.2.2 z.1 z.2.1 z.2.2 = some true from by
                  have hlt : jm < j := by omega
                  have h1 := (List.pairwise_iff_getElem.1 HSO.out) jm j (by omega) hjl hlt
                  rw [(List.getElem?_eq_some_iff.1 hy).2, (List.getElem?_eq_some_iff.1 HZ.out).2] at h1
                  refine ahead_true h1 fun e => ?_
                  have hp := List.nodup_iff_pairwise_ne.1 HKN.out
                  rw [List.pairwise_map, List.pairwise_append] at hp
                  have h2 := (List.pairwise_iff_getElem.1 hp.1) jm j (by omega) hjl hlt
                  rw [(List.getElem?_eq_some_iff.1 hy).2, (List.getElem?_eq_some_iff.1 HZ.out).2] at h2
                  exact h2 e)
                have b3 : decide ((0 : Int) < (j : Int)) = true := decide_eq_true (by omega)
                have b4 : decide (0 < j) = true := decide_eq_true (by omega)
                have s0 : IntKind.i64.wrap ((j : Int) - 1) = (jm : Int) := by rw [IntWalk.i64_in _ (by omega)]; omega
                have s1 : (0 : Int) ≤ (jm : Int) := by omega
                have s2 : (jm : Int) < (out.length : Int) := by omega
                clear hjm hj0 hy
                have KB : ∀ w w', Below w.heap.size w w' → (fun W' => W'.cell? ⟨g, jm * 3, none⟩ = some (.int .i64 y.1) ∧ W'.cell? ⟨g, jm * 3 + 1, none⟩ = some (.int .u32 y.2.1) ∧ W'.cell? ⟨g, jm * 3 + 2, none⟩ = some (.int .u64 y.2.2) ∧ W'.cell? ⟨g, j * 3, none⟩ = some (.int .i64 z.1) ∧ W'.cell? ⟨g, j * 3 + 1, none⟩ = some (.int .u32 z.2.1) ∧ W'.cell? ⟨g, j * 3 + 2, none⟩ = some (.int .u64 z.2.2) ∧ Hid (TakeIn W W' r T s5 rest out (.slice (some ⟨g, 0, none⟩) out.length cp) B4 j)) w → (fun W' => W'.cell? ⟨g, jm * 3, none⟩ = some (.int .i64 y.1) ∧ W'.cell? ⟨g, jm * 3 + 1, none⟩ = some (.int .u32 y.2.1) ∧ W'.cell? ⟨g, jm * 3 + 2, none⟩ = some (.int .u64 y.2.2) ∧ W'.cell? ⟨g, j * 3, none⟩ = some (.int .i64 z.1) ∧ W'.cell? ⟨g, j * 3 + 1, none⟩ = some (.int .u32 z.2.1) ∧ W'.cell? ⟨g, j * 3 + 2, none⟩ = some (.int .u64 z.2.2) ∧ Hid (TakeIn W W' r T s5 rest out (.slice (some ⟨g, 0, none⟩) out.length cp) B4 j)) w' := by
                  rintro w w' hb ⟨a1, a2, a3, a4, a5, a6, a7⟩
                  exact ⟨pw_cell_below hb a1, pw_cell_below hb a2, pw_cell_below hb a3, pw_cell_below hb a4, pw_cell_below hb a5, pw_cell_below hb a6, Lib.hid (a7.out.below hb)⟩
                have SH := KB w6 w6.drew (Below.drew (Below.refl _ _)) ⟨d0, d1, d2, c0, c1, c2, HI6⟩
                go_wp2_with fail
                clear c0 c1 c2 d0 d1 d2
                go_region_held3 (fun W' => W'.cell? ⟨g, jm * 3, none⟩ = some (.int .i64 y.1) ∧ W'.cell? ⟨g, jm * 3 + 1, none⟩ = some (.int .u32 y.2.1) ∧ W'.cell? ⟨g, jm * 3 + 2, none⟩ = some (.int .u64 y.2.2) ∧ W'.cell? ⟨g, j * 3, none⟩ = some (.int .i64 z.1) ∧ W'.cell? ⟨g, j * 3 + 1, none⟩ = some (.int .u32 z.2.1) ∧ W'.cell? ⟨g, j * 3 + 2, none⟩ = some (.int .u64 z.2.2) ∧ Hid (TakeIn W W' r T s5 rest out (.slice (some ⟨g, 0, none⟩) out.length cp) B4 j)) (first | assumption | exact KB _ _ (by assumption) (by assumption))
                  ((go_at_call 27; refine (foyerlaw26_ahead.calls y.1 y.2.1 y.2.2 z.1 z.2.1 z.2.2 true _ HAH.out).mono ?_; rintro e w' ⟨rfl, hd⟩))
                clear SH KB
                rename_i hHeld
                obtain ⟨_, _, _, c0, c1, c2, HI7⟩ := hHeld
                go_wp2_with fail
                go_still_tail 12, (by kernel_rfl)
                change wpList _ _ _ _ _ (World.drew _)
                generalize hw8 : World.drew _ = w8
                have hb8 : Below w'.heap.size w' w8 := by rw [← hw8]; exact Below.drew (Below.refl _ _)
                have HI8 := Lib.hid (HI7.out.below hb8)
                clear hw8 hb8 c0 c1
                obtain ⟨o, hdel, hdt⟩ := HI8.out.there.del_one HKZ.out (List.mem_append_left _ HZM.out) HND.out 0
                have HI9 := Lib.hid (HI8.out.setT (o := o) (by
                  have e : out.drop j = z :: out.drop (j + 1) := by
                    rw [List.drop_eq_getElem_cons hjl, (List.getElem?_eq_some_iff.1 HZ.out).2]
                  rw [e, List.cons_append, List.erase_cons_head] at hdt
                  exact hdt))
                clear hdt
                simp only [keyV, Lz.key] at hdel
                go_wp2_with fail
                go_roundw
                case rel => exact ⟨j + 1, by go_num, by omega, HI9⟩
                case measure => simp [intOf]; omega
            · obtain rfl : j = out.length := by omega
              have HO5 := Lib.hid (show OrdAt W wr r T s5 rest nw (i + 1) from ⟨HI.out.row, by simpa using HI.out.there, HI.out.foot, HI.out.notT, HI.out.newT, HI.out.b, by have := HOL.out; have := HLN.out; omega, m0, HM1.out⟩)
              clear HI
              have d0 : decide ((out.length : Int) < (out.length : Int)) = false := by simp
              have hrl : rest.length ≤ 1000 := by have := HOL.out; omega
              go_wp2_with fail
              refine (first_calls HO5.out.row hrl).mono ?_
              rintro e w6 ⟨rfl, hb⟩
              unfold Lz.val
              have HO6 := Lib.hid ((HO5.out.below hb).below (below_alloc (Below.refl _ w6) (.cells #[.int .i64 (ix rest 0).1, .int .u32 (ix rest 0).2.1, .int .u64 (ix rest 0).2.2] 55)))
              clear hb HO5
              have hlr := HO6.out.there.lenr
              by_cases h0 : 0 < rest.length
              · have d1 : decide (0 < rest.length) = true := decide_eq_true h0
                have d2 : decide ((0 : Int) < (rest.length : Int)) = true := decide_eq_true (by omega)
                have d3 : decide ((ix rest 0).2.2 ≤ nw) = false := decide_eq_false (by
                  have := HDN.out _ (List.mem_of_getElem? (ix_some h0))
                  omega)
                rw [d1]
                clear h0
                go_wp2_with fail
                refine (rlen_calls HO6.out.row hrl).mono ?_
                rintro e w7 ⟨rfl, hb⟩
                have HO7 := Lib.hid (HO6.out.below hb)
                clear hb HO6 hlr
                have hlr := HO7.out.there.lenr
                go_wp2_with fail
                go_roundw
                case rel => exact ⟨i + 1, nw, s5, rest, rfl, by go_num, by omega, by omega, HO7⟩
                case measure => simp [intOf]; omega
              · have d1 : decide (0 < rest.length) = false := decide_eq_false h0
                have d2 : decide ((0 : Int) < (rest.length : Int)) = false := decide_eq_false (by omega)
                rw [d1]
                clear h0
                go_wp2_with fail
                refine (rlen_calls HO6.out.row hrl).mono ?_
                rintro e w7 ⟨rfl, hb⟩
                have HO7 := Lib.hid (HO6.out.below hb)
                clear hb HO6 hlr
                have hlr := HO7.out.there.lenr
                go_wp2_with fail
                go_roundw
                case rel => exact ⟨i + 1, nw, s5, rest, rfl, by go_num, by omega, by omega, HO7⟩
                case measure => simp [intOf]; omega
        · have g3 : (x.1.tmod 5 == 3) = false := beq_eq_false_iff_ne.2 h3
          have g4 : (x.1.tmod 5 == 4) = false := beq_eq_false_iff_ne.2 h4
          have t9 : 0 ≤ x.2.2.2 := by
            have w4 := HOK.out.2.2.2
            simp [Lit.wf, IntKind.min, IntKind.max, IntKind.signed, IntKind.bits] at w4
            exact w4.1
          obtain ⟨tq, htq⟩ : ∃ tq, x.2.2.2.tmod 200 = tq := ⟨_, rfl⟩
          have t0 : 0 ≤ tq := by rw [Int.tmod_eq_emod_of_nonneg t9] at htq; omega
          have t1 : tq < 200 := by rw [Int.tmod_eq_emod_of_nonneg t9] at htq; omega
          have n0 : 0 ≤ now := HO4.out.now0
          have n1 : now ≤ 20000 := by have := HO4.out.now1; omega
          have htq2 : x.2.2.2 % 200 = tq := by rw [← Int.tmod_eq_emod_of_nonneg t9]; exact htq
          go_wp2_with fail
          have hlen : xs.length < 1000 := by have := HO4.out.len; omega
          have hok : okLz (k1, k2, now + 1 + tq) := ⟨HKE.out.1, HKE.out.2, by simp [Lit.wf, IntKind.min, IntKind.max, IntKind.signed, IntKind.bits]; omega⟩
          have hadd := add_calls HO4.out.row hlen hok
          simp only [Lz.val, Lz.key] at hadd
          refine hadd.mono ?_
          clear hadd
          rintro e w5 (⟨hin, rfl, ho⟩ | ⟨hno, rfl, ho⟩)
          · obtain rfl : b = true := by
              cases b with
              | true => rfl
              | false => exact absurd hin (HB0.out rfl)
            have HOUT := Lib.hid ho
            clear hin ho
            obtain ⟨s5, ys, hr5, hp5, hf5, hnt5, ht5, hb5, hk5⟩ := HO4.out.out HOUT.out
            have HO6 := Lib.hid (show OrdAt W w5 r T s5 ys now (i + 1) from ⟨hr5, ht5.of_perm hp5, hf5, hnt5, HO4.out.newT, hb5, by rw [hp5.length_eq]; have := HO4.out.len; omega, n0, by have := HO4.out.now1; omega⟩)
            clear hr5 hp5 hf5 hnt5 ht5 hb5 hk5 y0 y3
            go_wp2_with fail
            refine (rlen_calls HO6.out.row (by have := HO6.out.len; omega)).mono ?_
            rintro e w7 ⟨rfl, hb⟩
            have HO7 := Lib.hid (HO6.out.below hb)
            clear hb HO6
            have hlr := HO7.out.there.lenr
            go_wp2_with fail
            go_roundw
            case rel => exact ⟨i + 1, now, s5, ys, rfl, by go_num, by omega, by omega, HO7⟩
            case measure => simp [intOf]; omega
          · obtain rfl : b = false := by
              cases b with
              | false => rfl
              | true =>
                obtain ⟨y, hy, hyk, _⟩ := HB1'.out rfl
                exact absurd (List.mem_map.2 ⟨y, hy, hyk⟩) hno
            have HNO := Lib.hid hno
            have HOUT := Lib.hid ho
            clear hno ho
            obtain ⟨s5, ys, hr5, hp5, hf5, hnt5, ht5, hb5, hk5⟩ := HO4.out.out HOUT.out
            have HK5 := Lib.hid ((hk5 P8 (blk_lt HK4.out) HNF8.out).trans HK4.out)
            have z0 : w5.cell? ⟨P8, 0, none⟩ = some (.int .i64 k1) := cell_of_row _ _ 0 _ _ _ HK5.out
            have z1 : w5.cell? ⟨P8, 1, none⟩ = some (.int .u32 k2) := cell_of_row _ _ 1 _ _ _ HK5.out
            obtain ⟨o, hput, hdt⟩ := ht5.put (x := (k1, k2, now + 1 + tq)) HKE.out HNO.out
            have HO6 := Lib.hid (show OrdAt W (setBlock w5 T o) r T s5 ys now (i + 1) from OrdAt.setT hr5 ht5 hf5 hnt5 HO4.out.newT hb5 hdt hp5 (by rw [List.length_append, List.length_singleton]; have := HO4.out.len; omega) n0 (by have := HO4.out.now1; omega))
            clear hr5 hp5 hf5 hnt5 ht5 hb5 hk5 hdt y0 y3
            simp only [keyV, Lz.key] at hput
            go_wp2_with fail
            obtain ⟨w6, hw6⟩ : ∃ w6, setBlock w5 T o = w6 := ⟨_, rfl⟩
            rw [hw6] at HO6
            rw [hw6]
            clear hw6
            refine (rlen_calls HO6.out.row (by have := HO6.out.len; omega)).mono ?_
            rintro e w7 ⟨rfl, hb⟩
            have HO7 := Lib.hid (HO6.out.below hb)
            clear hb HO6
            have hlr := HO7.out.there.lenr
            go_wp2_with fail
            go_roundw
            case rel => exact ⟨i + 1, now, s5, ys, rfl, by go_num, by omega, by omega, HO7⟩
            case measure => simp [intOf]; omega
    · have q2 : (decide ((i : Int) < (n : Int)) && decide ((i : Int) < 200)) = false := by
        rw [Bool.and_eq_false_iff, decide_eq_false_iff_not, decide_eq_false_iff_not]; omega
      by_cases h1 : i < n
      · have q3 : decide ((i : Int) < (n : Int)) = true := decide_eq_true (by omega)
        have q4 : decide ((i : Int) < 200) = false := decide_eq_false (by omega)
        clear q2
        go_wp2_with fail
        go_ret
        exact ⟨rfl, HO.out.b⟩
      · have q3 : decide ((i : Int) < (n : Int)) = false := decide_eq_false (by omega)
        clear q2
        go_wp2_with fail
        go_ret
        exact ⟨rfl, HO.out.b⟩
end Go.Proofs.Ytfkbiecbnjddmaa
