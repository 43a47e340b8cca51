/- hall.Seats: all seats of a hall, in order. (Printed by gen_seats.py.) -/
import Derived.Test.YteojldbfebnccaaRHas
namespace Go.Proofs.Yteojldbfebnccaa
open Go.RowKit Go.Proofs.YteojldbfebnccaaW.PrintWords
attribute [local go_sem] Oper.semAt_some
set_option linter.unusedVariables false
noncomputable def setAssign : Code := match Try.f53.body with | some (.seq _ (.seq (.seq _ (.block _ (.rangeFunc _ _ a _))) _)) => a | _ => .skip
noncomputable def setBody : Code := match Try.f53.body with | some (.seq _ (.seq (.seq _ (.block _ (.rangeFunc _ _ _ b))) _)) => b | _ => .skip
noncomputable def setRec (fn : FuncId) (tmps : Array Value) (D : Nat) (st : LoopState) (pe : Option Code) : Loop :=
  { state := st, pending := pe, fn, tmps, params := #[6, 7], assign := setAssign, body := setBody, defers := D }
def setT (hv : Value) (S R : Nat) (v4 v5 : Value) (c1 c2 : Value) : Array Value := #[hv, .pointer (some ⟨S, 0, none⟩), .pointer (some ⟨R, 0, none⟩), undef, v4, v5, c1, c2, undef, undef, undef, undef, undef]
structure SetMid (w : World) (fn : FuncId) (tm : Array Value) (S' R y D : Nat) (A : Option Addr) (c : Nat) (rows : List S61) (done : List (Int × Int)) (W : World) : Prop where
  hall : HallAt w W S' A c rows
  here : ∃ v, W.heap[R]? = some (.cells #[v] 39 (0, 0)) ∧ W.ownsRow w.heap.size 3 1 v done.length (nums .i64 (done.map fun p => p.1))
  L : W.heap[y]? = some (.loop (setRec fn tm D .ready none))
  K : W.heap[D]? = some (.deferred (some []))
theorem SetMid.below {w W W' : World} {fn : FuncId} {tm : Array Value} {S' R y D : Nat} {A : Option Addr} {c : Nat} {rows : List S61} {done : List (Int × Int)} (h : SetMid w fn tm S' R y D A c rows done W) (hb : Below W.heap.size W W') : SetMid w fn tm S' R y D A c rows done W' := by
  obtain ⟨v, h1, h2⟩ := h.here
  exact ⟨h.hall.below hb, ⟨v, blk_below h1 hb, pw_own_below h2 hb⟩, blk_below h.L hb, blk_below h.K hb⟩
theorem own_obj {w : World} {base : Nat} {e : TypeId} {size n k : Nat} {v : Value} {xs : List Value} (h : w.ownsRow base e size v n xs) (hk : v.ownBlock = some k) : ∃ cs fr, w.heap[k]? = some (.cells cs e fr) := by
  rcases h.2 with ⟨hv, _⟩ | ⟨g, cap, cur, hv, h1, hg, hle, _, _, _⟩
  · rw [hv] at hk; simp [Value.ownBlock] at hk
  · rw [hv] at hk
    simp [Value.ownBlock] at hk
    subst hk
    exact ⟨cur, _, hg⟩
theorem rs_len (i : Nat) (x : S61) (k : Nat) : (rs i x k).length ≤ k := by
  unfold rs
  rw [List.length_map]
  exact Nat.le_trans (List.length_filter_le _ _) (by simp)
theorem sl_len (l : List S61) (n : Nat) : (sl l n).length ≤ 8 * n := by
  induction n with
  | zero => simp [sl_zero]
  | succ n ih =>
    rw [sl_succ, List.length_append]
    have := rs_len n (rd_T61 l (n : Int)) 8
    omega
theorem seatsL_len (l : List S61) : (seatsL l).length ≤ 64 := by
  unfold seatsL
  have := sl_len l (min l.length 8)
  omega
theorem own_other2 {w w1 : World} {base : Nat} {e : TypeId} {size n : Nat} {v : Value} {xs : List Value} (h : w.ownsRow base e size v n xs) (hb : ∀ k, v.ownBlock = some k → w1.heap[k]? = w.heap[k]?) : w1.ownsRow base e size v n xs := by
  refine ⟨h.1, ?_⟩
  rcases h.2 with h1 | ⟨g, cap, cur, hv, h1, hg, hle⟩
  · exact .inl h1
  · exact .inr ⟨g, cap, cur, hv, h1, (hb g (by rw [hv]; simp [Value.ownBlock])).trans hg, hle⟩
set_option maxRecDepth 100000 in
set_option maxHeartbeats 2000000 in
theorem set_round (m : Nat) (fn : FuncId) (w : World) (tm : Array Value) (S S' R y D : Nat) (A : Option Addr) (c : Nat) (rows : List S61) (s cl : Int) (done : List (Int × Int)) (hv v4 v5 : Value) (W : World)
    (htm : setT hv S R v4 v5 undef undef = tm) (hlen : done.length ≤ 64)
    (hSy : S' ≠ y) (hRy : R ≠ y) (hDy : D ≠ y) (hSR : S' ≠ R) (hDR : D ≠ R) (hn : w.heap.size ≤ R) (hny : w.heap.size ≤ y)
    (hM : SetMid w fn tm S' R y D A c rows done W) :
    ∃ tm', (Instr.yield y #[.int .i64 s, .int .i64 cl]).run Try.prog W = .ok (.round y fn tm' setAssign setBody) W ∧
      RoundIn Fence.wide m Try.prog y fn tm' setAssign setBody W fun e W' => (e = .returned (.bool true) ∧ SetMid w fn tm S' R y D A c rows (done ++ [(s, cl)]) W') ∧ (∀ (k : Nat) (cs : Array Value) (fr : Nat × Nat), k ≠ R → k ≠ y → W.heap[k]? = some (.cells cs 61 fr) → W'.heap[k]? = W.heap[k]?) ∧ W.heap.size ≤ W'.heap.size := by
  refine ⟨setT hv S R v4 v5 (.int .i64 s) (.int .i64 cl), ?_, ?_⟩
  · rw [← htm] at hM
    simpa [setRec, setT] using run_yield (P := Try.prog) (args := #[.int .i64 s, .int .i64 cl]) hM.L rfl
  have HM := Lib.hid hM
  clear hM
  refine roundIn_of_wpIn trivial ?_
  have hbr := run_beginRound (P := Try.prog) HM.out.L rfl
  obtain ⟨W2, hW2⟩ : ∃ W2, W.putObj y (.loop { setRec fn tm D .ready none with state := .busy }) = W2 := ⟨_, rfl⟩
  rw [hW2] at hbr
  have HL2 := Lib.hid (show W2.heap[y]? = some (.loop { setRec fn tm D .ready none with state := .busy }) by rw [← hW2]; exact World.putObj_heap_same (blk_lt HM.out.L))
  have HG2 : Hid (W.grownBy W2 (some y)) := by rw [← hW2]; exact grownBy_putObj' _ _ _
  have hss : W2.heap.size = W.heap.size := by rw [← hW2]; exact World.putObj_size
  have HSS := Lib.hid hss
  clear hW2 hss
  obtain ⟨v, hv1, hv2⟩ := HM.out.here
  have HR2 := Lib.hid ((HG2.out.block R (blk_lt hv1) (by simpa using hRy)).trans hv1)
  have HO2 := Lib.hid (own_other2 hv2 (fun k hk => by
    obtain ⟨cs, fr, hc⟩ := own_obj hv2 hk
    exact HG2.out.block k (blk_lt hc) (by
      intro e
      cases e
      rw [HM.out.L] at hc
      cases hc)))
  have HB2 := Lib.hid (grown_below HM.out.hall.b HG2.out hny HM.out.hall.b.size)
  clear hv1 hv2
  have r0 : W2.cell? ⟨R, 0, none⟩ = some v := cell_of_row _ _ 0 _ _ _ HR2.out
  have rf : W2.frozen? ⟨R, 0, none⟩ = false := blk_free HR2.out 0
  have HTM := Lib.hid htm
  clear htm
  obtain ⟨i0, hi0, hz0, hz1, hz2⟩ : ∃ i0, Try.prog.info? 3 = some i0 ∧ i0.zero = some (.int .i64 0) ∧ i0.size = 1 ∧ i0.bytes = 8 := ⟨_, rfl, by kernel_rfl, by kernel_rfl, by kernel_rfl⟩
  simp only [setAssign, Try.f53, setT]
  gi_wp2
  simp only [setBody, Try.f53]
  gi_wp2_with (gi_at_builtin; refine wpListIn_append_own _ rfl _ _ 39 rfl w.heap.size 3 i0 (.int .i64 0) 1 8 Try.underlying39 hi0 hz0 hz1 hz2 rfl (by decide) v done.length (nums .i64 (done.map fun p => p.1)) rfl (HO2.out.alloc _) ⟨W2.heap.size, 0, none⟩ 1 1 [.int .i64 s] rfl rfl ?c1 ?c2 ?c3 ?c4 ?c5 ?_; rotate_left 5; intro v9 w5 hown5 hg5 hnil5; obtain ⟨A5, cp5, e5⟩ := own_slice hown5; subst e5; have HR5 := Lib.hid ((hg5.block R (by have := blk_lt HR2.out; simp; omega) (own_ne HO2.out HR2.out (by decide))).trans (blk_alloc HR2.out _)); have r5 := cell_of_row _ _ 0 _ _ _ HR5.out; have rf5 := blk_free HR5.out 0; simp at r5; have HOW5 := Lib.hid hown5; have HGG5 := Lib.hid hg5; clear hown5 hg5 hnil5 r0 rf)
  case c1 => simpa using World.news_of_block (cs := #[.int .i64 s]) (t := 3) (fr := (0, 0)) (blk_new W2 _)
  case c2 => simp [Value.oneCell']
  case c3 => simp only [maxLen]; omega
  case c4 => omega
  case c5 => simp; have := HB2.out.size; omega
  clear hbr
  obtain ⟨W6, hW6⟩ : ∃ W6, w5.setCell ⟨R, 0, none⟩ (.slice A5 (done.length + 1) cp5) = W6 := ⟨_, rfl⟩
  rw [hW6]
  have hG6 : ∀ k, k < W2.heap.size → k ≠ R → some k ≠ v.ownBlock → W6.heap[k]? = W2.heap[k]? := fun k h1 h2 h3 => by
    rw [← hW6]
    exact (Below.heap_setCell _ _ _ _ h2).trans ((HGG5.out.block k (by simp; omega) h3).trans (Below.heap_alloc _ _ k h1))
  have hR6 : W6.heap[R]? = some (.cells #[.slice A5 (done.length + 1) cp5] 39 (0, 0)) := by rw [← hW6]; exact blk_set HR5.out 0 _
  have hO6 : W6.ownsRow w.heap.size 3 1 (.slice A5 (done.length + 1) cp5) (done.length + 1) (nums .i64 (done.map fun p => p.1) ++ [.int .i64 s]) := by
    rw [← hW6]; exact own_setCell HOW5.out (own_ne HOW5.out HR5.out (by decide)) _
  have hB6 : Below w.heap.size w W6 := by
    rw [← hW6]
    have h1 : Below w.heap.size w (W2.alloc (.cells #[.int .i64 s] 3)) := below_alloc HB2.out _
    exact (h1.grown HGG5.out h1.size (fun k hk => own_base HO2.out k hk)).setCell hn _
  have hsz6 : W2.heap.size ≤ W6.heap.size := by
    rw [← hW6]
    have h1 := HGG5.out.size
    have h2 : (w5.setCell ⟨R, 0, none⟩ (.slice A5 (done.length + 1) cp5)).heap.size = w5.heap.size := by simp [World.setCell]
    simp at h1
    omega
  have hne : ∀ k o, W2.heap[k]? = some o → (∀ cs fr, o ≠ .cells cs 3 fr) → some k ≠ v.ownBlock := fun k o h1 h2 e => by
    obtain ⟨cs, fr, hc⟩ := own_obj HO2.out e.symm
    rw [h1] at hc
    exact h2 cs fr (Option.some.inj hc)
  clear hW6
  have hk2 : ∀ k, k < W.heap.size → k ≠ y → W2.heap[k]? = W.heap[k]? := fun k h1 h2 => HG2.out.block k h1 (by simpa using h2)
  have hl6 : W6.heap[y]? = _ := (hG6 y (blk_lt HL2.out) (Ne.symm hRy) (hne y _ HL2.out (fun _ _ => by simp))).trans HL2.out
  have hS2 := (hk2 S' (blk_lt HM.out.hall.box) hSy).trans HM.out.hall.box
  have hD2 := (hk2 D (blk_lt HM.out.K) hDy).trans HM.out.K
  have hS6 := (hG6 S' (blk_lt hS2) hSR (hne S' _ hS2 (fun _ _ => by simp))).trans hS2
  have hD6 := (hG6 D (blk_lt hD2) hDR (hne D _ hD2 (fun _ _ => by simp))).trans hD2
  refine ⟨_, _, run_endRound none hl6, ⟨rfl, ⟨?_, HM.out.hall.rows, ?_⟩, ⟨.slice A5 (done.length + 1) cp5, ?_, ?_⟩, ?_, ?_⟩, ?_, ?_⟩
  · exact (World.putObj_heap_other hSy).trans hS6
  · exact grown_below hB6 (grownBy_putObj' _ _ _) hny hB6.size
  · exact (World.putObj_heap_other hRy).trans hR6
  · have h1 := own_other2 (w1 := W6.putObj y (.loop { setRec fn tm D .ready none with state := .ready })) hO6 (fun k hk => by
      obtain ⟨cs, fr, hc⟩ := own_obj hO6 hk
      refine World.putObj_heap_other (fun e => ?_)
      subst e
      rw [hl6] at hc
      cases hc)
    rw [List.length_append, List.length_singleton, List.map_append, nums_append]
    exact h1
  · exact World.putObj_heap_same (blk_lt hl6)
  · exact (World.putObj_heap_other hDy).trans hD6
  · intro k cs q1 q2 h1 h2 hc
    have hc2 := (hk2 k (blk_lt hc) h2).trans hc
    exact (World.putObj_heap_other h2).trans ((hG6 k (blk_lt hc2) h1 (hne k _ hc2 (fun _ _ => by simp))).trans (hk2 k (blk_lt hc) h2))
  · rw [World.putObj_size]; have := HSS.out; omega
def seatsI (l : List S61) : List Int := (seatsL l).map fun p => p.1
set_option maxRecDepth 100000 in
set_option maxHeartbeats 4000000 in
theorem hall_Seats_calls (A0_0 : Option Addr) (c0_0 : Nat) (l0_0 : List S61) (w : World) (hr0_0 : Kd.C k61 w A0_0 l0_0.length l0_0) (hc0_0 : l0_0.length ≤ c0_0) :
    Calls Try.prog 53 #[.agg #[.slice A0_0 l0_0.length c0_0]] w fun e w' => ∃ v, e = .returned v ∧ w'.ownsRow w.heap.size 3 1 v (seatsI l0_0).length (nums .i64 (seatsI l0_0)) ∧ Below w.heap.size w w' := by
  have HR := Lib.hid hr0_0
  have HC := Lib.hid hc0_0
  clear hr0_0 hc0_0
  refine (callsIn_wide (n := 3)).1 ?_
  refine callsIn_of_wp_marks Try.func53 rfl trivial ?_ rfl
  simp only [Try.ntmps53, List.size_toArray, List.length_cons, List.length_nil, Nat.reduceAdd, Nat.reduceSub, Array.replicate_succ, Array.replicate_zero, List.push_toArray, List.append_toArray, List.nil_append, List.cons_append]
  gi_wp2_with fail
  refine ⟨trivial, ?_⟩
  refine (callsIn_wide.2 (seats_calls A0_0 c0_0 l0_0 _)).mono ?_
  rintro e w2 ⟨rfl, rfl⟩
  gi_wp2_with fail
  refine wpIn_rangeFunc ?_
  intro fn _
  obtain ⟨W0, hW0⟩ : ∃ W0, ((w.alloc (.cells #[.slice A0_0 l0_0.length c0_0] 29)).alloc (.cells #[.slice none 0 0] 39)).alloc (.cells #[.slice A0_0 l0_0.length c0_0] 29) = W0 := ⟨_, rfl⟩
  have hs0 : W0.heap.size = w.heap.size + 3 := by rw [← hW0]; simp
  have hR0 : W0.heap[w.heap.size + 1]? = some (.cells #[.slice none 0 0] 39 (0, 0)) := by
    rw [← hW0]; exact blk_alloc (by simpa using blk_new (w.alloc _) _) _
  have hS0 : W0.heap[w.heap.size + 2]? = some (.cells #[.slice A0_0 l0_0.length c0_0] 29 (0, 0)) := by
    rw [← hW0]; simpa using blk_new ((w.alloc (.cells #[.slice A0_0 l0_0.length c0_0] 29)).alloc (.cells #[.slice none 0 0] 39)) (.cells #[.slice A0_0 l0_0.length c0_0] 29)
  have hb0 : Below w.heap.size w W0 := by
    rw [← hW0]; exact below_alloc (below_alloc (below_alloc (Below.refl _ _) _) _) _
  obtain ⟨tm, htm⟩ : ∃ tm, setT (.agg #[.slice A0_0 l0_0.length c0_0]) w.heap.size (w.heap.size + 1) (.agg #[.slice A0_0 l0_0.length c0_0]) (.func (.func 54) #[] #[.pointer (some ⟨w.heap.size + 2, 0, none⟩)]) undef undef = tm := ⟨_, rfl⟩
  obtain ⟨W1, hW1⟩ : ∃ W1, (W0.alloc (.deferred (some []))).alloc (.loop (setRec fn tm W0.heap.size .ready none)) = W1 := ⟨_, rfl⟩
  have hold : ∀ k, k < W0.heap.size → W1.heap[k]? = W0.heap[k]? := fun k hk => by
    rw [← hW1]; exact (Below.heap_alloc _ _ k (by simp; omega)).trans (Below.heap_alloc _ _ k hk)
  have hb1 : Below w.heap.size w W1 := by rw [← hW1]; exact below_alloc (below_alloc hb0 _) _
  have hM : SetMid w fn tm (w.heap.size + 2) (w.heap.size + 1) (w.heap.size + 4) (w.heap.size + 3) A0_0 c0_0 l0_0 [] W1 := by
    refine ⟨⟨(hold _ (by omega)).trans hS0, HR.out, hb1⟩, ⟨_, (hold _ (by omega)).trans hR0, own_nil _ _ _ _⟩, ?_, ?_⟩
    · rw [← hW1]; have := World.alloc_heap_new (W0.alloc (.deferred (some []))) (.loop (setRec fn tm W0.heap.size .ready none)); rw [World.size_alloc, hs0] at this; rw [hs0]; exact this
    · rw [← hW1]; have := (Below.heap_alloc (W0.alloc (.deferred (some []))) (.loop (setRec fn tm W0.heap.size .ready none)) W0.heap.size (by simp)).trans (World.alloc_heap_new W0 _); rw [hs0] at this; rw [hs0]; exact this
  have HM := Lib.hid hM
  have HTM := Lib.hid htm
  have hsz1 : W1.heap.size = w.heap.size + 5 := by rw [← hW1]; simp [hs0]
  have HSZ := Lib.hid hsz1
  clear hM hold hb1 hS0 hR0 hb0 hsz1
  refine ⟨w.heap.size + 4, [{ target := .collected (w.heap.size + 3), args := #[] }], W1, { target := .fn (.func 54) #[.pointer (some ⟨w.heap.size + 2, 0, none⟩)], args := #[.func (.yield (w.heap.size + 4)) #[] #[]] }, W1, 54,
    #[.func (.yield (w.heap.size + 4)) #[] #[], .pointer (some ⟨w.heap.size + 2, 0, none⟩)], W1, ?_, ?_, ?_, ?_, fun h => (by cases h), ?_⟩
  · rw [← hW1, ← htm, hW0, hs0]
    have := run_enterLoop_outer (P := Try.prog) (w := W0) fn (setT (.agg #[.slice A0_0 l0_0.length c0_0]) w.heap.size (w.heap.size + 1) (.agg #[.slice A0_0 l0_0.length c0_0]) (.func (.func 54) #[] #[.pointer (some ⟨w.heap.size + 2, 0, none⟩)]) undef undef) #[6, 7] setAssign setBody
    rw [hs0] at this
    exact this
  · simp [resolve, go_sem]
  · intro f' _; exact trivial
  · simp [invoke, go_sem]
  clear hW0 hs0 hW1
  refine (seats_iter 2 0 (w.heap.size + 2) (w.heap.size + 4) (w.heap.size + 5) A0_0 c0_0 l0_0 HC.out fn setAssign setBody
    (fun done W => SetMid w fn tm (w.heap.size + 2) (w.heap.size + 1) (w.heap.size + 4) (w.heap.size + 3) A0_0 c0_0 l0_0 done W ∧ w.heap.size + 5 ≤ W.heap.size) (fun _ _ _ _ => False)
    (fun done W h => ⟨h.1.hall.box, Kd.C_below h.1.hall.rows h.1.hall.b, h.2⟩) (fun done W W' h hb => ⟨h.1.below hb, Nat.le_trans h.2 hb.size⟩) ?_ W1 ⟨HM.out, Nat.le_of_eq HSZ.out.symm⟩).mono ?_
  · intro done s cl W hI hp
    have hl := hp.length_le
    rw [List.length_append, List.length_singleton] at hl
    have := seatsL_len l0_0
    obtain ⟨tm', h1, h2⟩ := set_round 1 fn w tm w.heap.size (w.heap.size + 2) (w.heap.size + 1) (w.heap.size + 4) (w.heap.size + 3) A0_0 c0_0 l0_0 s cl done _ _ _ W HTM.out (by omega) (by omega) (by omega) (by omega) (by omega) (by omega) (by omega) (by omega) hI.1
    refine ⟨tm', h1, h2.mono ?_⟩
    rintro e W' ⟨⟨h6, h7⟩, h4, h5⟩
    exact ⟨.inl ⟨h6, h7, Nat.le_trans hI.2 h5⟩, fun k cs fr h8 h9 => h4 k cs fr (by omega) (by omega) h9, h5⟩
  · rintro e W2 ⟨⟨v, rfl⟩, h2 | ⟨done, s, cl, hpre, h2⟩⟩
    · have hend := run_endLoop (P := Try.prog) h2.1.L (by simp [setRec])
      obtain ⟨W3, hW3⟩ : ∃ W3, W2.putObj (w.heap.size + 4) (.loop { setRec fn tm (w.heap.size + 3) .ready none with state := .exhausted }) = W3 := ⟨_, rfl⟩
      rw [hW3] at hend
      obtain ⟨v, hv1, hv2⟩ := h2.1.here
      obtain ⟨A5, cp5, e5⟩ := own_slice hv2
      subst e5
      have HB3 := Lib.hid (show Below w.heap.size w W3 by rw [← hW3]; exact grown_below h2.1.hall.b (grownBy_putObj' _ _ _) (by omega) h2.1.hall.b.size)
      have HR3 := Lib.hid (show W3.heap[w.heap.size + 1]? = some (.cells #[.slice A5 (seatsL l0_0).length cp5] 39 (0, 0)) by rw [← hW3]; exact (World.putObj_heap_other (by omega)).trans hv1)
      have HK3 := Lib.hid (show W3.heap[w.heap.size + 3]? = some (.deferred (some [])) by rw [← hW3]; exact (World.putObj_heap_other (by omega)).trans h2.1.K)
      have HO3 := Lib.hid (own_other2 (w1 := W3) hv2 (fun k hk => by
        obtain ⟨cs, fr, hc⟩ := own_obj hv2 hk
        rw [← hW3]
        refine World.putObj_heap_other (fun e => ?_)
        subst e
        rw [h2.1.L] at hc
        cases hc))
      clear hW3 h2 HM HTM htm hv1 hv2
      refine ⟨none, W3, hend, ?_⟩
      clear hend
      have c0 : W3.cell? ⟨w.heap.size + 1, 0, none⟩ = some (.slice A5 (seatsL l0_0).length cp5) := cell_of_row _ _ 0 _ _ _ HR3.out
      have f0 : W3.frozen? ⟨w.heap.size + 1, 0, none⟩ = false := blk_free HR3.out 0
      gi_wp2
      have hR4 : (W3.setCell ⟨w.heap.size + 1, 0, none⟩ (.slice A5 (seatsL l0_0).length cp5)).heap[w.heap.size + 1]? = some (.cells #[.slice A5 (seatsL l0_0).length cp5] 39 (0, 0)) := blk_set HR3.out 0 _
      have hK4 : (W3.setCell ⟨w.heap.size + 1, 0, none⟩ (.slice A5 (seatsL l0_0).length cp5)).heap[w.heap.size + 3]? = some (.deferred (some [])) := (Below.heap_setCell _ _ _ _ (by simp)).trans HK3.out
      have hB4 : Below w.heap.size w (W3.setCell ⟨w.heap.size + 1, 0, none⟩ (.slice A5 (seatsL l0_0).length cp5)) := HB3.out.setCell (by simp) _
      have hO4 := own_setCell HO3.out (p := ⟨w.heap.size + 1, 0, none⟩) (own_ne HO3.out HR3.out (by decide)) (.slice A5 (seatsL l0_0).length cp5)
      refine ⟨by simp, .inl ⟨_, _, rfl, run_takeDeferred hK4, ?_⟩⟩
      refine ⟨_, results_one rfl _ _ (w.heap.size + 1) (.slice A5 (seatsL l0_0).length cp5) rfl ?_ (fun w => by kernel_rfl), _, rfl, ?_, ?_⟩
      · rw [cell_of_row _ _ 0 _ _ _ ((World.putObj_heap_other (by omega)).trans hR4)]; rfl
      · have h1 := own_other2 (w1 := (W3.setCell ⟨w.heap.size + 1, 0, none⟩ (.slice A5 (seatsL l0_0).length cp5)).putObj (w.heap.size + 3) (.deferred none)) hO4 (fun k hk => by
          obtain ⟨cs, fr, hc⟩ := own_obj hO4 hk
          refine World.putObj_heap_other (fun e => ?_)
          subst e
          rw [hK4] at hc
          cases hc)
        rw [show (seatsI l0_0).length = (seatsL l0_0).length by simp [seatsI]]
        exact h1
      · exact grown_below hB4 (grownBy_putObj' _ _ _) (by omega) hB4.size
    · exact h2.elim
end Go.Proofs.Yteojldbfebnccaa
