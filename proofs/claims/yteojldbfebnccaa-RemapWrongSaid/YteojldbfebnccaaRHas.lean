/- hall.Has and hall.Class: ranges over a hall's seats, left at the one that is sought. (Printed by gen_has.py.) -/
import Derived.Test.YteojldbfebnccaaRSeats
namespace Go.Proofs.Yteojldbfebnccaa
open Go.RowKit Go.Proofs.YteojldbfebnccaaW.PrintWords
attribute [local go_sem] Oper.semAt_some
set_option linter.unusedVariables false
theorem blk_free {W : World} {b : Nat} {cs : Array Value} {t : TypeId} (h : W.heap[b]? = some (.cells cs t (0, 0))) (j : Nat) : W.frozen? ⟨b, j, none⟩ = false := by simp [World.frozen?, h]
theorem grown_set (W : World) (b j : Nat) (v : Value) : W.grownBy (W.setCell ⟨b, j, none⟩ v) (some b) :=
  ⟨rfl, rfl, rfl, (KeepsWalks.setCell W _ v).size, fun k _ hk => Below.heap_setCell _ _ _ k (fun e => hk (by rw [e]))⟩
theorem grown_trans {a b c : World} {r : Option Nat} (h : a.grownBy b r) (k : b.grownBy c r) : a.grownBy c r :=
  ⟨k.os.trans h.os, k.tape.trans h.tape, k.output.trans h.output, Nat.le_trans h.size k.size, fun i hi hr => (k.block i (Nat.lt_of_lt_of_le hi h.size) hr).trans (h.block i hi hr)⟩
theorem grown_below {n0 : Nat} {w a b : World} {r : Nat} (h : Below n0 w a) (hg : a.grownBy b (some r)) (hr : n0 ≤ r) (hn : n0 ≤ a.heap.size) : Below n0 w b :=
  h.grown hg hn (fun k e => by cases e; exact hr)
theorem results_one {fn : Func} {p : Tmp} {ty : TypeId} (h : fn.results = #[.cell p ty]) (tmps : Array Value) (w : World) (b : Nat) (v : Value)
    (hp : tmps[p]? = some (.pointer (some ⟨b, 0, none⟩))) (hc : w.cell? ⟨b, 0, none⟩ = some v) (ha : ∀ w : World, (isAgg ty).run Try.prog w = .ok false w) : (results fn tmps).run Try.prog w = .ok v w := by
  simp [results, h, hp, ha, go_sem, hc, Result.andThen]
theorem seats_calls (A : Option Addr) (c : Nat) (l : List S61) (w : World) :
    Calls Try.prog 43 #[.agg #[.slice A l.length c]] w fun e w' => e = .returned (.func (.func 54) #[] #[.pointer (some ⟨w.heap.size, 0, none⟩)]) ∧ w.alloc (.cells #[.slice A l.length c] 29) = w' := by
  go_enter Try.func43, Try.ntmps43
  go_wp2
  go_ret
  exact ⟨rfl, rfl⟩
/-- the rows of a hall are read from w on -/
structure HallAt (w W : World) (S : Nat) (A : Option Addr) (c : Nat) (rows : List S61) : Prop where
  box : W.heap[S]? = some (.cells #[.slice A rows.length c] 29 (0, 0))
  rows : Kd.C k61 w A rows.length rows
  b : Below w.heap.size w W
theorem HallAt.below {w W W' : World} {S : Nat} {A : Option Addr} {c : Nat} {rows : List S61} (h : HallAt w W S A c rows) (hb : Below W.heap.size W W') : HallAt w W' S A c rows :=
  ⟨blk_below h.box hb, h.rows, below_then h.b h.b.size hb⟩

/-! ### hall.Has -/
noncomputable def hasAssign : Code := match Try.f19.body with | some (.seq _ (.seq (.seq _ (.block _ (.rangeFunc _ _ a _))) _)) => a | _ => .skip
noncomputable def hasBody : Code := match Try.f19.body with | some (.seq _ (.seq (.seq _ (.block _ (.rangeFunc _ _ _ b))) _)) => b | _ => .skip
noncomputable def hasRec (fn : FuncId) (tmps : Array Value) (D : Nat) (st : LoopState) (pe : Option Code) : Loop :=
  { state := st, pending := pe, fn, tmps, params := #[8, 9], assign := hasAssign, body := hasBody, defers := D }
def hasT (hv : Value) (seat : Int) (S X R : Nat) (v6 v7 : Value) (c1 c2 : Value) : Array Value := #[hv, .int .i64 seat, .pointer (some ⟨S, 0, none⟩), .pointer (some ⟨X, 0, none⟩), .pointer (some ⟨R, 0, none⟩), undef, v6, v7, c1, c2, undef, undef, undef]
structure hasMid (w : World) (fn : FuncId) (tm : Array Value) (S S' X R y D : Nat) (A : Option Addr) (c : Nat) (rows : List S61) (seat : Int) (done : List (Int × Int)) (W : World) : Prop where
  hall : HallAt w W S' A c rows
  hX : W.heap[X]? = some (.cells #[.int .i64 seat] 3 (0, 0))
  hR : W.heap[R]? = some (.cells #[.bool false] 4 (0, 0))
  L : W.heap[y]? = some (.loop (hasRec fn tm D .ready none))
  K : W.heap[D]? = some (.deferred (some []))
  no : ∀ p ∈ done, p.1 ≠ seat
theorem hasMid.below {w W W' : World} {fn : FuncId} {tm : Array Value} {S S' X R y D : Nat} {A : Option Addr} {c : Nat} {rows : List S61} {seat : Int} {done : List (Int × Int)} (h : hasMid w fn tm S S' X R y D A c rows seat done W) (hb : Below W.heap.size W W') : hasMid w fn tm S S' X R y D A c rows seat done W' :=
  ⟨h.hall.below hb, blk_below h.hX hb, blk_below h.hR hb, blk_below h.L hb, blk_below h.K hb, h.no⟩
/-- behind the round in which it was found -/
structure hasFin (w : World) (fn : FuncId) (tm : Array Value) (R y D : Nat) (seat s cl : Int) (W : World) : Prop where
  here : s = seat
  hR : W.heap[R]? = some (.cells #[.bool true] 4 (0, 0))
  L : W.heap[y]? = some (.loop (hasRec fn tm D .done (some .ret)))
  K : W.heap[D]? = some (.deferred (some []))
  b : Below w.heap.size w W
set_option maxRecDepth 100000 in
set_option maxHeartbeats 2000000 in
theorem has_round (m : Nat) (fn : FuncId) (w : World) (tm : Array Value) (S S' X R y D : Nat) (A : Option Addr) (c : Nat) (rows : List S61) (seat s cl : Int) (done : List (Int × Int)) (hv v6 v7 : Value) (W : World)
    (htm : hasT hv seat S X R v6 v7 undef undef = tm)
    (hSy : S' ≠ y) (hXy : X ≠ y) (hRy : R ≠ y) (hDy : D ≠ y) (hSR : S' ≠ R) (hXR : X ≠ R) (hDR : D ≠ R) (hn : w.heap.size ≤ R) (hny : w.heap.size ≤ y) (hRN : R < y)
    (hM : hasMid w fn tm S S' X R y D A c rows seat done W) :
    ∃ tm', (Instr.yield y #[.int .i64 s, .int .i64 cl]).run Try.prog W = .ok (.round y fn tm' hasAssign hasBody) W ∧
      RoundIn Fence.wide m Try.prog y fn tm' hasAssign hasBody W fun e W' => ((e = .returned (.bool true) ∧ hasMid w fn tm S S' X R y D A c rows seat (done ++ [(s, cl)]) W') ∨ (e = .returned (.bool false) ∧ hasFin w fn tm R y D seat s cl W')) ∧ (∀ (k : Nat) (cs : Array Value) (fr : Nat × Nat), y + 1 ≤ k → W.heap[k]? = some (.cells cs 61 fr) → W'.heap[k]? = W.heap[k]?) ∧ W.heap.size ≤ W'.heap.size := by
  refine ⟨hasT hv seat S X R v6 v7 (.int .i64 s) (.int .i64 cl), ?_, ?_⟩
  · rw [← htm] at hM
    simpa [hasRec, hasT] using run_yield (P := Try.prog) (args := #[.int .i64 s, .int .i64 cl]) hM.L rfl
  have HM := Lib.hid hM
  clear hM
  refine roundIn_of_wpIn trivial ?_
  have hbr := run_beginRound (P := Try.prog) HM.out.L rfl
  obtain ⟨W2, hW2⟩ : ∃ W2, W.putObj y (.loop { hasRec fn tm D .ready none with state := .busy }) = W2 := ⟨_, rfl⟩
  rw [hW2] at hbr
  have HL2 := Lib.hid (show W2.heap[y]? = some (.loop { hasRec fn tm D .ready none with state := .busy }) by rw [← hW2]; exact World.putObj_heap_same (blk_lt HM.out.L))
  have HG2 : Hid (W.grownBy W2 (some y)) := by rw [← hW2]; exact grownBy_putObj' _ _ _
  clear hW2
  have HX2 := Lib.hid ((HG2.out.block X (blk_lt HM.out.hX) (by simpa using hXy)).trans HM.out.hX)
  have HR2 := Lib.hid ((HG2.out.block R (blk_lt HM.out.hR) (by simpa using hRy)).trans HM.out.hR)
  have x0 : W2.cell? ⟨X, 0, none⟩ = some (.int .i64 seat) := cell_of_row _ _ 0 _ _ _ HX2.out
  have r0 : W2.cell? ⟨R, 0, none⟩ = some (.bool false) := cell_of_row _ _ 0 _ _ _ HR2.out
  have rf : W2.frozen? ⟨R, 0, none⟩ = false := blk_free HR2.out 0
  have HTM := Lib.hid htm
  clear htm
  by_cases heq : s = seat
  · have b0 : (s == seat) = true := beq_iff_eq.2 heq
    have HEQ := Lib.hid heq
    clear heq
    simp only [hasAssign, Try.f19, hasT]
    gi_wp2
    simp only [hasBody, Try.f19]
    gi_wp2
    clear hbr
    obtain ⟨W5, hW5⟩ : ∃ W5, W2.setCell ⟨R, 0, none⟩ (.bool true) = W5 := ⟨_, rfl⟩
    rw [hW5]
    have HG5 : Hid (W2.grownBy W5 (some R)) := by rw [← hW5]; exact grown_set _ _ _ _
    have HR5 := Lib.hid (show W5.heap[R]? = some (.cells #[.bool true] 4 (0, 0)) by rw [← hW5]; exact blk_set HR2.out 0 _)
    clear hW5
    have hl5 := (HG5.out.block y (blk_lt HL2.out) (by simpa using Ne.symm hRy)).trans HL2.out
    have hk5 : ∀ k, k < W.heap.size → k ≠ y → k ≠ R → W5.heap[k]? = W.heap[k]? := fun k h1 h2 h3 =>
      (HG5.out.block k (Nat.lt_of_lt_of_le h1 HG2.out.size) (by simpa using h3)).trans (HG2.out.block k h1 (by simpa using h2))
    refine ⟨_, _, run_endRound (some .ret) hl5, .inr ⟨rfl, HEQ.out, ?_, ?_, ?_, ?_⟩, ?_, ?_⟩
    · exact (World.putObj_heap_other hRy).trans HR5.out
    · exact World.putObj_heap_same (blk_lt hl5)
    · exact (World.putObj_heap_other hDy).trans ((hk5 D (blk_lt HM.out.K) hDy hDR).trans HM.out.K)
    · have b2 : Below w.heap.size w W2 := grown_below HM.out.hall.b HG2.out hny HM.out.hall.b.size
      have b5 : Below w.heap.size w W5 := grown_below b2 HG5.out hn b2.size
      exact grown_below b5 (grownBy_putObj' _ _ _) hny b5.size
    · intro k cs q1 q2 h1 hc
      exact (World.putObj_heap_other (by omega)).trans (hk5 k (blk_lt hc) (by omega) (by omega))
    · rw [World.putObj_size]; exact Nat.le_trans HG2.out.size HG5.out.size
  · have b0 : (s == seat) = false := beq_eq_false_iff_ne.2 heq
    have HEQ := Lib.hid heq
    clear heq
    simp only [hasAssign, Try.f19, hasT]
    gi_wp2
    simp only [hasBody, Try.f19]
    gi_wp2
    clear hbr
    have hk2 : ∀ k, k < W.heap.size → k ≠ y → W2.heap[k]? = W.heap[k]? := fun k h1 h2 => HG2.out.block k h1 (by simpa using h2)
    refine ⟨_, _, run_endRound none HL2.out, .inl ⟨rfl, ⟨?_, ?_, ?_⟩, ?_, ?_, ?_, ?_, ?_⟩, ?_, ?_⟩
    · exact (World.putObj_heap_other hSy).trans ((hk2 _ (blk_lt HM.out.hall.box) hSy).trans HM.out.hall.box)
    · exact HM.out.hall.rows
    · have b2 : Below w.heap.size w W2 := grown_below HM.out.hall.b HG2.out hny HM.out.hall.b.size
      exact grown_below b2 (grownBy_putObj' _ _ _) hny b2.size
    · exact (World.putObj_heap_other hXy).trans HX2.out
    · exact (World.putObj_heap_other hRy).trans HR2.out
    · exact World.putObj_heap_same (blk_lt HL2.out)
    · exact (World.putObj_heap_other hDy).trans ((hk2 D (blk_lt HM.out.K) hDy).trans HM.out.K)
    · intro p hp
      rcases List.mem_append.1 hp with h | h
      · exact HM.out.no p h
      · rw [List.mem_singleton.1 h]; exact HEQ.out
    · intro k cs q1 q2 h1 hc
      exact (World.putObj_heap_other (by omega)).trans (hk2 k (blk_lt hc) (by omega))
    · rw [World.putObj_size]; exact HG2.out.size

def hall_Has.v (l : List S61) (seat : Int) : Bool := (seatsL l).any fun p => p.1 == seat
def hall_Has.f (l0_0 : List S61) (a1 : Int) : Option Bool := some (hall_Has.v l0_0 a1)
set_option maxRecDepth 100000 in
set_option maxHeartbeats 4000000 in
theorem hall_Has.calls (A0_0 : Option Addr) (c0_0 : Nat) (l0_0 : List S61) (a1 : Int) (r : Bool) (w : World) (hr0_0 : Kd.C k61 w A0_0 l0_0.length l0_0) (hc0_0 : l0_0.length ≤ c0_0) (h : hall_Has.f l0_0 a1 = some r) :
    Calls Try.prog 19 #[.agg #[.slice A0_0 l0_0.length c0_0], .int .i64 a1] w fun e w' => e = .returned (.bool r) ∧ Below w.heap.size w w' := by
  obtain rfl := Option.some.inj h
  clear h
  have HR := Lib.hid hr0_0
  have HC := Lib.hid hc0_0
  clear hr0_0 hc0_0
  refine (callsIn_wide (n := 3)).1 ?_
  refine callsIn_of_wp_marks Try.func19 rfl trivial ?_ rfl
  simp only [Try.ntmps19, List.size_toArray, List.length_cons, List.length_nil, Nat.reduceAdd, Nat.reduceSub, Array.replicate_succ, Array.replicate_zero, List.push_toArray, List.append_toArray, List.nil_append, List.cons_append]
  gi_wp2_with fail
  refine ⟨trivial, ?_⟩
  refine (callsIn_wide.2 (seats_calls A0_0 c0_0 l0_0 _)).mono ?_
  rintro e w2 ⟨rfl, rfl⟩
  gi_wp2_with fail
  refine wpIn_rangeFunc ?_
  intro fn _
  obtain ⟨W0, hW0⟩ : ∃ W0, (((w.alloc (.cells #[.slice A0_0 l0_0.length c0_0] 29)).alloc (.cells #[.int .i64 a1] 3)).alloc (.cells #[.bool false] 4)).alloc (.cells #[.slice A0_0 l0_0.length c0_0] 29) = W0 := ⟨_, rfl⟩
  have hs0 : W0.heap.size = w.heap.size + 4 := by rw [← hW0]; simp
  have hX0 : W0.heap[w.heap.size + 1]? = some (.cells #[.int .i64 a1] 3 (0, 0)) := by
    rw [← hW0]; exact blk_alloc (blk_alloc (by simpa using blk_new (w.alloc _) _) _) _
  have hR0 : W0.heap[w.heap.size + 2]? = some (.cells #[.bool false] 4 (0, 0)) := by
    rw [← hW0]; exact blk_alloc (by simpa using blk_new ((w.alloc _).alloc _) _) _
  have hS0 : W0.heap[w.heap.size + 3]? = some (.cells #[.slice A0_0 l0_0.length c0_0] 29 (0, 0)) := by
    rw [← hW0]; simpa using blk_new (((w.alloc (.cells #[.slice A0_0 l0_0.length c0_0] 29)).alloc (.cells #[.int .i64 a1] 3)).alloc (.cells #[.bool false] 4)) (.cells #[.slice A0_0 l0_0.length c0_0] 29)
  have hb0 : Below w.heap.size w W0 := by
    rw [← hW0]; exact below_alloc (below_alloc (below_alloc (below_alloc (Below.refl _ _) _) _) _) _
  obtain ⟨tm, htm⟩ : ∃ tm, hasT (.agg #[.slice A0_0 l0_0.length c0_0]) a1 w.heap.size (w.heap.size + 1) (w.heap.size + 2) (.agg #[.slice A0_0 l0_0.length c0_0]) (.func (.func 54) #[] #[.pointer (some ⟨w.heap.size + 3, 0, none⟩)]) undef undef = tm := ⟨_, rfl⟩
  obtain ⟨W1, hW1⟩ : ∃ W1, (W0.alloc (.deferred (some []))).alloc (.loop (hasRec fn tm W0.heap.size .ready none)) = W1 := ⟨_, rfl⟩
  have hold : ∀ k, k < W0.heap.size → W1.heap[k]? = W0.heap[k]? := fun k hk => by
    rw [← hW1]; exact (Below.heap_alloc _ _ k (by simp; omega)).trans (Below.heap_alloc _ _ k hk)
  have hb1 : Below w.heap.size w W1 := by rw [← hW1]; exact below_alloc (below_alloc hb0 _) _
  have hM : hasMid w fn tm w.heap.size (w.heap.size + 3) (w.heap.size + 1) (w.heap.size + 2) (w.heap.size + 5) (w.heap.size + 4) A0_0 c0_0 l0_0 a1 [] W1 := by
    refine ⟨⟨(hold _ (by omega)).trans hS0, HR.out, hb1⟩, (hold _ (by omega)).trans hX0, (hold _ (by omega)).trans hR0, ?_, ?_, by simp⟩
    · rw [← hW1]; have := World.alloc_heap_new (W0.alloc (.deferred (some []))) (.loop (hasRec fn tm W0.heap.size .ready none)); rw [World.size_alloc, hs0] at this; rw [hs0]; exact this
    · rw [← hW1]; have := (Below.heap_alloc (W0.alloc (.deferred (some []))) (.loop (hasRec fn tm W0.heap.size .ready none)) W0.heap.size (by simp)).trans (World.alloc_heap_new W0 _); rw [hs0] at this; rw [hs0]; exact this
  have HM := Lib.hid hM
  have HB1 := Lib.hid hb1
  have HTM := Lib.hid htm
  have hsz1 : W1.heap.size = w.heap.size + 6 := by rw [← hW1]; simp [hs0]
  have HSZ := Lib.hid hsz1
  clear hM hold hb1 hS0 hX0 hR0 hb0 hsz1
  refine ⟨w.heap.size + 5, [{ target := .collected (w.heap.size + 4), args := #[] }], W1, { target := .fn (.func 54) #[.pointer (some ⟨w.heap.size + 3, 0, none⟩)], args := #[.func (.yield (w.heap.size + 5)) #[] #[]] }, W1, 54,
    #[.func (.yield (w.heap.size + 5)) #[] #[], .pointer (some ⟨w.heap.size + 3, 0, none⟩)], W1, ?_, ?_, ?_, ?_, fun h => (by cases h), ?_⟩
  · rw [← hW1, ← htm, hW0, hs0]
    have := run_enterLoop_outer (P := Try.prog) (w := W0) fn (hasT (.agg #[.slice A0_0 l0_0.length c0_0]) a1 w.heap.size (w.heap.size + 1) (w.heap.size + 2) (.agg #[.slice A0_0 l0_0.length c0_0]) (.func (.func 54) #[] #[.pointer (some ⟨w.heap.size + 3, 0, none⟩)]) undef undef) #[8, 9] hasAssign hasBody
    rw [hs0] at this
    exact this
  · simp [resolve, go_sem]
  · intro f' _; exact trivial
  · simp [invoke, go_sem]
  clear hW0 hs0 hW1
  refine (seats_iter 2 0 (w.heap.size + 3) (w.heap.size + 5) (w.heap.size + 6) A0_0 c0_0 l0_0 HC.out fn hasAssign hasBody
    (fun done W => hasMid w fn tm w.heap.size (w.heap.size + 3) (w.heap.size + 1) (w.heap.size + 2) (w.heap.size + 5) (w.heap.size + 4) A0_0 c0_0 l0_0 a1 done W ∧ w.heap.size + 6 ≤ W.heap.size) (fun done s cl W => hasFin w fn tm (w.heap.size + 2) (w.heap.size + 5) (w.heap.size + 4) a1 s cl W ∧ ∀ p ∈ done, p.1 ≠ a1)
    (fun done W h => ⟨h.1.hall.box, Kd.C_below h.1.hall.rows h.1.hall.b, h.2⟩) (fun done W W' h hb => ⟨h.1.below hb, Nat.le_trans h.2 hb.size⟩) ?_ W1 ⟨HM.out, Nat.le_of_eq HSZ.out.symm⟩).mono ?_
  · intro done s cl W hI _
    obtain ⟨tm', h1, h2⟩ := has_round 1 fn w tm w.heap.size (w.heap.size + 3) (w.heap.size + 1) (w.heap.size + 2) (w.heap.size + 5) (w.heap.size + 4) A0_0 c0_0 l0_0 a1 s cl done _ _ _ W HTM.out (by omega) (by omega) (by omega) (by omega) (by omega) (by omega) (by omega) (by omega) (by omega) (by omega) hI.1
    refine ⟨tm', h1, h2.mono ?_⟩
    rintro e W' ⟨h3, h4, h5⟩
    refine ⟨?_, h4, h5⟩
    rcases h3 with ⟨h6, h7⟩ | ⟨h6, h7⟩
    · exact .inl ⟨h6, h7, Nat.le_trans hI.2 h5⟩
    · exact .inr ⟨h6, h7, hI.1.no⟩
  · rintro e W2 ⟨⟨v, rfl⟩, h2 | ⟨done, s, cl, hpre, h2, hno⟩⟩
    · have hend := run_endLoop (P := Try.prog) h2.1.L (by simp [hasRec])
      obtain ⟨W3, hW3⟩ : ∃ W3, W2.putObj (w.heap.size + 5) (.loop { hasRec fn tm (w.heap.size + 4) .ready none with state := .exhausted }) = W3 := ⟨_, rfl⟩
      rw [hW3] at hend
      have HB3 := Lib.hid (show Below w.heap.size w W3 by rw [← hW3]; exact grown_below h2.1.hall.b (grownBy_putObj' _ _ _) (by omega) h2.1.hall.b.size)
      have HR3 := Lib.hid (show W3.heap[w.heap.size + 2]? = some (.cells #[.bool false] 4 (0, 0)) by rw [← hW3]; exact (World.putObj_heap_other (by omega)).trans h2.1.hR)
      have HK3 := Lib.hid (show W3.heap[w.heap.size + 4]? = some (.deferred (some [])) by rw [← hW3]; exact (World.putObj_heap_other (by omega)).trans h2.1.K)
      have HNO := Lib.hid h2.1.no
      clear hW3 h2 HM HB1 HTM htm
      refine ⟨none, W3, hend, ?_⟩
      clear hend
      have c0 : W3.cell? ⟨w.heap.size + 1 + 1, 0, none⟩ = some (.bool false) := cell_of_row _ _ 0 _ _ _ HR3.out
      have f0 : W3.frozen? ⟨w.heap.size + 1 + 1, 0, none⟩ = false := blk_free HR3.out 0
      gi_wp2
      have hR4 : (W3.setCell ⟨w.heap.size + 1 + 1, 0, none⟩ (.bool false)).heap[w.heap.size + 2]? = some (.cells #[.bool false] 4 (0, 0)) := blk_set HR3.out 0 _
      have hK4 : (W3.setCell ⟨w.heap.size + 1 + 1, 0, none⟩ (.bool false)).heap[w.heap.size + 4]? = some (.deferred (some [])) := (Below.heap_setCell _ _ _ _ (by simp)).trans HK3.out
      have hB4 : Below w.heap.size w (W3.setCell ⟨w.heap.size + 1 + 1, 0, none⟩ (.bool false)) := HB3.out.setCell (by simp; omega) _
      refine ⟨by simp, .inl ⟨_, _, rfl, run_takeDeferred hK4, ?_⟩⟩
      · refine ⟨_, results_one rfl _ _ (w.heap.size + 2) (.bool false) rfl ?_ (fun w => by kernel_rfl), ?_, ?_⟩
        · rw [cell_of_row _ _ 0 _ _ _ ((World.putObj_heap_other (by omega)).trans hR4)]; rfl
        · have e : hall_Has.v l0_0 a1 = false := by
            unfold hall_Has.v
            rw [List.any_eq_false]; intro p hp; simpa using HNO.out p hp
          rw [e]
        · exact grown_below hB4 (grownBy_putObj' _ _ _) (by omega) hB4.size
    · have hend := run_endLoop (P := Try.prog) h2.L (by simp [hasRec])
      obtain ⟨W3, hW3⟩ : ∃ W3, W2.putObj (w.heap.size + 5) (.loop { hasRec fn tm (w.heap.size + 4) .done (some .ret) with state := .exhausted }) = W3 := ⟨_, rfl⟩
      rw [hW3] at hend
      have HB3 := Lib.hid (show Below w.heap.size w W3 by rw [← hW3]; exact grown_below h2.b (grownBy_putObj' _ _ _) (by omega) h2.b.size)
      have HR3 := Lib.hid (show W3.heap[w.heap.size + 2]? = some (.cells #[.bool true] 4 (0, 0)) by rw [← hW3]; exact (World.putObj_heap_other (by omega)).trans h2.hR)
      have HK3 := Lib.hid (show W3.heap[w.heap.size + 4]? = some (.deferred (some [])) by rw [← hW3]; exact (World.putObj_heap_other (by omega)).trans h2.K)
      have HHE := Lib.hid h2.here
      clear hW3 h2 HM HB1 HTM htm
      refine ⟨some .ret, W3, hend, ?_⟩
      clear hend
      gi_wp2
      refine ⟨by simp, .inl ⟨_, _, rfl, run_takeDeferred HK3.out, ?_⟩⟩
      refine ⟨_, results_one rfl _ _ (w.heap.size + 2) (.bool true) rfl ?_ (fun w => by kernel_rfl), ?_, ?_⟩
      · rw [cell_of_row _ _ 0 _ _ _ ((World.putObj_heap_other (by omega)).trans HR3.out)]; rfl
      · have e : hall_Has.v l0_0 a1 = true := by
          obtain ⟨t, ht⟩ := hpre
          have hs := HHE.out
          unfold hall_Has.v
          rw [← ht]
          simp [hs]
        rw [e]
      · exact grown_below HB3.out (grownBy_putObj' _ _ _) (by omega) HB3.out.size

/-! ### hall.Class -/
noncomputable def clsAssign : Code := match Try.f20.body with | some (.seq _ (.seq (.seq _ (.block _ (.rangeFunc _ _ a _))) _)) => a | _ => .skip
noncomputable def clsBody : Code := match Try.f20.body with | some (.seq _ (.seq (.seq _ (.block _ (.rangeFunc _ _ _ b))) _)) => b | _ => .skip
noncomputable def clsRec (fn : FuncId) (tmps : Array Value) (D : Nat) (st : LoopState) (pe : Option Code) : Loop :=
  { state := st, pending := pe, fn, tmps, params := #[9, 10], assign := clsAssign, body := clsBody, defers := D }
def clsT (hv : Value) (seat : Int) (S X R : Nat) (v6 v7 : Value) (c1 c2 : Value) : Array Value := #[hv, .int .i64 seat, .pointer (some ⟨S, 0, none⟩), .pointer (some ⟨X, 0, none⟩), .pointer (some ⟨R, 0, none⟩), undef, undef, v6, v7, c1, c2, undef, undef, undef, undef]
structure clsMid (w : World) (fn : FuncId) (tm : Array Value) (S S' X R y D : Nat) (A : Option Addr) (c : Nat) (rows : List S61) (seat : Int) (done : List (Int × Int)) (W : World) : Prop where
  hall : HallAt w W S' A c rows
  hX : W.heap[X]? = some (.cells #[.int .i64 seat] 3 (0, 0))
  hR : W.heap[R]? = some (.cells #[.int .i64 0] 3 (0, 0))
  L : W.heap[y]? = some (.loop (clsRec fn tm D .ready none))
  K : W.heap[D]? = some (.deferred (some []))
  no : ∀ p ∈ done, p.1 ≠ seat
theorem clsMid.below {w W W' : World} {fn : FuncId} {tm : Array Value} {S S' X R y D : Nat} {A : Option Addr} {c : Nat} {rows : List S61} {seat : Int} {done : List (Int × Int)} (h : clsMid w fn tm S S' X R y D A c rows seat done W) (hb : Below W.heap.size W W') : clsMid w fn tm S S' X R y D A c rows seat done W' :=
  ⟨h.hall.below hb, blk_below h.hX hb, blk_below h.hR hb, blk_below h.L hb, blk_below h.K hb, h.no⟩
/-- behind the round in which it was found -/
structure clsFin (w : World) (fn : FuncId) (tm : Array Value) (R y D : Nat) (seat s cl : Int) (W : World) : Prop where
  here : s = seat
  hR : W.heap[R]? = some (.cells #[.int .i64 cl] 3 (0, 0))
  L : W.heap[y]? = some (.loop (clsRec fn tm D .done (some .ret)))
  K : W.heap[D]? = some (.deferred (some []))
  b : Below w.heap.size w W
set_option maxRecDepth 100000 in
set_option maxHeartbeats 2000000 in
theorem cls_round (m : Nat) (fn : FuncId) (w : World) (tm : Array Value) (S S' X R y D : Nat) (A : Option Addr) (c : Nat) (rows : List S61) (seat s cl : Int) (done : List (Int × Int)) (hv v6 v7 : Value) (W : World)
    (htm : clsT hv seat S X R v6 v7 undef undef = tm)
    (hSy : S' ≠ y) (hXy : X ≠ y) (hRy : R ≠ y) (hDy : D ≠ y) (hSR : S' ≠ R) (hXR : X ≠ R) (hDR : D ≠ R) (hn : w.heap.size ≤ R) (hny : w.heap.size ≤ y) (hRN : R < y)
    (hM : clsMid w fn tm S S' X R y D A c rows seat done W) :
    ∃ tm', (Instr.yield y #[.int .i64 s, .int .i64 cl]).run Try.prog W = .ok (.round y fn tm' clsAssign clsBody) W ∧
      RoundIn Fence.wide m Try.prog y fn tm' clsAssign clsBody W fun e W' => ((e = .returned (.bool true) ∧ clsMid w fn tm S S' X R y D A c rows seat (done ++ [(s, cl)]) W') ∨ (e = .returned (.bool false) ∧ clsFin w fn tm R y D seat s cl W')) ∧ (∀ (k : Nat) (cs : Array Value) (fr : Nat × Nat), y + 1 ≤ k → W.heap[k]? = some (.cells cs 61 fr) → W'.heap[k]? = W.heap[k]?) ∧ W.heap.size ≤ W'.heap.size := by
  refine ⟨clsT hv seat S X R v6 v7 (.int .i64 s) (.int .i64 cl), ?_, ?_⟩
  · rw [← htm] at hM
    simpa [clsRec, clsT] using run_yield (P := Try.prog) (args := #[.int .i64 s, .int .i64 cl]) hM.L rfl
  have HM := Lib.hid hM
  clear hM
  refine roundIn_of_wpIn trivial ?_
  have hbr := run_beginRound (P := Try.prog) HM.out.L rfl
  obtain ⟨W2, hW2⟩ : ∃ W2, W.putObj y (.loop { clsRec fn tm D .ready none with state := .busy }) = W2 := ⟨_, rfl⟩
  rw [hW2] at hbr
  have HL2 := Lib.hid (show W2.heap[y]? = some (.loop { clsRec fn tm D .ready none with state := .busy }) by rw [← hW2]; exact World.putObj_heap_same (blk_lt HM.out.L))
  have HG2 : Hid (W.grownBy W2 (some y)) := by rw [← hW2]; exact grownBy_putObj' _ _ _
  clear hW2
  have HX2 := Lib.hid ((HG2.out.block X (blk_lt HM.out.hX) (by simpa using hXy)).trans HM.out.hX)
  have HR2 := Lib.hid ((HG2.out.block R (blk_lt HM.out.hR) (by simpa using hRy)).trans HM.out.hR)
  have x0 : W2.cell? ⟨X, 0, none⟩ = some (.int .i64 seat) := cell_of_row _ _ 0 _ _ _ HX2.out
  have r0 : W2.cell? ⟨R, 0, none⟩ = some (.int .i64 0) := cell_of_row _ _ 0 _ _ _ HR2.out
  have rf : W2.frozen? ⟨R, 0, none⟩ = false := blk_free HR2.out 0
  have HTM := Lib.hid htm
  clear htm
  by_cases heq : s = seat
  · have b0 : (s == seat) = true := beq_iff_eq.2 heq
    have HEQ := Lib.hid heq
    clear heq
    simp only [clsAssign, Try.f20, clsT]
    gi_wp2
    simp only [clsBody, Try.f20]
    gi_wp2
    clear hbr
    obtain ⟨W5, hW5⟩ : ∃ W5, W2.setCell ⟨R, 0, none⟩ (.int .i64 cl) = W5 := ⟨_, rfl⟩
    rw [hW5]
    have HG5 : Hid (W2.grownBy W5 (some R)) := by rw [← hW5]; exact grown_set _ _ _ _
    have HR5 := Lib.hid (show W5.heap[R]? = some (.cells #[.int .i64 cl] 3 (0, 0)) by rw [← hW5]; exact blk_set HR2.out 0 _)
    clear hW5
    have hl5 := (HG5.out.block y (blk_lt HL2.out) (by simpa using Ne.symm hRy)).trans HL2.out
    have hk5 : ∀ k, k < W.heap.size → k ≠ y → k ≠ R → W5.heap[k]? = W.heap[k]? := fun k h1 h2 h3 =>
      (HG5.out.block k (Nat.lt_of_lt_of_le h1 HG2.out.size) (by simpa using h3)).trans (HG2.out.block k h1 (by simpa using h2))
    refine ⟨_, _, run_endRound (some .ret) hl5, .inr ⟨rfl, HEQ.out, ?_, ?_, ?_, ?_⟩, ?_, ?_⟩
    · exact (World.putObj_heap_other hRy).trans HR5.out
    · exact World.putObj_heap_same (blk_lt hl5)
    · exact (World.putObj_heap_other hDy).trans ((hk5 D (blk_lt HM.out.K) hDy hDR).trans HM.out.K)
    · have b2 : Below w.heap.size w W2 := grown_below HM.out.hall.b HG2.out hny HM.out.hall.b.size
      have b5 : Below w.heap.size w W5 := grown_below b2 HG5.out hn b2.size
      exact grown_below b5 (grownBy_putObj' _ _ _) hny b5.size
    · intro k cs q1 q2 h1 hc
      exact (World.putObj_heap_other (by omega)).trans (hk5 k (blk_lt hc) (by omega) (by omega))
    · rw [World.putObj_size]; exact Nat.le_trans HG2.out.size HG5.out.size
  · have b0 : (s == seat) = false := beq_eq_false_iff_ne.2 heq
    have HEQ := Lib.hid heq
    clear heq
    simp only [clsAssign, Try.f20, clsT]
    gi_wp2
    simp only [clsBody, Try.f20]
    gi_wp2
    clear hbr
    have hk2 : ∀ k, k < W.heap.size → k ≠ y → W2.heap[k]? = W.heap[k]? := fun k h1 h2 => HG2.out.block k h1 (by simpa using h2)
    refine ⟨_, _, run_endRound none HL2.out, .inl ⟨rfl, ⟨?_, ?_, ?_⟩, ?_, ?_, ?_, ?_, ?_⟩, ?_, ?_⟩
    · exact (World.putObj_heap_other hSy).trans ((hk2 _ (blk_lt HM.out.hall.box) hSy).trans HM.out.hall.box)
    · exact HM.out.hall.rows
    · have b2 : Below w.heap.size w W2 := grown_below HM.out.hall.b HG2.out hny HM.out.hall.b.size
      exact grown_below b2 (grownBy_putObj' _ _ _) hny b2.size
    · exact (World.putObj_heap_other hXy).trans HX2.out
    · exact (World.putObj_heap_other hRy).trans HR2.out
    · exact World.putObj_heap_same (blk_lt HL2.out)
    · exact (World.putObj_heap_other hDy).trans ((hk2 D (blk_lt HM.out.K) hDy).trans HM.out.K)
    · intro p hp
      rcases List.mem_append.1 hp with h | h
      · exact HM.out.no p h
      · rw [List.mem_singleton.1 h]; exact HEQ.out
    · intro k cs q1 q2 h1 hc
      exact (World.putObj_heap_other (by omega)).trans (hk2 k (blk_lt hc) (by omega))
    · rw [World.putObj_size]; exact HG2.out.size

def hall_Class.v (l : List S61) (seat : Int) : Int := match (seatsL l).find? (fun p => p.1 == seat) with | some p => p.2 | none => -1
def hall_Class.f (l0_0 : List S61) (a1 : Int) : Option Int := some (hall_Class.v l0_0 a1)
set_option maxRecDepth 100000 in
set_option maxHeartbeats 4000000 in
theorem hall_Class.calls (A0_0 : Option Addr) (c0_0 : Nat) (l0_0 : List S61) (a1 : Int) (r : Int) (w : World) (hr0_0 : Kd.C k61 w A0_0 l0_0.length l0_0) (hc0_0 : l0_0.length ≤ c0_0) (h : hall_Class.f l0_0 a1 = some r) :
    Calls Try.prog 20 #[.agg #[.slice A0_0 l0_0.length c0_0], .int .i64 a1] w fun e w' => e = .returned (.int .i64 r) ∧ Below w.heap.size w w' := by
  obtain rfl := Option.some.inj h
  clear h
  have HR := Lib.hid hr0_0
  have HC := Lib.hid hc0_0
  clear hr0_0 hc0_0
  refine (callsIn_wide (n := 3)).1 ?_
  refine callsIn_of_wp_marks Try.func20 rfl trivial ?_ rfl
  simp only [Try.ntmps20, List.size_toArray, List.length_cons, List.length_nil, Nat.reduceAdd, Nat.reduceSub, Array.replicate_succ, Array.replicate_zero, List.push_toArray, List.append_toArray, List.nil_append, List.cons_append]
  gi_wp2_with fail
  refine ⟨trivial, ?_⟩
  refine (callsIn_wide.2 (seats_calls A0_0 c0_0 l0_0 _)).mono ?_
  rintro e w2 ⟨rfl, rfl⟩
  gi_wp2_with fail
  refine wpIn_rangeFunc ?_
  intro fn _
  obtain ⟨W0, hW0⟩ : ∃ W0, (((w.alloc (.cells #[.slice A0_0 l0_0.length c0_0] 29)).alloc (.cells #[.int .i64 a1] 3)).alloc (.cells #[.int .i64 0] 3)).alloc (.cells #[.slice A0_0 l0_0.length c0_0] 29) = W0 := ⟨_, rfl⟩
  have hs0 : W0.heap.size = w.heap.size + 4 := by rw [← hW0]; simp
  have hX0 : W0.heap[w.heap.size + 1]? = some (.cells #[.int .i64 a1] 3 (0, 0)) := by
    rw [← hW0]; exact blk_alloc (blk_alloc (by simpa using blk_new (w.alloc _) _) _) _
  have hR0 : W0.heap[w.heap.size + 2]? = some (.cells #[.int .i64 0] 3 (0, 0)) := by
    rw [← hW0]; exact blk_alloc (by simpa using blk_new ((w.alloc _).alloc _) _) _
  have hS0 : W0.heap[w.heap.size + 3]? = some (.cells #[.slice A0_0 l0_0.length c0_0] 29 (0, 0)) := by
    rw [← hW0]; simpa using blk_new (((w.alloc (.cells #[.slice A0_0 l0_0.length c0_0] 29)).alloc (.cells #[.int .i64 a1] 3)).alloc (.cells #[.int .i64 0] 3)) (.cells #[.slice A0_0 l0_0.length c0_0] 29)
  have hb0 : Below w.heap.size w W0 := by
    rw [← hW0]; exact below_alloc (below_alloc (below_alloc (below_alloc (Below.refl _ _) _) _) _) _
  obtain ⟨tm, htm⟩ : ∃ tm, clsT (.agg #[.slice A0_0 l0_0.length c0_0]) a1 w.heap.size (w.heap.size + 1) (w.heap.size + 2) (.agg #[.slice A0_0 l0_0.length c0_0]) (.func (.func 54) #[] #[.pointer (some ⟨w.heap.size + 3, 0, none⟩)]) undef undef = tm := ⟨_, rfl⟩
  obtain ⟨W1, hW1⟩ : ∃ W1, (W0.alloc (.deferred (some []))).alloc (.loop (clsRec fn tm W0.heap.size .ready none)) = W1 := ⟨_, rfl⟩
  have hold : ∀ k, k < W0.heap.size → W1.heap[k]? = W0.heap[k]? := fun k hk => by
    rw [← hW1]; exact (Below.heap_alloc _ _ k (by simp; omega)).trans (Below.heap_alloc _ _ k hk)
  have hb1 : Below w.heap.size w W1 := by rw [← hW1]; exact below_alloc (below_alloc hb0 _) _
  have hM : clsMid w fn tm w.heap.size (w.heap.size + 3) (w.heap.size + 1) (w.heap.size + 2) (w.heap.size + 5) (w.heap.size + 4) A0_0 c0_0 l0_0 a1 [] W1 := by
    refine ⟨⟨(hold _ (by omega)).trans hS0, HR.out, hb1⟩, (hold _ (by omega)).trans hX0, (hold _ (by omega)).trans hR0, ?_, ?_, by simp⟩
    · rw [← hW1]; have := World.alloc_heap_new (W0.alloc (.deferred (some []))) (.loop (clsRec fn tm W0.heap.size .ready none)); rw [World.size_alloc, hs0] at this; rw [hs0]; exact this
    · rw [← hW1]; have := (Below.heap_alloc (W0.alloc (.deferred (some []))) (.loop (clsRec fn tm W0.heap.size .ready none)) W0.heap.size (by simp)).trans (World.alloc_heap_new W0 _); rw [hs0] at this; rw [hs0]; exact this
  have HM := Lib.hid hM
  have HB1 := Lib.hid hb1
  have HTM := Lib.hid htm
  have hsz1 : W1.heap.size = w.heap.size + 6 := by rw [← hW1]; simp [hs0]
  have HSZ := Lib.hid hsz1
  clear hM hold hb1 hS0 hX0 hR0 hb0 hsz1
  refine ⟨w.heap.size + 5, [{ target := .collected (w.heap.size + 4), args := #[] }], W1, { target := .fn (.func 54) #[.pointer (some ⟨w.heap.size + 3, 0, none⟩)], args := #[.func (.yield (w.heap.size + 5)) #[] #[]] }, W1, 54,
    #[.func (.yield (w.heap.size + 5)) #[] #[], .pointer (some ⟨w.heap.size + 3, 0, none⟩)], W1, ?_, ?_, ?_, ?_, fun h => (by cases h), ?_⟩
  · rw [← hW1, ← htm, hW0, hs0]
    have := run_enterLoop_outer (P := Try.prog) (w := W0) fn (clsT (.agg #[.slice A0_0 l0_0.length c0_0]) a1 w.heap.size (w.heap.size + 1) (w.heap.size + 2) (.agg #[.slice A0_0 l0_0.length c0_0]) (.func (.func 54) #[] #[.pointer (some ⟨w.heap.size + 3, 0, none⟩)]) undef undef) #[9, 10] clsAssign clsBody
    rw [hs0] at this
    exact this
  · simp [resolve, go_sem]
  · intro f' _; exact trivial
  · simp [invoke, go_sem]
  clear hW0 hs0 hW1
  refine (seats_iter 2 0 (w.heap.size + 3) (w.heap.size + 5) (w.heap.size + 6) A0_0 c0_0 l0_0 HC.out fn clsAssign clsBody
    (fun done W => clsMid w fn tm w.heap.size (w.heap.size + 3) (w.heap.size + 1) (w.heap.size + 2) (w.heap.size + 5) (w.heap.size + 4) A0_0 c0_0 l0_0 a1 done W ∧ w.heap.size + 6 ≤ W.heap.size) (fun done s cl W => clsFin w fn tm (w.heap.size + 2) (w.heap.size + 5) (w.heap.size + 4) a1 s cl W ∧ ∀ p ∈ done, p.1 ≠ a1)
    (fun done W h => ⟨h.1.hall.box, Kd.C_below h.1.hall.rows h.1.hall.b, h.2⟩) (fun done W W' h hb => ⟨h.1.below hb, Nat.le_trans h.2 hb.size⟩) ?_ W1 ⟨HM.out, Nat.le_of_eq HSZ.out.symm⟩).mono ?_
  · intro done s cl W hI _
    obtain ⟨tm', h1, h2⟩ := cls_round 1 fn w tm w.heap.size (w.heap.size + 3) (w.heap.size + 1) (w.heap.size + 2) (w.heap.size + 5) (w.heap.size + 4) A0_0 c0_0 l0_0 a1 s cl done _ _ _ W HTM.out (by omega) (by omega) (by omega) (by omega) (by omega) (by omega) (by omega) (by omega) (by omega) (by omega) hI.1
    refine ⟨tm', h1, h2.mono ?_⟩
    rintro e W' ⟨h3, h4, h5⟩
    refine ⟨?_, h4, h5⟩
    rcases h3 with ⟨h6, h7⟩ | ⟨h6, h7⟩
    · exact .inl ⟨h6, h7, Nat.le_trans hI.2 h5⟩
    · exact .inr ⟨h6, h7, hI.1.no⟩
  · rintro e W2 ⟨⟨v, rfl⟩, h2 | ⟨done, s, cl, hpre, h2, hno⟩⟩
    · have hend := run_endLoop (P := Try.prog) h2.1.L (by simp [clsRec])
      obtain ⟨W3, hW3⟩ : ∃ W3, W2.putObj (w.heap.size + 5) (.loop { clsRec fn tm (w.heap.size + 4) .ready none with state := .exhausted }) = W3 := ⟨_, rfl⟩
      rw [hW3] at hend
      have HB3 := Lib.hid (show Below w.heap.size w W3 by rw [← hW3]; exact grown_below h2.1.hall.b (grownBy_putObj' _ _ _) (by omega) h2.1.hall.b.size)
      have HR3 := Lib.hid (show W3.heap[w.heap.size + 2]? = some (.cells #[.int .i64 0] 3 (0, 0)) by rw [← hW3]; exact (World.putObj_heap_other (by omega)).trans h2.1.hR)
      have HK3 := Lib.hid (show W3.heap[w.heap.size + 4]? = some (.deferred (some [])) by rw [← hW3]; exact (World.putObj_heap_other (by omega)).trans h2.1.K)
      have HNO := Lib.hid h2.1.no
      clear hW3 h2 HM HB1 HTM htm
      refine ⟨none, W3, hend, ?_⟩
      clear hend
      have c0 : W3.cell? ⟨w.heap.size + 1 + 1, 0, none⟩ = some (.int .i64 0) := cell_of_row _ _ 0 _ _ _ HR3.out
      have f0 : W3.frozen? ⟨w.heap.size + 1 + 1, 0, none⟩ = false := blk_free HR3.out 0
      gi_wp2
      have hR4 : (W3.setCell ⟨w.heap.size + 1 + 1, 0, none⟩ (.int .i64 (-1))).heap[w.heap.size + 2]? = some (.cells #[.int .i64 (-1)] 3 (0, 0)) := blk_set HR3.out 0 _
      have hK4 : (W3.setCell ⟨w.heap.size + 1 + 1, 0, none⟩ (.int .i64 (-1))).heap[w.heap.size + 4]? = some (.deferred (some [])) := (Below.heap_setCell _ _ _ _ (by simp)).trans HK3.out
      have hB4 : Below w.heap.size w (W3.setCell ⟨w.heap.size + 1 + 1, 0, none⟩ (.int .i64 (-1))) := HB3.out.setCell (by simp; omega) _
      refine ⟨by simp, .inl ⟨_, _, rfl, run_takeDeferred hK4, ?_⟩⟩
      · refine ⟨_, results_one rfl _ _ (w.heap.size + 2) (.int .i64 (-1)) rfl ?_ (fun w => by kernel_rfl), ?_, ?_⟩
        · rw [cell_of_row _ _ 0 _ _ _ ((World.putObj_heap_other (by omega)).trans hR4)]; rfl
        · have e : hall_Class.v l0_0 a1 = -1 := by
            unfold hall_Class.v
            rw [List.find?_eq_none.2 (fun p hp => by simpa using HNO.out p hp)]
          rw [e]
        · exact grown_below hB4 (grownBy_putObj' _ _ _) (by omega) hB4.size
    · have hend := run_endLoop (P := Try.prog) h2.L (by simp [clsRec])
      obtain ⟨W3, hW3⟩ : ∃ W3, W2.putObj (w.heap.size + 5) (.loop { clsRec fn tm (w.heap.size + 4) .done (some .ret) with state := .exhausted }) = W3 := ⟨_, rfl⟩
      rw [hW3] at hend
      have HB3 := Lib.hid (show Below w.heap.size w W3 by rw [← hW3]; exact grown_below h2.b (grownBy_putObj' _ _ _) (by omega) h2.b.size)
      have HR3 := Lib.hid (show W3.heap[w.heap.size + 2]? = some (.cells #[.int .i64 cl] 3 (0, 0)) by rw [← hW3]; exact (World.putObj_heap_other (by omega)).trans h2.hR)
      have HK3 := Lib.hid (show W3.heap[w.heap.size + 4]? = some (.deferred (some [])) by rw [← hW3]; exact (World.putObj_heap_other (by omega)).trans h2.K)
      have HHE := Lib.hid h2.here
      clear hW3 h2 HM HB1 HTM htm
      refine ⟨some .ret, W3, hend, ?_⟩
      clear hend
      gi_wp2
      refine ⟨by simp, .inl ⟨_, _, rfl, run_takeDeferred HK3.out, ?_⟩⟩
      refine ⟨_, results_one rfl _ _ (w.heap.size + 2) (.int .i64 cl) rfl ?_ (fun w => by kernel_rfl), ?_, ?_⟩
      · rw [cell_of_row _ _ 0 _ _ _ ((World.putObj_heap_other (by omega)).trans HR3.out)]; rfl
      · have e : hall_Class.v l0_0 a1 = cl := by
          obtain ⟨t, ht⟩ := hpre
          have hs := HHE.out
          unfold hall_Class.v
          rw [← ht]
          rw [List.find?_append, List.find?_append, List.find?_eq_none.2 (fun p hp => by simpa using hno p hp)]; simp [hs]
        rw [e]
      · exact grown_below HB3.out (grownBy_putObj' _ _ _) (by omega) HB3.out.size
end Go.Proofs.Yteojldbfebnccaa
