/- One round of sum.More's loop over its rows: a row's bytes are added, then what is left of both is kept. -/
import Derived.RangeFuncRecord
import Derived.RangeFuncCalls
import Derived.RangeFuncBox
import Derived.WalkKit
import Derived.OwnWalkIn
import Derived.TacticsInMore
import Derived.LoopNIn
import Derived.LoopIn
import Derived.Lib.ConvBytes
import Derived.Lib.Hide
import Derived.Test.YtjlcigdhhkfdiaaBasex1
import Derived.Test.YtjlcigdhhkfdiaaSumPure
namespace Go.Proofs.Ytjlcigdhhkfdiaa
open Go.RowKit
attribute [local go_sem] Oper.semAt_some

/-! ### Blocks of cells -/
theorem blk_cell {W : World} {b : Nat} {cs : Array Value} {t : TypeId} {f : Nat × Nat} (h : W.heap[b]? = some (.cells cs t f)) (j : Nat) : W.cell? ⟨b, j, none⟩ = cs[j]? := by simp [World.cell?, h]
theorem blk_free {W : World} {b : Nat} {cs : Array Value} {t : TypeId} (h : W.heap[b]? = some (.cells cs t (0, 0))) (j : Nat) : W.frozen? ⟨b, j, none⟩ = false := by simp [World.frozen?, h]
theorem blk_set {W : World} {b : Nat} {cs : Array Value} {t : TypeId} {f : Nat × Nat} (h : W.heap[b]? = some (.cells cs t f)) (j : Nat) (u : Value) : (W.setCell ⟨b, j, none⟩ u).heap[b]? = some (.cells (cs.setIfInBounds j u) t f) := by
  obtain ⟨hlt, hk⟩ := Array.getElem?_eq_some_iff.1 h
  show (W.heap.modify b _)[b]? = _
  rw [Array.getElem?_eq_getElem (by rw [Array.size_modify]; exact hlt), Array.getElem_modify_self, hk]
  rfl
theorem blk_lt {W : World} {b : Nat} {o : Obj} (h : W.heap[b]? = some o) : b < W.heap.size := (Array.getElem?_eq_some_iff.1 h).1
theorem grown_set (W : World) (b j : Nat) (v : Value) : W.grownBy (W.setCell ⟨b, j, none⟩ v) (some b) :=
  ⟨rfl, rfl, rfl, (KeepsWalks.setCell W _ v).size, fun k _ hk => Below.heap_setCell _ _ _ k (fun e => hk (by rw [e]))⟩
theorem grown_trans {a b c : World} {r : Option Nat} (h : a.grownBy b r) (k : b.grownBy c r) : a.grownBy c r :=
  ⟨k.os.trans h.os, k.tape.trans h.tape, k.output.trans h.output, Nat.le_trans h.size k.size, fun i hi hr => (k.block i (Nat.lt_of_lt_of_le hi h.size) hr).trans (h.block i hi hr)⟩
theorem grown_refl (a : World) (r : Option Nat) : a.grownBy a r := ⟨rfl, rfl, rfl, Nat.le_refl _, fun _ _ _ => rfl⟩
theorem grown_of_below {a b : World} (h : Below a.heap.size a b) (r : Option Nat) : a.grownBy b r := ⟨h.os, h.tape, h.output, h.size, fun k hk _ => h.block k hk⟩
theorem grown_below {n0 : Nat} {w a b : World} {r : Nat} (h : Below n0 w a) (hg : a.grownBy b (some r)) (hr : n0 ≤ r) (hn : n0 ≤ a.heap.size) : Below n0 w b :=
  h.grown hg hn (fun k e => by cases e; exact hr)
theorem bytesWorld_grown (w : World) (e : TypeId) (s : ByteArray) (r : Option Nat) : w.grownBy (Lib.bytesWorld w e s) r :=
  ⟨rfl, rfl, rfl, by rw [Lib.bytesWorld_size]; omega, fun k hk _ => Lib.bytesWorld_at_old w e s k hk⟩

noncomputable def moreAssign : Code := match Try.f10.body with | some (.seq _ (.seq _ (.seq (.seq _ (.block _ (.rangeFunc _ _ a _))) _))) => a | _ => .skip
noncomputable def moreBody : Code := match Try.f10.body with | some (.seq _ (.seq _ (.seq (.seq _ (.block _ (.rangeFunc _ _ _ b))) _))) => b | _ => .skip
/-- The temporaries, slot 14 the piece. -/
def mT (v0 v1 v2 v3 v4 v10 v11 v12 v13 : Value) (B : Nat) (v14 : Value) : Array Value :=
  #[v0, v1, v2, v3, v4, .pointer (some ⟨B, 0, none⟩), undef, undef, undef, undef, v10, v11, v12, v13, v14, undef, undef, undef, undef, undef, undef, undef, undef, undef, undef, undef, undef, undef, undef, undef, undef, undef, undef, undef, undef, undef, undef, undef, undef, undef, undef]

/-- The loop's record. -/
noncomputable def moreRec (fn : FuncId) (tmps : Array Value) (D : Nat) (st : LoopState) : Loop :=
  { state := st, pending := none, fn, tmps, params := #[14], assign := moreAssign, body := moreBody, defers := D }

/-- BETWEEN TWO ROUNDS. -/
structure Mid (n0 : Nat) (w : World) (fn : FuncId) (tmps : Array Value) (B S l D : Nat) (h : Int × Int) (s : ByteArray) (W : World) : Prop where
  hB : W.heap[B]? = some (.cells #[.int .u32 h.1, .int .u32 h.2] 35 (0, 0))
  hS : W.heap[S]? = some (.cells #[.string s] 9 (0, 0))
  L : W.heap[l]? = some (.loop (moreRec fn tmps D .ready))
  K : W.heap[D]? = some (.deferred (some []))
  b : Below n0 w W

theorem foldl_take_succ {β : Type} (f : β → UInt8 → β) (b : β) (l : List UInt8) (k : Nat) (hk : k < l.length) : (l.take (k + 1)).foldl f b = f ((l.take k).foldl f b) (l.getD k 0) := by
  rw [List.take_succ_eq_append_getElem hk, List.foldl_append]
  simp [List.getD, hk]

set_option maxRecDepth 100000 in
set_option maxHeartbeats 2000000 in
theorem more_round (m : Nat) (fn : FuncId) (n0 B S l D : Nat) (w : World) (x : ByteArray) (hx : x.size ≤ 2048) (h : Int × Int) (s : ByteArray) (v0 v1 v2 v3 v4 v10 v11 v12 v13 : Value) (W : World)
    (hBS : B ≠ S) (hBl : B ≠ l) (hBD : B ≠ D) (hlS : S ≠ l) (hlD : D ≠ l) (hn : n0 ≤ B) (hnl : n0 ≤ l)
    (hM : Mid n0 w fn (mT v0 v1 v2 v3 v4 v10 v11 v12 v13 B undef) B S l D h s W) :
    RoundIn Fence.wide m Try.prog l fn (mT v0 v1 v2 v3 v4 v10 v11 v12 v13 B (.string x)) moreAssign moreBody W
      fun e W' => e = .returned (.bool true) ∧ Mid n0 w fn (mT v0 v1 v2 v3 v4 v10 v11 v12 v13 B undef) B S l D (Sm.piece h x.data.toList) s W' := by
  refine roundIn_of_wpIn trivial ?_
  have hbr := run_beginRound (P := Try.prog) hM.L rfl
  obtain ⟨W2, hW2⟩ : ∃ W2, W.putObj l (.loop { moreRec fn (mT v0 v1 v2 v3 v4 v10 v11 v12 v13 B undef) D .ready with state := .busy }) = W2 := ⟨_, rfl⟩
  rw [hW2] at hbr
  have HL2 : Hid (W2.heap[l]? = some (.loop { moreRec fn (mT v0 v1 v2 v3 v4 v10 v11 v12 v13 B undef) D .ready with state := .busy })) := by rw [← hW2]; exact World.putObj_heap_same (blk_lt hM.L)
  have HG2 : Hid (W.grownBy W2 (some l)) := by rw [← hW2]; exact grownBy_putObj' _ _ _
  clear hW2
  have HB2 : Hid (W2.heap[B]? = some (.cells #[.int .u32 h.1, .int .u32 h.2] 35 (0, 0))) := (HG2.block B (blk_lt hM.hB) (by simpa using hBl)).trans hM.hB
  have hcv : ∀ W : World, (convert 9 32 (.string x)).run Try.prog W = .ok (.slice (some ⟨W.heap.size, 0, none⟩) x.size (grownCap W x.size 0 5)) (Lib.bytesWorld W 5 x) :=
    fun W => Lib.run_convert_string_bytes W 9 32 5 x Try.underlying9 Try.underlying32 Try.underlying5
  simp only [moreAssign, Try.f10, mT]
  gi_wp2
  simp only [moreBody, Try.f10]
  gi_wp2
  clear hcv hbr
  obtain ⟨W3, hW3⟩ : ∃ W3, Lib.bytesWorld W2 5 x = W3 := ⟨_, rfl⟩
  have HG3 : Hid (W2.grownBy W3 (some B)) := by rw [← hW3]; exact bytesWorld_grown _ _ _ _
  have HC3 : Hid (∀ j, j < x.size → W3.cell? ⟨W2.heap.size, j, none⟩ = some (.int .u8 (x.data.toList.getD j 0).toNat)) := by rw [← hW3]; exact fun j hj => Lib.bytesWorld_cell W2 5 x j hj
  have HB3 : Hid (W3.heap[B]? = some (.cells #[.int .u32 h.1, .int .u32 h.2] 35 (0, 0))) := by rw [← hW3]; exact (Lib.bytesWorld_at_old W2 5 x B (blk_lt HB2.out)).trans HB2.out
  have HZ3 : Hid (W3.heap.size = W2.heap.size + 1) := by rw [← hW3]; exact Lib.bytesWorld_size _ _ _
  rw [hW3]
  clear hW3
  have HBb := blk_lt HB2.out
  gi_loopw [18] (fun i wr => ∃ k : Nat, k ≤ x.size ∧ i = .int .i64 k ∧ Hid (wr.heap[B]? = some (.cells #[.int .u32 ((x.data.toList.take k).foldl Sm.stepW h).1, .int .u32 ((x.data.toList.take k).foldl Sm.stepW h).2] 35 (0, 0))) ∧ Hid (W3.grownBy wr (some B)))
    (fun i _ => x.size - (intOf i).toNat)
  case atStart => exact ⟨0, Nat.zero_le _, rfl, HB3, grown_refl _ _⟩
  case round =>
    obtain ⟨k, hk, rfl, HBk, HGk⟩ := hrel
    by_cases hlt : k < x.size
    · have hfs := foldl_take_succ Sm.stepW h x.data.toList k (by simpa using hlt)
      obtain ⟨c, hc⟩ : ∃ c, x.data.toList.getD k 0 = c := ⟨_, rfl⟩
      rw [hc] at hfs
      have hcell : wr.cell? ⟨W2.heap.size, k, none⟩ = some (.int .u8 c.toNat) := by
        rw [← hc, World.cell?_of_block (w := W3) (HGk.out.block W2.heap.size (by have := HZ3.out; omega) (by intro e; cases e; omega))]
        exact HC3.out k hlt
      clear hc
      obtain ⟨lo, hlo⟩ : ∃ lo, ((x.data.toList.take k).foldl Sm.stepW h).1 = lo := ⟨_, rfl⟩
      obtain ⟨hi, hhi⟩ : ∃ hi, ((x.data.toList.take k).foldl Sm.stepW h).2 = hi := ⟨_, rfl⟩
      rw [hlo, hhi] at HBk
      have hs0 : (x.data.toList.take (k + 1)).foldl Sm.stepW h = ((lo + (c.toNat : Int)) % 4294967296, (hi + (lo + (c.toNat : Int))) % 4294967296) := by
        rw [hfs]; simp only [Sm.stepW, hlo, hhi]
      have HS := Lib.hid hs0
      clear hs0
      clear hfs hlo hhi
      have h0 : wr.cell? ⟨B, 0, none⟩ = some (.int .u32 lo) := blk_cell HBk.out 0
      have h1 : wr.cell? ⟨B, 1, none⟩ = some (.int .u32 hi) := blk_cell HBk.out 1
      have f0 : wr.frozen? ⟨B, 0, none⟩ = false := blk_free HBk.out 0
      have f1 : wr.frozen? ⟨B, 1, none⟩ = false := blk_free HBk.out 1
      gi_wp2
      go_roundw
      case rel => exact ⟨k + 1, by omega, by go_num, by rw [HS.out]; exact blk_set (blk_set HBk.out 0 _) 1 _, grown_trans HGk.out (grown_trans (grown_set wr B 0 _) (grown_set _ B 1 _))⟩
      case measure => simp [intOf]; omega
    · obtain rfl : k = x.size := by omega
      obtain ⟨lo, hlo⟩ : ∃ lo, ((x.data.toList.take x.size).foldl Sm.stepW h).1 = lo := ⟨_, rfl⟩
      obtain ⟨hi, hhi⟩ : ∃ hi, ((x.data.toList.take x.size).foldl Sm.stepW h).2 = hi := ⟨_, rfl⟩
      rw [hlo, hhi] at HBk
      have hps : Sm.piece h x.data.toList = (Int.tmod lo 65521, Int.tmod hi 65521) := by
        rw [← hlo, ← hhi, List.take_of_length_le (by simp)]; exact rfl
      have HP := Lib.hid hps
      clear hps hlo hhi
      have h0 : wr.cell? ⟨B, 0, none⟩ = some (.int .u32 lo) := blk_cell HBk.out 0
      have h1 : wr.cell? ⟨B, 1, none⟩ = some (.int .u32 hi) := blk_cell HBk.out 1
      gi_wp2_with fail
      refine ⟨trivial, fun hh => (by cases hh), ?_⟩
      refine (CallsIn.inRound l (callsIn_wide.2 (sum_halves_left.calls lo hi (Int.tmod lo 65521) (Int.tmod hi 65521) _ rfl))).mono ?_
      rintro e w4 ⟨rfl, hb4⟩
      have HB4 : Hid (w4.heap[B]? = some (.cells #[.int .u32 lo, .int .u32 hi] 35 (0, 0))) := (hb4.block B (blk_lt HBk.out)).trans HBk.out
      have h0 : w4.cell? ⟨B, 0, none⟩ = some (.int .u32 lo) := blk_cell HB4.out 0
      have h1 : w4.cell? ⟨B, 1, none⟩ = some (.int .u32 hi) := blk_cell HB4.out 1
      have f0 : w4.frozen? ⟨B, 0, none⟩ = false := blk_free HB4.out 0
      have f1 : w4.frozen? ⟨B, 1, none⟩ = false := blk_free HB4.out 1
      gi_wp2
      obtain ⟨W5, hW5⟩ : ∃ W5, (w4.setCell ⟨B, 0, none⟩ (.int .u32 (Int.tmod lo 65521))).setCell ⟨B, 1, none⟩ (.int .u32 (Int.tmod hi 65521)) = W5 := ⟨_, rfl⟩
      have hB5 : W5.heap[B]? = some (.cells #[.int .u32 (Int.tmod lo 65521), .int .u32 (Int.tmod hi 65521)] 35 (0, 0)) := by rw [← hW5]; exact blk_set (blk_set HB4.out 0 _) 1 _
      have hG5 : W2.grownBy W5 (some B) := by
        rw [← hW5]
        exact grown_trans HG3.out (grown_trans HGk.out (grown_trans (grown_of_below hb4 _) (grown_trans (grown_set _ B 0 _) (grown_set _ B 1 _))))
      rw [hW5]
      clear hW5
      have hl5 := (hG5.block l (blk_lt HL2.out) (by simpa using Ne.symm hBl)).trans HL2.out
      have hk : ∀ k, k < W.heap.size → k ≠ l → k ≠ B → W5.heap[k]? = W.heap[k]? := fun k h1 h2 h3 =>
        (hG5.block k (Nat.lt_of_lt_of_le h1 HG2.out.size) (by simpa using h3)).trans (HG2.out.block k h1 (by simpa using h2))
      refine ⟨_, _, run_endRound none hl5, rfl, ⟨?_, ?_, ?_, ?_, ?_⟩⟩
      · rw [HP.out]; exact (World.putObj_heap_other hBl).trans hB5
      · exact (World.putObj_heap_other hlS).trans ((hk S (blk_lt hM.hS) hlS (Ne.symm hBS)).trans hM.hS)
      · exact World.putObj_heap_same (blk_lt hl5)
      · exact (World.putObj_heap_other hlD).trans ((hk D (blk_lt hM.K) hlD (Ne.symm hBD)).trans hM.K)
      · have b2 : Below n0 w W2 := grown_below hM.b HG2.out hnl (Nat.le_of_lt (Nat.lt_of_le_of_lt hn (blk_lt hM.hB)))
        have b5 : Below n0 w W5 := grown_below b2 hG5 hn (Nat.le_of_lt (Nat.lt_of_le_of_lt hn HBb))
        exact grown_below b5 (grownBy_putObj' _ _ _) hnl (Nat.le_of_lt (Nat.lt_of_le_of_lt hn (blk_lt hB5)))
end Go.Proofs.Ytjlcigdhhkfdiaa
