/- The iterator of rows, run with sum.More's rounds: all rows of a text are taken, in order. -/
import Derived.Test.YtjlcigdhhkfdiaaSumRound
namespace Go.Proofs.Ytjlcigdhhkfdiaa
open Go.RowKit
attribute [local go_sem] Oper.semAt_some

/-- how long the rest is -/
noncomputable def szAt (W : World) (S : Nat) : Nat := match W.cell? ⟨S, 0, none⟩ with | some (.string s) => s.size | _ => 0
theorem szAt_eq {W : World} {S : Nat} {s : ByteArray} (h : W.cell? ⟨S, 0, none⟩ = some (.string s)) : szAt W S = s.size := by simp [szAt, h]

theorem list_extract (s : ByteArray) (a b : Nat) : (s.extract a b).data.toList = (s.data.toList.take b).drop a := by
  rw [ByteArray.data_extract, Array.toList_extract, List.extract_eq_drop_take']

set_option maxRecDepth 100000 in
set_option maxHeartbeats 2000000 in
theorem rows1_more (n : Nat) (fn : FuncId) (n0 B S l D : Nat) (w : World) (h : Int × Int) (s : ByteArray) (hsz : s.size ≤ 9223372036854775807) (v0 v1 v2 v3 v4 v10 v11 v12 v13 : Value) (W : World) (r : Int × Int) (k : Nat) (hk : s.size ≤ 2048 * (k + 1)) (hr : Sm.pieces (k + 1) h s.data.toList = r)
    (hBS : B ≠ S) (hBl : B ≠ l) (hBD : B ≠ D) (hlS : S ≠ l) (hlD : D ≠ l) (hSD : S ≠ D) (hn : n0 ≤ B) (hnl : n0 ≤ l) (hnS : n0 ≤ S)
    (hM : Mid n0 w fn (mT v0 v1 v2 v3 v4 v10 v11 v12 v13 B undef) B S l D h s W) :
    CallsIn Fence.wide n Try.prog 18 #[.func (.yield l) #[] #[], .pointer (some ⟨S, 0, none⟩)] W
      fun e W' => (∃ v, e = .returned v) ∧ ∃ s', Mid n0 w fn (mT v0 v1 v2 v3 v4 v10 v11 v12 v13 B undef) B S l D r s' W' := by
  have hM0 := Lib.hid hM
  have hr0 := Lib.hid hr
  have hk0 := Lib.hid hk
  clear hM hr hk
  refine callsIn_of_wp Try.func18 rfl trivial ?_ rfl
  simp only [Try.ntmps18, List.size_toArray, List.length_cons, List.length_nil, Nat.reduceAdd, Nat.reduceSub, Array.replicate_succ, Array.replicate_zero, List.push_toArray, List.append_toArray, List.nil_append, List.cons_append]
  gi_wp2
  gi_loopw [11] (fun _ wr => ∃ (h : Int × Int) (s : ByteArray) (k : Nat), s.size ≤ 9223372036854775807 ∧ Hid (s.size ≤ 2048 * (k + 1)) ∧ Hid (Sm.pieces (k + 1) h s.data.toList = r) ∧ Hid (Mid n0 w fn (mT v0 v1 v2 v3 v4 v10 v11 v12 v13 B undef) B S l D h s wr))
    (fun _ wr => szAt wr S)
  case atStart => exact ⟨h, s, k, hsz, hk0.out, hr0.out, hM0.out⟩
  case round =>
    clear hM0 hr0 hk0 hsz
    obtain ⟨h, s, k, hsz, hk, hr, hM⟩ := hrel
    have hs := blk_cell hM.out.hS 0
    have hsf := blk_free hM.out.hS 0
    by_cases hlt : 2048 < s.size
    · have hy1 : (Instr.yield l #[.string (s.extract 0 2048)]).run Try.prog wr = .ok (.round l fn (mT v0 v1 v2 v3 v4 v10 v11 v12 v13 B (.string (s.extract 0 2048))) moreAssign moreBody) wr := by
        simpa [moreRec, mT] using run_yield (P := Try.prog) (args := #[.string (s.extract 0 2048)]) hM.out.L rfl
      gi_wp2
      refine ⟨fun hh => (by cases hh), ?_⟩
      refine (more_round (n - 1) fn n0 B S l D w (s.extract 0 2048) (by simp; omega) h s v0 v1 v2 v3 v4 v10 v11 v12 v13 wr hBS hBl hBD hlS hlD hn hnl hM.out).mono ?_
      rintro e w4 ⟨rfl, hM4⟩
      have hM4' := Lib.hid hM4
      clear hM4 hs hsf hy1
      have hs := blk_cell hM4'.out.hS 0
      have hsf := blk_free hM4'.out.hS 0
      have hsz4 : szAt wr S = s.size := szAt_eq (blk_cell hM.out.hS 0)
      have HSZ := Lib.hid hsz4
      clear hsz4
      gi_wp2
      have hset : (w4.setCell ⟨S, 0, none⟩ (.string (s.extract 2048 s.size))).heap[S]? = some (.cells #[.string (s.extract 2048 s.size)] 9 (0, 0)) := blk_set hM4'.out.hS 0 _
      go_roundw
      case rel =>
        refine ⟨Sm.piece h (s.data.toList.take 2048), s.extract 2048 s.size, k - 1, by simp; omega, ?_, ?_, ?_⟩
        · have := hk.out
          show (s.extract 2048 s.size).size ≤ _
          simp
          omega
        · have h1 := hr.out
          have h2 := hk.out
          obtain ⟨j, rfl⟩ : ∃ j, k = j + 1 := ⟨k - 1, by omega⟩
          rw [Sm.pieces, if_pos (by simpa using hlt)] at h1
          show Sm.pieces (j + 1) _ _ = r
          have e : (s.extract 2048 s.size).data.toList = s.data.toList.drop 2048 := by rw [list_extract, List.take_of_length_le (by simp)]
          rw [e]
          exact h1
        · have hb := hM4'.out
          refine ⟨?_, hset, ?_, ?_, hb.b.setCell hnS _⟩
          · have := hb.hB
            rw [list_extract] at this
            exact (Below.heap_setCell _ _ _ _ hBS).trans this
          · exact (Below.heap_setCell _ _ _ _ (Ne.symm hlS)).trans hb.L
          · exact (Below.heap_setCell _ _ _ _ (Ne.symm hSD)).trans hb.K
      case measure =>
        rw [HSZ.out, szAt_eq (blk_cell hset 0)]
        simp
        omega
    · have hy1 : (Instr.yield l #[.string s]).run Try.prog wr = .ok (.round l fn (mT v0 v1 v2 v3 v4 v10 v11 v12 v13 B (.string s)) moreAssign moreBody) wr := by
        simpa [moreRec, mT] using run_yield (P := Try.prog) (args := #[.string s]) hM.out.L rfl
      gi_wp2
      refine ⟨fun _ h => (by cases h), ?_⟩
      gi_wp2
      refine ⟨fun hh => (by cases hh), ?_⟩
      refine (more_round (n - 1) fn n0 B S l D w s (by omega) h s v0 v1 v2 v3 v4 v10 v11 v12 v13 wr hBS hBl hBD hlS hlD hn hnl hM.out).mono ?_
      rintro e w4 ⟨rfl, hM4⟩
      have hM4' := Lib.hid hM4
      clear hM4
      gi_wp2
      go_end0
      refine ⟨⟨_, rfl⟩, s, ?_⟩
      have h1 := hr.out
      rw [Sm.pieces, if_neg (by simpa using hlt)] at h1
      rw [← h1]
      exact hM4'.out
end Go.Proofs.Ytjlcigdhhkfdiaa
