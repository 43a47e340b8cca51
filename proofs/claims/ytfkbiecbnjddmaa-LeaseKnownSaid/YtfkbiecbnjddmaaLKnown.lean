/- LeaseKnown: the walk. -/
import Derived.Test.YtfkbiecbnjddmaaLNil
import Derived.Test.YtfkbiecbnjddmaaLWorks
namespace Go.Proofs.Ytfkbiecbnjddmaa
open Go.RowKit Go.MapKept Go.ChangeMaps Go.Proofs.YtfkbiecbnjddmaaW.PrintWords
set_option linter.unusedVariables false
theorem RowOut.chain2 {W W1 W2 : World} {r : Nat} {s : St} {zs : List Lz} (h : Below W.heap.size W W1) (hs : ∀ i, s.foot i → W.heap.size ≤ i) (o : RowOut W1 W2 r s zs) :
    ∃ s' ys, RowAt W2 r s' ys ∧ ys.Perm zs ∧ (∀ i, s'.foot i → W.heap.size ≤ i) ∧ Below W.heap.size W W2 ∧ ∀ b, b < W1.heap.size → ¬ s.foot b → W2.heap[b]? = W1.heap[b]? ∧ ¬ s'.foot b := by
  obtain ⟨off, s', ys, h1, h2, h3⟩ := o
  refine ⟨s', ys, h1, h2, fun i hi => (h3 i hi).elim (hs i) (Nat.le_trans h.size), ?_, fun b hb hf => ⟨off.block b hb hf, fun hc => (h3 b hc).elim hf (fun h => by omega)⟩⟩
  exact ⟨off.os.trans h.os, off.tape.trans h.tape, off.output.trans h.output, Nat.le_trans h.size off.size, fun i hi => (off.block i (Nat.lt_of_lt_of_le hi h.size) (fun hc => by have := hs i hc; omega)).trans (h.block i hi)⟩
theorem TakeOut.chain2 {W W1 W2 : World} {r : Nat} {s : St} {xs out rest : List Lz} {now : Int} {v : Value} (h : Below W.heap.size W W1) (hs : ∀ i, s.foot i → W.heap.size ≤ i) (o : TakeOut W1 W2 r s xs now v out rest) :
    ∃ s', RowAt W2 r s' rest ∧ (∀ i, s'.foot i → W.heap.size ≤ i) ∧ Below W.heap.size W W2 ∧ (∀ b, b < W1.heap.size → ¬ s.foot b → W2.heap[b]? = W1.heap[b]? ∧ ¬ s'.foot b) ∧ ∀ k, v.ownBlock = some k → ¬ s'.foot k := by
  obtain ⟨_, _, off, ⟨s', h1, h3, h4⟩, _⟩ := o
  refine ⟨s', h1, fun i hi => (h3 i hi).elim (hs i) (Nat.le_trans h.size), ?_, fun b hb hf => ⟨off.block b hb hf, fun hc => (h3 b hc).elim hf (fun h => by omega)⟩, h4⟩
  exact ⟨off.os.trans h.os, off.tape.trans h.tape, off.output.trans h.output, Nat.le_trans h.size off.size, fun i hi => (off.block i (Nat.lt_of_lt_of_le hi h.size) (fun hc => by have := hs i hc; omega)).trans (h.block i hi)⟩
/-- what is taken, where all are over, and how they stand -/
theorem TakeOut.all {W W1 : World} {r : Nat} {s : St} {xs out rest L : List Lz} {now : Int} {v : Value} (o : TakeOut W W1 r s xs now v out rest) (hp : xs.Perm L) (hl : L.Pairwise le) (hn : ∀ a ∈ L, a.2.2 ≤ now) : out = L ∧ rest = [] := by
  have hrest : rest = [] := by
    rcases rest with _ | ⟨z, t⟩
    · rfl
    · have h1 := o.done z (by simp)
      have h2 := hn z (hp.mem_iff.1 (o.took.perm.mem_iff.1 (by simp)))
      omega
  subst hrest
  have hp2 := o.took.perm.trans hp
  rw [List.append_nil] at hp2
  exact ⟨List.Perm.eq_of_pairwise (le := le) (fun a b _ _ => le_anti) o.took.sorted hl hp2, rfl⟩
theorem TakeOut.none {W W1 : World} {r : Nat} {s : St} {xs out rest : List Lz} {now : Int} {v : Value} (o : TakeOut W W1 r s xs now v out rest) (hn : ∀ a ∈ xs, now < a.2.2) : out = [] ∧ rest.Perm xs := by
  have hout : out = [] := by
    rcases out with _ | ⟨z, t⟩
    · rfl
    · have h1 := o.took.over z (by simp)
      have h2 := hn z (o.took.perm.mem_iff.1 (by simp))
      omega
  subst hout
  exact ⟨rfl, by have := o.took.perm; simpa using this⟩
theorem TakeOut.length {W W1 : World} {r : Nat} {s : St} {xs out rest : List Lz} {now : Int} {v : Value} (o : TakeOut W W1 r s xs now v out rest) : ∃ A c, v = .slice A out.length c := own_slice o.own
def tabK : Array Value := #[.int .u64 0, .int .u64 1, .int .i64 0, .int .u64 0, .int .u64 10000, .int .i64 0, .int .u64 0, .int .u64 10001, .int .i64 21, .int .u64 0, .int .u64 0, .int .i64 21, .int .u64 1152921504606846976, .int .u64 10000, .int .i64 0, .int .u64 1152921504606846977, .int .u64 1, .int .i64 21, .int .u64 18446744073709551615, .int .u64 1, .int .i64 21]
set_option maxHeartbeats 4000000
set_option maxRecDepth 100000
theorem known_calls {W : World} : Calls Try.prog 7 #[] W fun e w' => e = .returned (.bool true) ∧ Below W.heap.size W w' := by
  go_enter Try.func7, Try.ntmps7
  go_wp2_with fail
  refine (works_calls).mono ?_
  rintro e w1 ⟨rfl, hb⟩
  have HB1 := Lib.hid hb
  clear hb
  go_wp2_with fail
  obtain ⟨w2, hw2⟩ : ∃ w2, w1.alloc (.cells #[.int .u64 0, .int .u64 1, .int .i64 0, .int .u64 0, .int .u64 10000, .int .i64 0, .int .u64 0, .int .u64 10001, .int .i64 21, .int .u64 0, .int .u64 0, .int .i64 21, .int .u64 1152921504606846976, .int .u64 10000, .int .i64 0, .int .u64 1152921504606846977, .int .u64 1, .int .i64 21, .int .u64 18446744073709551615, .int .u64 1, .int .i64 21] 70) = w2 := ⟨_, rfl⟩
  rw [hw2]
  have HB2 := Lib.hid (show Below W.heap.size W w2 by rw [← hw2]; exact HB1.out.alloc HB1.out.size _)
  have HT2 := Lib.hid (show w2.heap[w1.heap.size]? = some (.cells tabK 70 (0, 0)) by rw [← hw2]; exact blk_new w1 _)
  have HN2 := Lib.hid (show W.heap.size ≤ w1.heap.size from HB1.out.size)
  obtain ⟨T, hT⟩ : ∃ T, w1.heap.size = T := ⟨_, rfl⟩
  rw [hT] at HT2 HN2
  rw [hT]
  clear hw2 hT HB1
  go_loopw [29] (fun v29 wr => ∃ i : Nat, v29 = .int .i64 i ∧ i ≤ 7 ∧ Hid (wr.heap[T]? = some (.cells tabK 70 (0, 0))) ∧ Hid (Below W.heap.size W wr)) (fun v _ => 7 - (intOf v).toNat)
  case atStart => exact ⟨0, rfl, by omega, HT2, HB2⟩
  case round =>
    clear HT2 HB2
    obtain ⟨i, rfl, hi, HT, HB⟩ := hrel
    by_cases h7 : i < 7
    · rcases (by omega : i = 0 ∨ i = 1 ∨ i = 2 ∨ i = 3 ∨ i = 4 ∨ i = 5 ∨ i = 6) with rfl | rfl | rfl | rfl | rfl | rfl | rfl
      · have b0 := cell_of_row _ _ 0 _ _ _ HT.out
        have b1 := cell_of_row _ _ 1 _ _ _ HT.out
        have b2 := cell_of_row _ _ 2 _ _ _ HT.out
        simp [tabK] at b0 b1 b2
        go_wp2_with fail
        obtain ⟨w3, hw3⟩ : ∃ w3, wr.alloc (.cells #[.int .u64 0, .int .u64 1, .int .i64 0] 70) = w3 := ⟨_, rfl⟩
        rw [hw3]
        have hb3 : Below wr.heap.size wr w3 := by rw [← hw3]; exact below_alloc (Below.refl _ _) _
        have hx3 : w3.heap[wr.heap.size]? = some (.cells #[.int .u64 0, .int .u64 1, .int .i64 0] 70 (0, 0)) := by rw [← hw3]; exact blk_new wr _
        obtain ⟨B, hB⟩ : ∃ B, wr.heap.size = B := ⟨_, rfl⟩
        rw [hB] at hx3
        have HT3 := Lib.hid (blk_below HT.out hb3)
        have HB3 := Lib.hid (below_then HB.out HB.out.size hb3)
        rw [hB]
        clear hw3 hb3 hB b0 b1 b2
        refine (lease_Till.calls 0 1 1 0 _ (by decide)).mono ?_
        rintro e w4 ⟨rfl, hd⟩
        have HT4 := Lib.hid (blk_below HT3.out hd.below)
        have HB4 := Lib.hid (below_then HB3.out HB3.out.size hd.below)
        have hx4 := blk_below hx3 hd.below
        have b0 := cell_of_row _ _ 0 _ _ _ hx4
        have b1 := cell_of_row _ _ 1 _ _ _ hx4
        have b2 := cell_of_row _ _ 2 _ _ _ hx4
        simp at b0 b1 b2
        clear hd hx3 hx4 HT3 HB3
        go_wp2_with fail
        go_roundw
        case rel => exact ⟨1, rfl, by omega, HT4, HB4⟩
        case measure => simp [intOf]
      · have b0 := cell_of_row _ _ 3 _ _ _ HT.out
        have b1 := cell_of_row _ _ 4 _ _ _ HT.out
        have b2 := cell_of_row _ _ 5 _ _ _ HT.out
        simp [tabK] at b0 b1 b2
        go_wp2_with fail
        obtain ⟨w3, hw3⟩ : ∃ w3, wr.alloc (.cells #[.int .u64 0, .int .u64 10000, .int .i64 0] 70) = w3 := ⟨_, rfl⟩
        rw [hw3]
        have hb3 : Below wr.heap.size wr w3 := by rw [← hw3]; exact below_alloc (Below.refl _ _) _
        have hx3 : w3.heap[wr.heap.size]? = some (.cells #[.int .u64 0, .int .u64 10000, .int .i64 0] 70 (0, 0)) := by rw [← hw3]; exact blk_new wr _
        obtain ⟨B, hB⟩ : ∃ B, wr.heap.size = B := ⟨_, rfl⟩
        rw [hB] at hx3
        have HT3 := Lib.hid (blk_below HT.out hb3)
        have HB3 := Lib.hid (below_then HB.out HB.out.size hb3)
        rw [hB]
        clear hw3 hb3 hB b0 b1 b2
        refine (lease_Till.calls 0 10000 10000 0 _ (by decide)).mono ?_
        rintro e w4 ⟨rfl, hd⟩
        have HT4 := Lib.hid (blk_below HT3.out hd.below)
        have HB4 := Lib.hid (below_then HB3.out HB3.out.size hd.below)
        have hx4 := blk_below hx3 hd.below
        have b0 := cell_of_row _ _ 0 _ _ _ hx4
        have b1 := cell_of_row _ _ 1 _ _ _ hx4
        have b2 := cell_of_row _ _ 2 _ _ _ hx4
        simp at b0 b1 b2
        clear hd hx3 hx4 HT3 HB3
        go_wp2_with fail
        go_roundw
        case rel => exact ⟨2, rfl, by omega, HT4, HB4⟩
        case measure => simp [intOf]
      · have b0 := cell_of_row _ _ 6 _ _ _ HT.out
        have b1 := cell_of_row _ _ 7 _ _ _ HT.out
        have b2 := cell_of_row _ _ 8 _ _ _ HT.out
        simp [tabK] at b0 b1 b2
        go_wp2_with fail
        obtain ⟨w3, hw3⟩ : ∃ w3, wr.alloc (.cells #[.int .u64 0, .int .u64 10001, .int .i64 21] 70) = w3 := ⟨_, rfl⟩
        rw [hw3]
        have hb3 : Below wr.heap.size wr w3 := by rw [← hw3]; exact below_alloc (Below.refl _ _) _
        have hx3 : w3.heap[wr.heap.size]? = some (.cells #[.int .u64 0, .int .u64 10001, .int .i64 21] 70 (0, 0)) := by rw [← hw3]; exact blk_new wr _
        obtain ⟨B, hB⟩ : ∃ B, wr.heap.size = B := ⟨_, rfl⟩
        rw [hB] at hx3
        have HT3 := Lib.hid (blk_below HT.out hb3)
        have HB3 := Lib.hid (below_then HB.out HB.out.size hb3)
        rw [hB]
        clear hw3 hb3 hB b0 b1 b2
        refine (lease_Till.calls 0 10001 0 21 _ (by decide)).mono ?_
        rintro e w4 ⟨rfl, hd⟩
        have HT4 := Lib.hid (blk_below HT3.out hd.below)
        have HB4 := Lib.hid (below_then HB3.out HB3.out.size hd.below)
        have hx4 := blk_below hx3 hd.below
        have b0 := cell_of_row _ _ 0 _ _ _ hx4
        have b1 := cell_of_row _ _ 1 _ _ _ hx4
        have b2 := cell_of_row _ _ 2 _ _ _ hx4
        simp at b0 b1 b2
        clear hd hx3 hx4 HT3 HB3
        go_wp2_with fail
        go_roundw
        case rel => exact ⟨3, rfl, by omega, HT4, HB4⟩
        case measure => simp [intOf]
      · have b0 := cell_of_row _ _ 9 _ _ _ HT.out
        have b1 := cell_of_row _ _ 10 _ _ _ HT.out
        have b2 := cell_of_row _ _ 11 _ _ _ HT.out
        simp [tabK] at b0 b1 b2
        go_wp2_with fail
        obtain ⟨w3, hw3⟩ : ∃ w3, wr.alloc (.cells #[.int .u64 0, .int .u64 0, .int .i64 21] 70) = w3 := ⟨_, rfl⟩
        rw [hw3]
        have hb3 : Below wr.heap.size wr w3 := by rw [← hw3]; exact below_alloc (Below.refl _ _) _
        have hx3 : w3.heap[wr.heap.size]? = some (.cells #[.int .u64 0, .int .u64 0, .int .i64 21] 70 (0, 0)) := by rw [← hw3]; exact blk_new wr _
        obtain ⟨B, hB⟩ : ∃ B, wr.heap.size = B := ⟨_, rfl⟩
        rw [hB] at hx3
        have HT3 := Lib.hid (blk_below HT.out hb3)
        have HB3 := Lib.hid (below_then HB.out HB.out.size hb3)
        rw [hB]
        clear hw3 hb3 hB b0 b1 b2
        refine (lease_Till.calls 0 0 0 21 _ (by decide)).mono ?_
        rintro e w4 ⟨rfl, hd⟩
        have HT4 := Lib.hid (blk_below HT3.out hd.below)
        have HB4 := Lib.hid (below_then HB3.out HB3.out.size hd.below)
        have hx4 := blk_below hx3 hd.below
        have b0 := cell_of_row _ _ 0 _ _ _ hx4
        have b1 := cell_of_row _ _ 1 _ _ _ hx4
        have b2 := cell_of_row _ _ 2 _ _ _ hx4
        simp at b0 b1 b2
        clear hd hx3 hx4 HT3 HB3
        go_wp2_with fail
        go_roundw
        case rel => exact ⟨4, rfl, by omega, HT4, HB4⟩
        case measure => simp [intOf]
      · have b0 := cell_of_row _ _ 12 _ _ _ HT.out
        have b1 := cell_of_row _ _ 13 _ _ _ HT.out
        have b2 := cell_of_row _ _ 14 _ _ _ HT.out
        simp [tabK] at b0 b1 b2
        go_wp2_with fail
        obtain ⟨w3, hw3⟩ : ∃ w3, wr.alloc (.cells #[.int .u64 1152921504606846976, .int .u64 10000, .int .i64 0] 70) = w3 := ⟨_, rfl⟩
        rw [hw3]
        have hb3 : Below wr.heap.size wr w3 := by rw [← hw3]; exact below_alloc (Below.refl _ _) _
        have hx3 : w3.heap[wr.heap.size]? = some (.cells #[.int .u64 1152921504606846976, .int .u64 10000, .int .i64 0] 70 (0, 0)) := by rw [← hw3]; exact blk_new wr _
        obtain ⟨B, hB⟩ : ∃ B, wr.heap.size = B := ⟨_, rfl⟩
        rw [hB] at hx3
        have HT3 := Lib.hid (blk_below HT.out hb3)
        have HB3 := Lib.hid (below_then HB.out HB.out.size hb3)
        rw [hB]
        clear hw3 hb3 hB b0 b1 b2
        refine (lease_Till.calls 1152921504606846976 10000 1152921504606856976 0 _ (by decide)).mono ?_
        rintro e w4 ⟨rfl, hd⟩
        have HT4 := Lib.hid (blk_below HT3.out hd.below)
        have HB4 := Lib.hid (below_then HB3.out HB3.out.size hd.below)
        have hx4 := blk_below hx3 hd.below
        have b0 := cell_of_row _ _ 0 _ _ _ hx4
        have b1 := cell_of_row _ _ 1 _ _ _ hx4
        have b2 := cell_of_row _ _ 2 _ _ _ hx4
        simp at b0 b1 b2
        clear hd hx3 hx4 HT3 HB3
        go_wp2_with fail
        go_roundw
        case rel => exact ⟨5, rfl, by omega, HT4, HB4⟩
        case measure => simp [intOf]
      · have b0 := cell_of_row _ _ 15 _ _ _ HT.out
        have b1 := cell_of_row _ _ 16 _ _ _ HT.out
        have b2 := cell_of_row _ _ 17 _ _ _ HT.out
        simp [tabK] at b0 b1 b2
        go_wp2_with fail
        obtain ⟨w3, hw3⟩ : ∃ w3, wr.alloc (.cells #[.int .u64 1152921504606846977, .int .u64 1, .int .i64 21] 70) = w3 := ⟨_, rfl⟩
        rw [hw3]
        have hb3 : Below wr.heap.size wr w3 := by rw [← hw3]; exact below_alloc (Below.refl _ _) _
        have hx3 : w3.heap[wr.heap.size]? = some (.cells #[.int .u64 1152921504606846977, .int .u64 1, .int .i64 21] 70 (0, 0)) := by rw [← hw3]; exact blk_new wr _
        obtain ⟨B, hB⟩ : ∃ B, wr.heap.size = B := ⟨_, rfl⟩
        rw [hB] at hx3
        have HT3 := Lib.hid (blk_below HT.out hb3)
        have HB3 := Lib.hid (below_then HB.out HB.out.size hb3)
        rw [hB]
        clear hw3 hb3 hB b0 b1 b2
        refine (lease_Till.calls 1152921504606846977 1 0 21 _ (by decide)).mono ?_
        rintro e w4 ⟨rfl, hd⟩
        have HT4 := Lib.hid (blk_below HT3.out hd.below)
        have HB4 := Lib.hid (below_then HB3.out HB3.out.size hd.below)
        have hx4 := blk_below hx3 hd.below
        have b0 := cell_of_row _ _ 0 _ _ _ hx4
        have b1 := cell_of_row _ _ 1 _ _ _ hx4
        have b2 := cell_of_row _ _ 2 _ _ _ hx4
        simp at b0 b1 b2
        clear hd hx3 hx4 HT3 HB3
        go_wp2_with fail
        go_roundw
        case rel => exact ⟨6, rfl, by omega, HT4, HB4⟩
        case measure => simp [intOf]
      · have b0 := cell_of_row _ _ 18 _ _ _ HT.out
        have b1 := cell_of_row _ _ 19 _ _ _ HT.out
        have b2 := cell_of_row _ _ 20 _ _ _ HT.out
        simp [tabK] at b0 b1 b2
        go_wp2_with fail
        obtain ⟨w3, hw3⟩ : ∃ w3, wr.alloc (.cells #[.int .u64 18446744073709551615, .int .u64 1, .int .i64 21] 70) = w3 := ⟨_, rfl⟩
        rw [hw3]
        have hb3 : Below wr.heap.size wr w3 := by rw [← hw3]; exact below_alloc (Below.refl _ _) _
        have hx3 : w3.heap[wr.heap.size]? = some (.cells #[.int .u64 18446744073709551615, .int .u64 1, .int .i64 21] 70 (0, 0)) := by rw [← hw3]; exact blk_new wr _
        obtain ⟨B, hB⟩ : ∃ B, wr.heap.size = B := ⟨_, rfl⟩
        rw [hB] at hx3
        have HT3 := Lib.hid (blk_below HT.out hb3)
        have HB3 := Lib.hid (below_then HB.out HB.out.size hb3)
        rw [hB]
        clear hw3 hb3 hB b0 b1 b2
        refine (lease_Till.calls 18446744073709551615 1 0 21 _ (by decide)).mono ?_
        rintro e w4 ⟨rfl, hd⟩
        have HT4 := Lib.hid (blk_below HT3.out hd.below)
        have HB4 := Lib.hid (below_then HB3.out HB3.out.size hd.below)
        have hx4 := blk_below hx3 hd.below
        have b0 := cell_of_row _ _ 0 _ _ _ hx4
        have b1 := cell_of_row _ _ 1 _ _ _ hx4
        have b2 := cell_of_row _ _ 2 _ _ _ hx4
        simp at b0 b1 b2
        clear hd hx3 hx4 HT3 HB3
        go_wp2_with fail
        go_roundw
        case rel => exact ⟨7, rfl, by omega, HT4, HB4⟩
        case measure => simp [intOf]
    · obtain rfl : i = 7 := by omega
      go_wp2_with fail
      refine first_nil_calls.mono ?_
      rintro e w3 ⟨rfl, hb⟩
      have HB3 := Lib.hid (below_then HB.out HB.out.size hb)
      clear hb HB HT
      go_wp2_with fail
      refine new_calls.mono ?_
      rintro e w4 ⟨r, s4, rfl, hr, hf, hrb, hb⟩
      have hB3' := HB3.out.alloc HB3.out.size (.cells #[.int .i64 0, .int .u32 0, .int .u64 0] 55)
      have HR4 := Lib.hid hr
      have HF4 := Lib.hid (show ∀ i, s4.foot i → W.heap.size ≤ i from fun i hi => Nat.le_trans hB3'.size (hf i hi))
      have HB4 := Lib.hid (below_then hB3' hB3'.size hb)
      clear hr hf hb HB3 hB3'
      go_wp2_with fail
      refine (first_calls HR4.out (by simp)).mono ?_
      rintro e w5 ⟨rfl, hb⟩
      have HR5 := Lib.hid ((HR4.out.below hb).below (below_alloc (Below.refl _ _) (.cells #[.int .i64 0, .int .u32 0, .int .u64 0] 55)))
      have hB5 := below_then HB4.out HB4.out.size hb
      have HB5 := Lib.hid (hB5.alloc hB5.size (.cells #[.int .i64 0, .int .u32 0, .int .u64 0] 55))
      clear hb hB5 HR4 HB4
      rw [show ix ([] : List Lz) 0 = (0, 0, 0) from rfl, show decide (0 < ([] : List Lz).length) = false from rfl]
      unfold Lz.val
      go_wp2_with fail
      refine (drop_calls (k := (0, 1)) HR5.out (by simp) ⟨by decide, by decide⟩).mono ?_
      rintro e w6 (⟨_, rfl, ho⟩ | ⟨x, hx, _⟩)
      rotate_left
      · simp at hx
      obtain ⟨s6, y6, hr, hp, hf, hb, _⟩ := ho.chain2 HB5.out HF4.out
      obtain rfl : y6 = [] := List.Perm.eq_nil hp
      have HR6 := Lib.hid hr
      have HF6 := Lib.hid hf
      have HB6 := Lib.hid hb
      clear hr hp hf hb ho HR5 HB5 HF4
      go_wp2_with fail
      refine (take_calls HR6.out (by simp) 18446744073709551615).mono ?_
      rintro e w7 ⟨v7, rfl, out, rest, ht⟩
      obtain ⟨rfl, rfl⟩ := ht.all (.refl _) .nil (by simp)
      obtain ⟨A7, c7, rfl⟩ := ht.length
      obtain ⟨s7, hr, hf, hb, _⟩ := ht.chain2 HB6.out HF6.out
      have HR7 := Lib.hid hr
      have HF7 := Lib.hid hf
      have HB7 := Lib.hid hb
      clear hr hf hb ht HR6 HF6 HB6
      rw [show ([] : List Lz).length = 0 from rfl]
      go_wp2_with fail
      refine (add_calls (x := (-1, 1, 0)) HR7.out (by simp) ⟨by decide, by decide, by decide⟩).mono ?_
      rintro e w8 (⟨hc, _⟩ | ⟨_, rfl, ho⟩)
      · simp at hc
      obtain ⟨s8, y8, hr, hp, hf, hb, _⟩ := ho.chain2 HB7.out HF7.out
      have HR8 := Lib.hid hr
      have HP8 := Lib.hid (show y8.Perm [(-1, 1, 0)] from hp)
      have HF8 := Lib.hid hf
      have HB8 := Lib.hid hb
      clear hr hp hf hb ho HR7 HF7 HB7
      go_wp2_with fail
      refine (add_calls (x := (0, 0, 0)) HR8.out (by rw [HP8.out.length_eq]; simp) ⟨by decide, by decide, by decide⟩).mono ?_
      rintro e w9 (⟨hc, _⟩ | ⟨_, rfl, ho⟩)
      · rw [(HP8.out.map Lz.key).mem_iff] at hc
        simp [Lz.key] at hc
      obtain ⟨s9, y9, hr, hp, hf, hb, _⟩ := ho.chain2 HB8.out HF8.out
      have HR9 := Lib.hid hr
      have HP9 := Lib.hid (show y9.Perm [(-1, 1, 0), (0, 0, 0)] from hp.trans (HP8.out.append_right _))
      have HF9 := Lib.hid hf
      have HB9 := Lib.hid hb
      clear hr hp hf hb ho HR8 HF8 HB8 HP8
      go_wp2_with fail
      refine (take_calls HR9.out (by rw [HP9.out.length_eq]; simp) 0).mono ?_
      rintro e w10 ⟨v10, rfl, out, rest, ht⟩
      obtain ⟨rfl, rfl⟩ := ht.all HP9.out (by simp [le_iff]) (by simp)
      obtain ⟨s10, hr, hf, hb, _, hvf⟩ := ht.chain2 HB9.out HF9.out
      have hown := ht.own
      rcases hown.2 with ⟨_, h0⟩ | ⟨g, cap, cur, hv, _, hg, hle, _, _, _⟩
      · simp at h0
      have hgc : w10.cell? ⟨g, 0, none⟩ = some (.int .i64 (-1)) := by
        rw [hv] at hown
        rw [hown.cellAt 0 (by simp)]
        rfl
      have HG10 := Lib.hid hgc
      have HGB := Lib.hid (show ¬ s10.foot g from hvf g (by rw [hv]; rfl))
      have HR10 := Lib.hid hr
      have HF10 := Lib.hid hf
      have HB10 := Lib.hid hb
      rw [hv]
      rw [show List.length [((-1 : Int), (1 : Int), (0 : Int)), (0, 0, 0)] = 2 from rfl]
      clear hgc hg hown hv hr hf hb hvf ht hle HR9 HF9 HB9 HP9
      go_wp2_with fail
      refine (add_calls (x := (0, 1, 18446744073709551615)) HR10.out (by simp) ⟨by decide, by decide, by decide⟩).mono ?_
      rintro e w11 (⟨hc, _⟩ | ⟨_, rfl, ho⟩)
      · simp at hc
      obtain ⟨s11, y11, hr, hp, hf, hb, hk⟩ := ho.chain2 HB10.out HF10.out
      have hg11 := hk g (World.block_lt_of_cell? _ _ HG10.out) HGB.out
      have HG11 := Lib.hid (show w11.cell? ⟨g, 0, none⟩ = some (.int .i64 (-1)) by have := HG10.out; unfold World.cell? at this ⊢; simpa only [hg11.1] using this)
      have HGB11 := Lib.hid hg11.2
      have HR11 := Lib.hid hr
      have HP11 := Lib.hid (show y11.Perm [(0, 1, 18446744073709551615)] from hp)
      have HF11 := Lib.hid hf
      have HB11 := Lib.hid hb
      clear hr hp hf hb ho hk hg11 HR10 HF10 HB10 HG10 HGB
      go_wp2_with fail
      refine (take_calls HR11.out (by rw [HP11.out.length_eq]; simp) 18446744073709551614).mono ?_
      rintro e w12 ⟨v12, rfl, out, rest, ht⟩
      obtain ⟨rfl, hpr⟩ := ht.none (fun a ha => by
        have := HP11.out.mem_iff.1 ha
        simp at this
        subst this
        decide)
      obtain ⟨A12, c12, rfl⟩ := ht.length
      obtain ⟨s12, hr, hf, hb, hk, _⟩ := ht.chain2 HB11.out HF11.out
      have hg12 := hk g (World.block_lt_of_cell? _ _ HG11.out) HGB11.out
      have HG12 := Lib.hid (show w12.cell? ⟨g, 0, none⟩ = some (.int .i64 (-1)) by have := HG11.out; unfold World.cell? at this ⊢; simpa only [hg12.1] using this)
      have HGB12 := Lib.hid hg12.2
      have HR12 := Lib.hid hr
      have HP12 := Lib.hid (hpr.trans HP11.out)
      have HF12 := Lib.hid hf
      have HB12 := Lib.hid hb
      rw [show ([] : List Lz).length = 0 from rfl]
      clear hr hpr hf hb ht hk hg12 HR11 HF11 HB11 HG11 HGB11 HP11
      go_wp2_with fail
      refine (drop_calls (k := (0, 1)) HR12.out (by rw [HP12.out.length_eq]; simp) ⟨by decide, by decide⟩).mono ?_
      rintro e w13 (⟨hc, _⟩ | ⟨x, hx, _, rfl, ho⟩)
      · exact absurd ((HP12.out.map Lz.key).mem_iff.2 (by simp [Lz.key])) hc
      obtain ⟨s13, y13, hr, hp, hf, hb, hk⟩ := ho.chain2 HB12.out HF12.out
      have hg13 := hk g (World.block_lt_of_cell? _ _ HG12.out) HGB12.out
      have HG13 := Lib.hid (show w13.cell? ⟨g, 0, none⟩ = some (.int .i64 (-1)) by have := HG12.out; unfold World.cell? at this ⊢; simpa only [hg13.1] using this)
      have hy13 : y13 = [] := by
        have := hp.length_eq
        rw [List.length_erase_of_mem hx, HP12.out.length_eq] at this
        exact List.eq_nil_of_length_eq_zero (by simpa using this)
      subst hy13
      have HR13 := Lib.hid hr
      have HB13 := Lib.hid hb
      clear hr hp hf hb ho hk hg13 hx HR12 HF12 HB12 HG12 HGB12 HP12
      go_wp2_with fail
      refine (add_nil_calls (0, 0, 0)).mono ?_
      rintro e w14 ⟨rfl, hb⟩
      have HR14 := Lib.hid (HR13.out.below hb)
      have HB14 := Lib.hid (below_then HB13.out HB13.out.size hb)
      have HG14 := Lib.hid (pw_cell_below hb HG13.out)
      clear hb HR13 HB13 HG13
      go_wp2_with fail
      refine (drop_nil_calls 0 0).mono ?_
      rintro e w15 ⟨rfl, hb⟩
      have HR15 := Lib.hid (HR14.out.below hb)
      have HB15 := Lib.hid (below_then HB14.out HB14.out.size hb)
      have HG15 := Lib.hid (pw_cell_below hb HG14.out)
      clear hb HR14 HB14 HG14
      go_wp2_with fail
      refine (take_nil_calls 9).mono ?_
      rintro e w16 ⟨rfl, hb⟩
      have HR16 := Lib.hid (HR15.out.below hb)
      have HB16 := Lib.hid (below_then HB15.out HB15.out.size hb)
      have HG16 := Lib.hid (pw_cell_below hb HG15.out)
      clear hb HR15 HB15 HG15
      go_wp2_with fail
      refine (len_nil_calls).mono ?_
      rintro e w17 ⟨rfl, hb⟩
      have HR17 := Lib.hid (HR16.out.below hb)
      have HB17 := Lib.hid (below_then HB16.out HB16.out.size hb)
      have hg17 := pw_cell_below hb HG16.out
      have i0 : (0 : Int) < ((2 : Nat) : Int) := by omega
      clear hb HR16 HB16 HG16
      go_wp2_with fail
      refine (rlen_calls HR17.out (by simp)).mono ?_
      rintro e w18 ⟨rfl, hb⟩
      have HB18 := Lib.hid (below_then HB17.out HB17.out.size hb)
      clear hb
      rw [show ((([] : List Lz).length : Nat) : Int) = 0 from rfl]
      go_wp2_with fail
      go_ret
      exact ⟨rfl, HB18.out⟩
end Go.Proofs.Ytfkbiecbnjddmaa
