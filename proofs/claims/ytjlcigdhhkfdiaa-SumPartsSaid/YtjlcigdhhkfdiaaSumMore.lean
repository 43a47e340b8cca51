/- The contract of sum.More, for every number and every text. -/
import Derived.Test.YtjlcigdhhkfdiaaSumRows
namespace Go.Proofs.Ytjlcigdhhkfdiaa
open Go.RowKit
attribute [local go_sem] Oper.semAt_some

/-- Both halves of a number, as the program takes them. -/
def halvesOf (n : Int) : Int × Int := (Int.tmod (Go.bits .and .u32 n 65535) 65521, Int.tmod (n / 65536) 65521)
/-- What More answers. -/
def moreV (n : Int) (l : List UInt8) : Int :=
  Go.bits .or .u32 ((Sm.pieces (l.length + 1) (halvesOf n) l).2 * 65536 % 4294967296) (Sm.pieces (l.length + 1) (halvesOf n) l).1
def sum_More.f (a0 : Int) (a1 : ByteArray) : Option Int := if a1.size ≤ 9223372036854775807 then some (moreV a0 a1.data.toList) else none

theorem rows_calls (s : ByteArray) (w : World) :
    Calls Try.prog 15 #[.string s] w fun e w' => e = .returned (.func (.func 18) #[] #[.pointer (some ⟨w.heap.size, 0, none⟩)]) ∧ w.alloc (.cells #[.string s] 9) = w' := by
  go_enter Try.func15, Try.ntmps15
  go_wp2
  go_ret
  exact ⟨rfl, rfl⟩

set_option maxRecDepth 100000 in
set_option maxHeartbeats 2000000 in
theorem sum_More.calls (a0 : Int) (a1 : ByteArray) (r : Int) (w : World) (h : sum_More.f a0 a1 = some r) :
    Calls Try.prog 10 #[.int .u32 a0, .string a1] w fun e w' => e = .returned (.int .u32 r) ∧ Below w.heap.size w w' := by
  unfold sum_More.f at h
  split at h
  case isFalse => cases h
  rename_i hsz
  have hr := Lib.hid (Option.some.inj h)
  clear h
  refine (callsIn_wide (n := 3)).1 ?_
  refine callsIn_of_wp_marks Try.func10 rfl trivial ?_ rfl
  simp only [Try.ntmps10, List.size_toArray, List.length_cons, List.length_nil, Nat.reduceAdd, Nat.reduceSub, Array.replicate_succ, Array.replicate_zero, List.push_toArray, List.append_toArray, List.nil_append, List.cons_append]
  gi_wp2_with fail
  refine ⟨trivial, ?_⟩
  refine (callsIn_wide.2 (sum_of.calls a0 (halvesOf a0).1 (halvesOf a0).2 _ rfl)).mono ?_
  rintro e w1 ⟨rfl, hb1⟩
  have HB1 := Lib.hid hb1
  clear hb1
  obtain ⟨lo, hlo⟩ : ∃ lo, (halvesOf a0).1 = lo := ⟨_, rfl⟩
  obtain ⟨hi, hhi⟩ : ∃ hi, (halvesOf a0).2 = hi := ⟨_, rfl⟩
  rw [hlo, hhi]
  have HH := Lib.hid (show halvesOf a0 = (lo, hi) by rw [← hlo, ← hhi])
  clear hlo hhi
  gi_wp2_with fail
  refine ⟨trivial, ?_⟩
  refine (callsIn_wide.2 (rows_calls a1 _)).mono ?_
  rintro e w2 ⟨rfl, rfl⟩
  gi_wp2_with fail
  refine wpIn_rangeFunc ?_
  intro fn _
  obtain ⟨W0, hW0⟩ : ∃ W0, (w1.alloc (.cells #[.int .u32 lo, .int .u32 hi] 35)).alloc (.cells #[.string a1] 9) = W0 := ⟨_, rfl⟩
  have hs0 : W0.heap.size = w1.heap.size + 2 := by rw [← hW0]; simp
  have hB0 : W0.heap[w1.heap.size]? = some (.cells #[.int .u32 lo, .int .u32 hi] 35 (0, 0)) := by
    rw [← hW0]; exact (Below.heap_alloc _ _ _ (by simp)).trans (World.alloc_heap_new _ _)
  have hS0 : W0.heap[w1.heap.size + 1]? = some (.cells #[.string a1] 9 (0, 0)) := by
    rw [← hW0]; have := World.alloc_heap_new (w1.alloc (.cells #[.int .u32 lo, .int .u32 hi] 35)) (.cells #[.string a1] 9); rwa [World.size_alloc] at this
  have hb0 : Below w.heap.size w W0 := by
    rw [← hW0]; exact (HB1.out.alloc HB1.out.size _).alloc (by simp; have := HB1.out.size; omega) _
  have hsz1 := HB1.out.size
  obtain ⟨tm, htm⟩ : ∃ tm, mT (.int .u32 a0) (.string a1) undef undef (.int .u32 0) (.int .u32 a0) (.agg #[.int .u32 lo, .int .u32 hi]) (.string a1) (.func (.func 18) #[] #[.pointer (some ⟨w1.heap.size + 1, 0, none⟩)]) w1.heap.size undef = tm := ⟨_, rfl⟩
  obtain ⟨W1, hW1⟩ : ∃ W1, (W0.alloc (.deferred (some []))).alloc (.loop (moreRec fn tm W0.heap.size .ready)) = W1 := ⟨_, rfl⟩
  have hold : ∀ k, k < W0.heap.size → W1.heap[k]? = W0.heap[k]? := fun k hk => by
    rw [← hW1]; exact (Below.heap_alloc _ _ k (by simp; omega)).trans (Below.heap_alloc _ _ k hk)
  have hM : Mid w.heap.size w fn tm w1.heap.size (w1.heap.size + 1) (W0.heap.size + 1) W0.heap.size (lo, hi) a1 W1 := by
    refine ⟨(hold _ (by omega)).trans hB0, (hold _ (by omega)).trans hS0, ?_, ?_, ?_⟩
    · rw [← hW1]; have := World.alloc_heap_new (W0.alloc (.deferred (some []))) (.loop (moreRec fn tm W0.heap.size .ready)); rwa [World.size_alloc] at this
    · rw [← hW1]; exact (Below.heap_alloc _ _ _ (by simp)).trans (World.alloc_heap_new W0 _)
    · rw [← hW1]; exact (hb0.alloc (by omega) _).alloc (by simp; omega) _
  have HM := Lib.hid hM
  clear hM hold
  refine ⟨W0.heap.size + 1, [{ target := .collected W0.heap.size, args := #[] }], W1, { target := .fn (.func 18) #[.pointer (some ⟨w1.heap.size + 1, 0, none⟩)], args := #[.func (.yield (W0.heap.size + 1)) #[] #[]] }, W1, 18,
    #[.func (.yield (W0.heap.size + 1)) #[] #[], .pointer (some ⟨w1.heap.size + 1, 0, none⟩)], W1, ?_, ?_, ?_, ?_, fun h => (by cases h), ?_⟩
  · rw [← hW1, ← htm, hW0]
    exact run_enterLoop_outer _ _ _ _ _
  · simp [resolve, go_sem]
  · intro f' _; exact trivial
  · simp [invoke, go_sem]
  · rw [← htm] at HM
    refine (rows1_more 2 fn w.heap.size w1.heap.size (w1.heap.size + 1) (W0.heap.size + 1) W0.heap.size w (lo, hi) a1 hsz _ _ _ _ _ _ _ _ _ W1 (Sm.pieces (a1.size + 1) (lo, hi) a1.data.toList) a1.size (by omega) rfl
      (by omega) (by omega) (by omega) (by omega) (by omega) (by omega) (by omega) (by omega) (by omega) HM.out).mono ?_
    rintro e W2 ⟨⟨v, rfl⟩, s', h2⟩
    have hend := run_endLoop (P := Try.prog) h2.L (by simp [moreRec])
    obtain ⟨W3, hW3⟩ : ∃ W3, W2.putObj (W0.heap.size + 1) (.loop { moreRec fn (mT (.int .u32 a0) (.string a1) undef undef (.int .u32 0) (.int .u32 a0) (.agg #[.int .u32 lo, .int .u32 hi]) (.string a1) (.func (.func 18) #[] #[.pointer (some ⟨w1.heap.size + 1, 0, none⟩)]) w1.heap.size undef) W0.heap.size .ready with state := .exhausted }) = W3 := ⟨_, rfl⟩
    rw [hW3] at hend
    have hbW0 : w.heap.size ≤ W0.heap.size + 1 := by omega
    have hb3 : Below w.heap.size w W3 := by rw [← hW3]; exact grown_below h2.b (grownBy_putObj' _ _ _) hbW0 (Nat.le_of_lt (Nat.lt_of_le_of_lt hbW0 (blk_lt h2.L)))
    have hB3 : W3.heap[w1.heap.size]? = some (.cells #[.int .u32 (Sm.pieces (a1.size + 1) (lo, hi) a1.data.toList).1, .int .u32 (Sm.pieces (a1.size + 1) (lo, hi) a1.data.toList).2] 35 (0, 0)) := by rw [← hW3]; exact (World.putObj_heap_other (by omega)).trans h2.hB
    have hK3 : W3.heap[W0.heap.size]? = some (.deferred (some [])) := by rw [← hW3]; exact (World.putObj_heap_other (by omega)).trans h2.K
    obtain ⟨lo', hlo'⟩ : ∃ x, (Sm.pieces (a1.size + 1) (lo, hi) a1.data.toList).1 = x := ⟨_, rfl⟩
    obtain ⟨hi', hhi'⟩ : ∃ x, (Sm.pieces (a1.size + 1) (lo, hi) a1.data.toList).2 = x := ⟨_, rfl⟩
    have hv : moreV a0 a1.data.toList = Go.bits .or .u32 (hi' * 65536 % 4294967296) lo' := by
      have e : a1.data.toList.length = a1.size := by rw [Array.length_toList]; rfl
      unfold moreV
      rw [HH.out, e, hlo', hhi']
    have HV := Lib.hid hv
    rw [hlo', hhi'] at hB3
    clear hv hlo' hhi' hW3 h2 HM HH hB0 hS0 hb0 hW1
    have HB3 := Lib.hid hB3
    have HK3 := Lib.hid hK3
    have Hb3 := Lib.hid hb3
    clear hB3 hK3 hb3
    refine ⟨none, W3, hend, ?_⟩
    clear hend
    have c0 := blk_cell HB3.out 0
    have c1 := blk_cell HB3.out 1
    gi_wp2_with fail
    refine ⟨trivial, ?_⟩
    refine (callsIn_wide.2 (sum_halves_sum.calls lo' hi' (Go.bits .or .u32 ((hi' * 65536) % 4294967296) lo') W3 rfl)).mono ?_
    rintro e w5 ⟨rfl, hb5⟩
    have Hb5 := Lib.hid hb5
    clear hb5
    gi_wp2
    have hK5 : w5.heap[W0.heap.size]? = some (.deferred (some [])) := (Hb5.out.block _ (blk_lt HK3.out)).trans HK3.out
    rw [hs0] at hK5
    refine ⟨by simp, .inl ⟨_, _, rfl, run_takeDeferred hK5, ?_⟩⟩
    refine ⟨_, results_tmp rfl _ _ _, ?_, ?_⟩
    · rw [← HV.out, hr.out]; rfl
    · have h5 : Below w.heap.size w w5 := Hb3.out.trans (Hb5.out.mono Hb3.out.size)
      exact grown_below h5 (grownBy_putObj' _ _ _) (by omega) (by have := blk_lt hK5; omega)
#print axioms sum_More.calls
end Go.Proofs.Ytjlcigdhhkfdiaa
