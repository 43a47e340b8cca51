/- The contract of sum.Joined, for all numbers. -/
import Derived.Test.YtjlcigdhhkfdiaaSumMore
namespace Go.Proofs.Ytjlcigdhhkfdiaa
open Go.RowKit Go.Proofs.YtjlcigdhhkfdiaaW.PrintWords Go.Proofs.YtjlcigdhhkfdiaaW.PrintLast Go.Proofs.YtjlcigdhhkfdiaaW.PrintMore
attribute [local go_sem] max2_int min2_int max_two min_two max_three min_three max_four min_four

/-- The halves ahead of what is left of them, the third number not below nought. -/
def joinLow (x y : Int × Int) : Int := ((x.1 + 65521 - 1) % 4294967296 % 65521 + y.1) % 4294967296
def joinHigh (x y : Int × Int) (m : Int) : Int :=
  (x.2 + y.2 + (IntKind.u64.wrap ((x.1 + 65521 - 1) % 4294967296 % 65521 * ((IntKind.u64.wrap m).tmod 65521 % 4294967296))).tmod 65521) % 4294967296
/-- What Joined answers. -/
def joinedV (a b n : Int) : Int :=
  Go.bits .or .u32 ((Int.tmod (joinHigh (halvesOf a) (halvesOf b) (if 0 ≤ n then n else 0)) 65521) * 65536 % 4294967296) (Int.tmod (joinLow (halvesOf a) (halvesOf b)) 65521)
def sum_Joined.f (a0 a1 a2 : Int) : Option Int := some (joinedV a0 a1 a2)

set_option maxRecDepth 100000 in
set_option maxHeartbeats 2000000 in
theorem joined_walk (a b n : Int) (w : World) :
    Calls Try.prog 13 #[.int .u32 a, .int .u32 b, .int .i64 n] w fun e w' => e = .returned (.int .u32 (joinedV a b n)) ∧ Below w.heap.size w w' := by
  obtain ⟨x1, hx1⟩ : ∃ x, (halvesOf a).1 = x := ⟨_, rfl⟩
  obtain ⟨x2, hx2⟩ : ∃ x, (halvesOf a).2 = x := ⟨_, rfl⟩
  obtain ⟨y1, hy1⟩ : ∃ x, (halvesOf b).1 = x := ⟨_, rfl⟩
  obtain ⟨y2, hy2⟩ : ∃ x, (halvesOf b).2 = x := ⟨_, rfl⟩
  have HX := Lib.hid (show halvesOf a = (x1, x2) by rw [← hx1, ← hx2])
  have HY := Lib.hid (show halvesOf b = (y1, y2) by rw [← hy1, ← hy2])
  clear hx1 hx2 hy1 hy2
  go_enter Try.func13, Try.ntmps13
  go_wp2_with fail
  have c1 := sum_of.calls a (halvesOf a).1 (halvesOf a).2 w rfl
  rw [HX.out] at c1
  refine c1.mono ?_
  clear c1
  rintro e w1 ⟨rfl, hb1⟩
  have HB1 := Lib.hid hb1
  clear hb1
  go_wp2_with fail
  have c1 := sum_of.calls b (halvesOf b).1 (halvesOf b).2 w1 rfl
  rw [HY.out] at c1
  refine c1.mono ?_
  clear c1
  rintro e w2 ⟨rfl, hb2⟩
  have HB2 := Lib.hid hb2
  clear hb2
  have hn' : n < 0 ∨ 0 ≤ n := by omega
  rcases hn' with hn | hn
  all_goals
    go_wp2_with fail
    refine (sum_halves_left.calls _ _ _ _ _ rfl).mono ?_
    rintro e w3 ⟨rfl, hb3⟩
    have HB3 := Lib.hid hb3
    clear hb3
    go_wp2_with fail
    refine (sum_halves_sum.calls _ _ _ _ rfl).mono ?_
    rintro e w4 ⟨rfl, hb4⟩
    have HB4 := Lib.hid hb4
    clear hb4
    go_wp2
    go_ret
    have s1 := HB1.out.size
    have s2 := HB2.out.size
    have b2 : Below w.heap.size w w2 := HB1.out.trans (HB2.out.mono s1)
    have b3 : Below w.heap.size w w3 := ((b2.alloc (by omega) _).alloc (by simp; omega) _).trans (HB3.out.mono (by simp; omega))
    have b4 : Below w.heap.size w w4 := b3.trans (HB4.out.mono b3.size)
    refine ⟨?_, b4⟩
  · rw [joinedV, HX.out, HY.out, if_neg (by omega)]
    refine congrArg (fun z => Ending.returned (.int .u32 z)) ?_
    rw [joinLow, joinHigh, Int.tmod_eq_emod_of_nonneg (a := (_ : Int) % 4294967296) (by omega), Int.tmod_eq_emod_of_nonneg (a := (_ : Int) % 4294967296) (by omega)]
    have e0 : (IntKind.u64.wrap 0) = 0 := by decide
    simp [e0]
  · rw [joinedV, HX.out, HY.out, if_pos (by omega)]
    refine congrArg (fun z => Ending.returned (.int .u32 z)) ?_
    rw [joinLow, joinHigh, Int.tmod_eq_emod_of_nonneg (a := (_ : Int) % 4294967296) (by omega), Int.tmod_eq_emod_of_nonneg (a := (_ : Int) % 4294967296) (by omega)]
theorem sum_Joined.calls (a0 a1 a2 : Int) (r : Int) (w : World) (h : sum_Joined.f a0 a1 a2 = some r) :
    Calls Try.prog 13 #[.int .u32 a0, .int .u32 a1, .int .i64 a2] w fun e w' => e = .returned (.int .u32 r) ∧ Below w.heap.size w w' := by
  obtain rfl := Option.some.inj h
  exact joined_walk a0 a1 a2 w
#print axioms sum_Joined.calls
end Go.Proofs.Ytjlcigdhhkfdiaa
