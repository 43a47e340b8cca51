/- The plain statement behind SumKnown: the chapter's examples, noughts, halves that are too great. -/
import Derived.Test.YtjlcigdhhkfdiaaPSumKnownx1
import Derived.Test.YtjlcigdhhkfdiaaSumRefs
namespace Go.Proofs.Ytjlcigdhhkfdiaa.Pure
open Go.RowKit Go.Proofs.Ytjlcigdhhkfdiaa.PSumKnown Go.Proofs.YtjlcigdhhkfdiaaW.PrintWords Go.Proofs.YtjlcigdhhkfdiaaW.PrintLast

theorem zeros_fold (n : Nat) : Sm.of (List.replicate n 0) = (1, (n : Int) % 65521) := by
  induction n with
  | zero => decide
  | succ n ih =>
    rw [List.replicate_succ', Sm.of, List.foldl_append, ← Sm.of, ih]
    simp only [List.foldl_cons, List.foldl_nil, Sm.stepM]
    refine Prod.ext ?_ ?_ <;> simp <;> omega

theorem zeros_list (n : Nat) : (strOfNums (List.replicate n 0)).data.toList = List.replicate n 0 := by
  simp [strOfNums]
theorem zeros_size (n : Nat) : (strOfNums (List.replicate n 0)).size = n := by
  have := congrArg List.length (zeros_list n)
  rw [Array.length_toList, List.length_replicate] at this
  exact this
theorem of_zeros (s : ByteArray) (n : Nat) (hs : s.data.toList = List.replicate n 0) (hn : n ≤ 65521) : sum_Of.f s = some ((n : Int) % 65521 * 65536 + 1) := by
  have hsz : s.size = n := by
    have := congrArg List.length hs
    rw [Array.length_toList, List.length_replicate] at this
    exact this
  rw [sum_Of.f, sum_More.f, if_pos (by omega), ofV_eq, hs, zeros_fold]; rfl
theorem zeros_take {n : Nat} {z : ByteArray} (hz : z.data.toList = List.replicate n 0) (m : Nat) (h : m ≤ n) : (z.extract 0 m).data.toList = List.replicate m 0 := by
  rw [list_extract, hz, List.take_replicate, Nat.min_eq_left h, List.drop_zero]
theorem of_first {n : Nat} {z : ByteArray} (hz : z.data.toList = List.replicate n 0) (m : Nat) (h : m ≤ n) (hn : n ≤ 65521) : sum_Of.f (z.extract 0 m) = some ((m : Int) % 65521 * 65536 + 1) :=
  of_zeros _ m (zeros_take hz m h) (by omega)
theorem first_vals : ((1 : Nat) : Int) % 65521 * 65536 + 1 = 65537 ∧ ((65520 : Nat) : Int) % 65521 * 65536 + 1 = 4293918721 ∧ ((65521 : Nat) : Int) % 65521 * 65536 + 1 = 1 := by omega
theorem k1 : sum_More.f 4294967295 ⟨#[]⟩ = some 917518 := by decide
theorem k2 : sum_Joined.f 1 1 (-5) = some 1 := by decide
theorem k3 : sum_Joined.f 5 1 3 = some 786437 := by decide
theorem k4 : sum_Joined.f 0 0 1 = some 4293984240 := by decide
theorem k5 : sum_Of.f ⟨#[255]⟩ = some 16777472 := by decide
theorem k6 : sum_Of.f ⟨#[255, 255]⟩ = some 50266623 := by decide
theorem rest : ∀ z : ByteArray, ∀ n : Nat, z.data.toList = List.replicate n 0 → n = 65521 →
    ((sum_Of.f (z.extract 0 1)) = some 65537 ∧ sum_Of.f (z.extract 0 65520) = some 4293918721 ∧ sum_Of.f z = some 1) := by
  intro z n hz hn
  refine ⟨?_, ?_, ?_⟩
  · rw [of_first hz 1 (by omega) (by omega), first_vals.1]
  · rw [of_first hz 65520 (by omega) (by omega), first_vals.2.1]
  · rw [of_zeros z n hz (by omega), hn, first_vals.2.2]
theorem SumKnown : foyerlaw03_SumKnown.Pure := by
  unfold foyerlaw03_SumKnown.Pure foyerlaw03_SumKnown.f
  obtain ⟨n, hn⟩ : ∃ n : Nat, n = 65521 := ⟨_, rfl⟩
  have hc : (65521 : Nat) ≤ 281474976710656 := by omega
  rw [if_pos hc]
  obtain ⟨y, hy⟩ : ∃ y : List Int, y = List.replicate 65521 0 := ⟨_, rfl⟩
  rw [← hy]
  have hy' : y = List.replicate n 0 := by rw [hy, hn]
  clear hy
  obtain ⟨z, hz⟩ : ∃ z, strOfNums y = z := ⟨_, rfl⟩
  have hzl : z.data.toList = List.replicate n 0 := by rw [← hz, hy']; exact zeros_list _
  have hzs : z.size = n := by rw [← hz, hy']; exact zeros_size _
  clear hy'
  obtain ⟨q1, q2, q3⟩ := rest z n hzl hn
  clear hzl
  simp only [Option.bind_some, foyerlaw03_works.f, if_true]
  rw [hz, if_pos (by omega), if_pos (by omega), q1]
  simp only [Option.bind_some, if_true]
  rw [if_pos (by omega), if_pos (by omega), q2]
  simp only [Option.bind_some, if_true]
  rw [q3]
  simp only [Option.bind_some, if_true]
  rw [k1]
  simp only [Option.bind_some, if_true]
  rw [k2]
  simp only [Option.bind_some, if_true]
  rw [k3]
  simp only [Option.bind_some, if_true]
  rw [k4]
  simp only [Option.bind_some, if_true]
  rw [k5]
  simp only [Option.bind_some, if_true]
  rw [k6]
  simp
end Go.Proofs.Ytjlcigdhhkfdiaa.Pure
