/- The plain statement behind SumParts: however a text is cut into parts, its sum is told by going on from part to part, and by joining. -/
import Derived.Test.YtjlcigdhhkfdiaaPSumPartsx1
import Derived.Test.YtjlcigdhhkfdiaaSumRefs
namespace Go.Proofs.Ytjlcigdhhkfdiaa.Pure
open Go.RowKit Go.Proofs.Ytjlcigdhhkfdiaa.PSumParts Go.Proofs.YtjlcigdhhkfdiaaW.PrintWords Go.Proofs.YtjlcigdhhkfdiaaW.PrintLast

theorem list_append (a b : ByteArray) : (a ++ b).data.toList = a.data.toList ++ b.data.toList := by
  rw [ByteArray.data_append, Array.toList_append]
theorem list_len (a : ByteArray) : a.data.toList.length = a.size := by rw [Array.length_toList]; rfl

theorem of_append (a b : List UInt8) : Sm.of (a ++ b) = b.foldl Sm.stepM (Sm.of a) := by rw [Sm.of, List.foldl_append, ← Sm.of]

theorem parts_step (l0 : List ByteArray) (a1 : Int) (x5 s : ByteArray) (i : Nat) (k : Nat) (h5 : x5.size ≤ 400000) (hs : s.size ≤ 32000) (hi : i < 10)
    (h : ∀ x : ByteArray, x.size = x5.size + s.size → foyerlaw03_SumParts.l0 k l0 a1 x (Sm.num (Sm.of x.data.toList)) (Sm.num (Sm.of x.data.toList)) ((i + 1 : Nat) : Int) = some true) :
    foyerlaw03_SumParts.j2 (k + 1) l0 a1 x5 (Sm.num (Sm.of x5.data.toList)) (Sm.num (Sm.of x5.data.toList)) i s = some true := by
  have ok := of_ok x5.data.toList
  have oks := of_ok s.data.toList
  have m1 : sum_More.f (Sm.num (Sm.of x5.data.toList)) s = some (Sm.num (Sm.of (x5 ++ s).data.toList)) := by
    rw [sum_More.f, if_pos (by omega), moreV_num _ ok, list_append, of_append]
  have m2 : sum_Of.f s = some (Sm.num (Sm.of s.data.toList)) := by rw [sum_Of.f, sum_More.f, if_pos (by omega), ofV_eq]
  have m3 : sum_Joined.f (Sm.num (Sm.of x5.data.toList)) (Sm.num (Sm.of s.data.toList)) (s.size : Int) = some (Sm.num (Sm.of (x5 ++ s).data.toList)) := by
    rw [sum_Joined.f, joinedV_eq _ _ ok oks s.size (by omega), list_append, of_append, fold_join _ ok, list_len]
  have m4 : sum_Of.f (x5 ++ s) = some (Sm.num (Sm.of (x5 ++ s).data.toList)) := by rw [sum_Of.f, sum_More.f, if_pos (by rw [ba_append_size]; omega), ofV_eq]
  simp only [foyerlaw03_SumParts.j2]
  rw [if_pos (by omega), m1]
  simp only [Option.bind_some]
  rw [m2]
  simp only [Option.bind_some]
  rw [m3]
  simp only [Option.bind_some]
  rw [m4]
  simp only [Option.bind_some, if_true]
  rw [wrap_succ (by omega) (by omega)]
  exact h (x5 ++ s) (ba_append_size _ _)

theorem parts_loop (l0 : List ByteArray) (a1 : Int) (h1 : 0 ≤ a1) (d : Nat) : ∀ (k i : Nat) (x5 : ByteArray), i + d = 10 → x5.size ≤ 32000 * i → 3 * d + 20 < k →
    foyerlaw03_SumParts.l0 k l0 a1 x5 (Sm.num (Sm.of x5.data.toList)) (Sm.num (Sm.of x5.data.toList)) (i : Int) = some true := by
  induction d with
  | zero =>
    intro k i x5 hi h5 hk
    obtain ⟨k, rfl⟩ : ∃ m, k = m + 1 + 1 := ⟨k - 2, by omega⟩
    simp only [foyerlaw03_SumParts.l0, foyerlaw03_SumParts.j1]
    rw [decide_eq_false (by omega)]
    simp
  | succ d ih =>
    intro k i x5 hi h5 hk
    obtain ⟨k, rfl⟩ : ∃ m, k = m + 1 + 1 + 1 := ⟨k - 3, by omega⟩
    simp only [foyerlaw03_SumParts.l0, foyerlaw03_SumParts.j1]
    by_cases hl : i < l0.length
    · rw [if_pos (by omega), decide_eq_true (by omega), if_pos rfl, if_pos (by omega), if_pos (by omega)]
      obtain ⟨s, hs⟩ : ∃ s, rdOf ByteArray.empty l0 (i : Int) = s := ⟨_, rfl⟩
      rw [hs]
      have hm : mn (s.size : Int) 4000 = ((min s.size 4000 : Nat) : Int) := by unfold mn; split <;> omega
      rw [hm, if_pos (by omega), if_pos (by omega)]
      have hrec : ∀ t : ByteArray, t.size ≤ 32000 → foyerlaw03_SumParts.j2 (k + 1) l0 a1 x5 (Sm.num (Sm.of x5.data.toList)) (Sm.num (Sm.of x5.data.toList)) i t = some true :=
        fun t ht => parts_step l0 a1 x5 t i k (by omega) ht (by omega) (fun x hx => ih k (i + 1) x (by omega) (by rw [hx]; omega) (by omega))
      by_cases h0 : (i : Int) = 0
      · rw [if_pos h0]
        obtain ⟨t, ht, hsz⟩ := long_some (s.extract 0 ((min s.size 4000 : Nat) : Int).toNat) a1 h1 (k + 1) (by omega)
        rw [ht]
        exact hrec t hsz
      · rw [if_neg h0]
        exact hrec _ (by simp; omega)
    · rw [if_neg (by omega)]
      simp

theorem SumParts (l0 : List ByteArray) (a1 : Int) (h1 : 0 ≤ a1) : ∃ k, foyerlaw03_SumParts.f k l0 a1 = some true := by
  refine ⟨60, ?_⟩
  unfold foyerlaw03_SumParts.f
  simp only [foyerlaw03_works.f, Option.bind_some, if_true]
  exact parts_loop l0 a1 h1 10 60 0 ⟨#[]⟩ (by omega) (by decide) (by omega)
end Go.Proofs.Ytjlcigdhhkfdiaa.Pure
