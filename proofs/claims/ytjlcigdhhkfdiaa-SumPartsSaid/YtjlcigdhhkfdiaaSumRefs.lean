/-
  What the reference and the law's own helpers come to.
-/
import Derived.Test.YtjlcigdhhkfdiaaSumLaw
import Derived.Test.YtjlcigdhhkfdiaaBasex1
namespace Go.Proofs.Ytjlcigdhhkfdiaa
open Go.RowKit
open Go.Proofs.YtjlcigdhhkfdiaaW.PrintWords Go.Proofs.YtjlcigdhhkfdiaaW.PrintLast Go.Proofs.YtjlcigdhhkfdiaaW.PrintMore

theorem wrap_succ {i : Int} (h0 : 0 ≤ i) (h : i < 9223372036854775807) : wrap64 (i + 1) = i + 1 := by unfold wrap64; omega

theorem refMore_loop (s : ByteArray) (hs : s.size ≤ 9223372036854775807) (d : Nat) : ∀ (k : Nat) (i : Nat) (h : Int × Int), Sm.Ok h → i + d = s.size → d < k →
    foyerref03_More.l0 k s h.1 h.2 i = some (Sm.num ((s.data.toList.drop i).foldl Sm.stepM h)) := by
  induction d with
  | zero =>
    intro k i h ho hd hk
    obtain ⟨k, rfl⟩ : ∃ m, k = m + 1 := ⟨k - 1, by omega⟩
    simp only [foyerref03_More.l0]
    rw [if_neg (by omega), List.drop_of_length_le (by simp; omega)]
    obtain ⟨a, b, c, d⟩ := ho
    simp only [List.foldl_nil, Sm.num]
    congr 1
    omega
  | succ d ih =>
    intro k i h ho hd hk
    obtain ⟨k, rfl⟩ : ∃ m, k = m + 1 := ⟨k - 1, by omega⟩
    simp only [foyerref03_More.l0]
    have hlt : i < s.data.toList.length := by simp; omega
    rw [if_pos (by omega), if_pos (by omega), wrap_succ (by omega) (by omega), List.drop_eq_getElem_cons hlt, List.foldl_cons]
    have hb : bt s i = ((s.data.toList[i]'hlt).toNat : Int) := by
      have hi : i < s.size := by omega
      rw [bt, dif_pos (by simpa using hi)]
      exact rfl
    have hc := Sm.byte_lt (s.data.toList[i]'hlt)
    have hst : Sm.stepM h (s.data.toList[i]'hlt) = (((h.1 + (bt s i % 4294967296)) % 4294967296) % 65521, ((h.2 + (((h.1 + (bt s i % 4294967296)) % 4294967296) % 65521)) % 4294967296) % 65521) := by
      rw [hb]
      obtain ⟨a, b, c, d⟩ := ho
      simp only [Sm.stepM]
      refine Prod.ext ?_ ?_ <;> simp only <;> omega
    have := ih k (i + 1) (Sm.stepM h (s.data.toList[i]'hlt)) (Sm.stepM_ok _ _) (by omega) (by omega)
    rw [← this, hst]
    rfl

theorem refMore_eq (n : Int) (h0 : 0 ≤ n) (h1 : n < 4294967296) (s : ByteArray) (hs : s.size ≤ 9223372036854775807) (k : Nat) (hk : s.size < k) :
    foyerref03_More.f k n s = some (moreV n s.data.toList) := by
  rw [moreV_eq n _ h0 h1]
  have ho := halvesOf_ok n h0 h1
  have := refMore_loop s hs s.size k 0 (halvesOf n) ho (by omega) hk
  rw [List.drop_zero] at this
  rw [← this, halvesOf_eq n h0 h1, foyerref03_More.f]
  have e1 : Int.tmod (Int.tmod n 65536) 65521 = n % 65536 % 65521 := by
    rw [Int.tmod_eq_emod_of_nonneg h0, Int.tmod_eq_emod_of_nonneg (by omega)]
  have e2 : (Int.tdiv n 65536) % 4294967296 % 65521 = n / 65536 % 65521 := by
    rw [Int.tdiv_eq_ediv_of_nonneg h0, Int.emod_eq_of_lt (a := n / 65536) (by omega) (by omega)]
  rw [e1, e2]
  rfl

theorem ba_append_size (a b : ByteArray) : (a ++ b).size = a.size + b.size := ByteArray.size_append

theorem long_loop (a1 : Int) (h0 : 0 ≤ a1) (d : Nat) : ∀ (k : Nat) (i : Nat) (s : ByteArray), i + d = (a1 % 4).toNat → s.size ≤ 4000 * 2 ^ i → d < k →
    ∃ t, foyerlaw03_long.l0 k s a1 i = some t ∧ t.size ≤ 32000 := by
  have hw : wrap64 (Int.tmod a1 4) = a1 % 4 := by
    rw [Int.tmod_eq_emod_of_nonneg h0]; unfold wrap64; omega
  induction d with
  | zero =>
    intro k i s hd hs hk
    obtain ⟨k, rfl⟩ : ∃ m, k = m + 1 := ⟨k - 1, by omega⟩
    simp only [foyerlaw03_long.l0]
    rw [hw, if_neg (by omega)]
    refine ⟨s, rfl, ?_⟩
    have : i ≤ 3 := by omega
    have : 2 ^ i ≤ 2 ^ 3 := Nat.pow_le_pow_right (by omega) this
    omega
  | succ d ih =>
    intro k i s hd hs hk
    obtain ⟨k, rfl⟩ : ∃ m, k = m + 1 := ⟨k - 1, by omega⟩
    simp only [foyerlaw03_long.l0]
    have hp : 2 ^ i ≤ 2 ^ 3 := Nat.pow_le_pow_right (by omega) (by omega)
    rw [hw, if_pos (by omega), if_pos (by omega), wrap_succ (by omega) (by omega)]
    have := ih k (i + 1) (s ++ s) (by omega) (by rw [ba_append_size, Nat.pow_succ]; omega) (by omega)
    rw [Int.natCast_add] at this
    exact this
theorem long_some (s : ByteArray) (a1 : Int) (h0 : 0 ≤ a1) (k : Nat) (hk : 4 < k) : ∃ t, foyerlaw03_long.f k s a1 = some t ∧ t.size ≤ 32000 := by
  unfold foyerlaw03_long.f
  have hm : mn (s.size : Int) 4000 = ((min s.size 4000 : Nat) : Int) := by unfold mn; split <;> omega
  rw [hm, if_pos (by omega), if_pos (by omega)]
  exact long_loop a1 h0 (a1 % 4).toNat k 0 _ (by omega) (by simp; omega) (by omega)
end Go.Proofs.Ytjlcigdhhkfdiaa
