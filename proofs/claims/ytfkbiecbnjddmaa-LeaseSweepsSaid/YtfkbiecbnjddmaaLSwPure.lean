/- What the reference's Sweep, recs and Till say, in plain words. -/
import Derived.Test.YtfkbiecbnjddmaaLSweep
namespace Go.Proofs.Ytfkbiecbnjddmaa
open Go.RowKit Go.Proofs.YtfkbiecbnjddmaaW.PrintWords Go.Proofs.YtfkbiecbnjddmaaW.PrintMore
set_option linter.unusedVariables false
set_option linter.unusedSimpArgs false
theorem ref_gone_eq (r : S34) (a : Int) : foyerref26_Gone.f r.f0 r.f1 r.f2 r.f3 r.f4 r.f5 r.f6 a = some (goneB a r) := by
  unfold foyerref26_Gone.f goneB
  cases r.f0 <;> simp
theorem take_rd' {l : List S34} {i : Nat} (hi : i < l.length) : l.take (i + 1) = l.take i ++ [rd_T34 l (i : Int)] := take_rd rfl hi rfl
theorem ref_sweep_loop (a : Int) (l : List S34) (hl : l.length ≤ 40) : ∀ m i, i + m = l.length → ∀ k, m + 1 ≤ k →
    foyerref26_Sweep.l0 k l a (stayL (l.take i) a) (goneL (l.take i) a) (i : Int) = some (stayL l a, goneL l a) := by
  intro m
  induction m with
  | zero =>
    intro i hi k hk
    obtain ⟨k, rfl⟩ : ∃ k', k = k' + 1 := ⟨k - 1, by omega⟩
    simp only [foyerref26_Sweep.l0]
    rw [if_neg (by omega), List.take_of_length_le (by omega)]
  | succ m ih =>
    intro i hi k hk
    obtain ⟨k, rfl⟩ : ∃ k', k = k' + 1 := ⟨k - 1, by omega⟩
    simp only [foyerref26_Sweep.l0]
    have hil : i < l.length := by omega
    have hw : wrap64 ((i : Int) + 1) = ((i + 1 : Nat) : Int) := by unfold wrap64; omega
    have h1 := stay_le l a i
    have h2 := gone_le l a i
    have hih := ih (i + 1) (by omega) k (by omega)
    have ht := take_rd' hil
    rw [if_pos (by omega), if_pos (by omega), ref_gone_eq, Option.bind_some, hw]
    by_cases hg : goneB a (rd_T34 l (i : Int)) = true
    · have e1 : goneL (l.take (i + 1)) a = goneL (l.take i) a ++ [rd_T34 l (i : Int)] := by rw [ht]; simp [goneL, hg]
      have e2 : stayL (l.take (i + 1)) a = stayL (l.take i) a := by rw [ht]; simp [stayL, hg]
      rw [e1, e2] at hih
      rw [if_pos hg, if_pos (by omega)]
      exact hih
    · have hg' : goneB a (rd_T34 l (i : Int)) = false := by simpa using hg
      have e1 : goneL (l.take (i + 1)) a = goneL (l.take i) a := by rw [ht]; simp [goneL, hg']
      have e2 : stayL (l.take (i + 1)) a = stayL (l.take i) a ++ [rd_T34 l (i : Int)] := by rw [ht]; simp [stayL, hg']
      rw [e1, e2] at hih
      rw [if_neg hg, if_pos (by omega)]
      exact hih
theorem ref_sweep (a : Int) (l : List S34) (hl : l.length ≤ 40) : foyerref26_Sweep.f 60 l a = some (stayL l a, goneL l a) :=
  ref_sweep_loop a l hl l.length 0 (by omega) 60 (by omega)
theorem recs_loop (l : List S34) (hl : l.length ≤ 40) : ∀ m i, i + m = l.length → ∀ k, m + 1 ≤ k → foyerlaw26_recs.l0 k l l (i : Int) = some true := by
  intro m
  induction m with
  | zero =>
    intro i hi k hk
    obtain ⟨k, rfl⟩ : ∃ k', k = k' + 1 := ⟨k - 1, by omega⟩
    simp only [foyerlaw26_recs.l0]
    rw [if_neg (by omega)]
  | succ m ih =>
    intro i hi k hk
    obtain ⟨k, rfl⟩ : ∃ k', k = k' + 1 := ⟨k - 1, by omega⟩
    simp only [foyerlaw26_recs.l0]
    have hw : wrap64 ((i : Int) + 1) = ((i + 1 : Nat) : Int) := by unfold wrap64; omega
    rw [if_pos (by omega), if_pos (by omega), if_pos (by omega), hw]
    simp only [beq_self_eq_true, Bool.not_true, Bool.or_self, Bool.false_eq_true, if_false]
    exact ih (i + 1) (by omega) k (by omega)
theorem recs_same (l : List S34) (hl : l.length ≤ 40) : foyerlaw26_recs.f 60 l l = some true := by
  unfold foyerlaw26_recs.f
  rw [if_pos rfl]
  exact recs_loop l hl l.length 0 (by omega) 60 (by omega)
theorem till_same (a t : Int) (h : 0 ≤ t) : foyerref26_Till.f a t = lease_Till.f a t := by
  unfold foyerref26_Till.f lease_Till.f
  by_cases h0 : t = 0
  · subst h0; simp
  · rw [if_neg (by omega), if_neg h0]
theorem till_some (a t : Int) : ∃ r1 r2, lease_Till.f a t = some (r1, r2) := by
  unfold lease_Till.f
  split
  · exact ⟨_, _, rfl⟩
  · split
    · exact ⟨_, _, rfl⟩
    · split <;> exact ⟨_, _, rfl⟩
end Go.Proofs.Ytfkbiecbnjddmaa
