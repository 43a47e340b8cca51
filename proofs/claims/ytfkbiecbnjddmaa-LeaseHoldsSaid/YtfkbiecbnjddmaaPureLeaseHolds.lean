/- LeaseHolds: what the printed function says is true. -/
import Derived.Test.YtfkbiecbnjddmaaPLeaseHoldsx3
namespace Go.Proofs.Ytfkbiecbnjddmaa.PLeaseHolds
open Go.RowKit Go.Proofs.YtfkbiecbnjddmaaW.PrintWords Go.Proofs.YtfkbiecbnjddmaaW.PrintMore
set_option linter.unusedVariables false
set_option linter.unusedSimpArgs false
theorem filter_split {α : Type} (p : α → Bool) (l : List α) (i : Nat) (x : α) (hx : l[i]? = some x) : l.filter p = (l.take i).filter p ++ ((if p x then [x] else []) ++ (l.drop (i + 1)).filter p) := by
  obtain ⟨hi, rfl⟩ := List.getElem?_eq_some_iff.1 hx
  have h : l = l.take i ++ l[i] :: l.drop (i + 1) := by rw [List.getElem_cons_drop, List.take_append_drop]
  have h2 := congrArg (List.filter p) h
  rw [List.filter_append, List.filter_cons] at h2
  rw [h2]
  split <;> simp
theorem gone_eq' (r : S34) (a : Int) : lease_Gone.f r.f0 r.f1 r.f2 r.f3 r.f4 r.f5 r.f6 a = some (goneB a r) := by
  unfold lease_Gone.f goneB
  cases r.f0 <;> simp
theorem take_one {l : List S34} {i : Nat} {x : S34} (hx : l[i]? = some x) : l.take (i + 1) = l.take i ++ [x] := by
  obtain ⟨hi, rfl⟩ := List.getElem?_eq_some_iff.1 hx
  rw [List.take_append_getElem hi]
theorem stay_stay (l : List S34) (a : Int) : stayL (stayL l a) a = stayL l a := by simp [stayL, List.filter_filter]
theorem gone_stay (l : List S34) (a : Int) : goneL (stayL l a) a = [] := by
  simp only [goneL, stayL, List.filter_eq_nil_iff, List.mem_filter]
  rintro r ⟨_, h⟩
  simpa using h
theorem loop (a : Int) (l : List S34) (hl : l.length ≤ 40) : ∀ m i, i + m = l.length → ∀ k, m + 1 ≤ k →
    foyerlaw26_LeaseHolds.l0 k a l (stayL l a) (goneL l a) ((stayL (l.take i) a).length : Int) ((goneL (l.take i) a).length : Int) (i : Int) = some true := by
  intro m
  induction m with
  | zero =>
    intro i hi k hk
    obtain ⟨k, rfl⟩ : ∃ k', k = k' + 1 := ⟨k - 1, by omega⟩
    simp only [foyerlaw26_LeaseHolds.l0]
    have h1 : ¬ ((i : Int) < (l.length : Int)) := by omega
    have h2 : l.take i = l := List.take_of_length_le (by omega)
    have h3 : (stayL l a).length < 1000000 := Nat.lt_of_le_of_lt (List.length_filter_le _ _) (by omega)
    rw [if_neg h1, h2]
    simp [lease_Sweep.f, h3, stay_stay, gone_stay]
  | succ m ih =>
    intro i hi k hk
    obtain ⟨k, rfl⟩ : ∃ k', k = k' + 1 := ⟨k - 1, by omega⟩
    simp only [foyerlaw26_LeaseHolds.l0]
    have hil : i < l.length := by omega
    have h1 : (i : Int) < (l.length : Int) := by omega
    have h0 : (0 : Int) ≤ (i : Int) := by omega
    obtain ⟨x, hx⟩ : ∃ x, l[i]? = some x := ⟨_, List.getElem?_eq_getElem hil⟩
    have hrd : rd_T34 l (i : Int) = x := by simp [rd_T34, List.getD_eq_getElem?_getD, hx]
    have hw : wrap64 ((i : Int) + 1) = ((i + 1 : Nat) : Int) := by unfold wrap64; omega
    rw [if_pos h1, if_pos h0, hrd, gone_eq', Option.bind_some]
    have ht := take_one hx
    have hih := ih (i + 1) (by omega) k (by omega)
    by_cases hg : goneB a x = true
    · have hs := filter_split (goneB a) l i x hx
      rw [hg, if_pos rfl] at hs
      have e1 : goneL (l.take (i + 1)) a = goneL (l.take i) a ++ [x] := by rw [ht]; simp [goneL, hg]
      have e2 : stayL (l.take (i + 1)) a = stayL (l.take i) a := by rw [ht]; simp [stayL, hg]
      obtain ⟨g, hgl⟩ : ∃ g, (goneL (l.take i) a).length = g := ⟨_, rfl⟩
      have hgle : g ≤ 40 := by rw [← hgl]; exact Nat.le_trans (List.length_filter_le _ _) (by rw [List.length_take]; omega)
      have hlen : g < (goneL l a).length := by
        have : (goneL l a).length = (goneL (l.take i) a).length + (1 + ((l.drop (i + 1)).filter (goneB a)).length) := by
          show (l.filter (goneB a)).length = _
          rw [hs]; simp [goneL]; omega
        omega
      have hrg : rd_T34 (goneL l a) (g : Int) = x := by
        have : (goneL l a)[g]? = some x := by
          show (l.filter (goneB a))[g]? = _
          rw [hs, List.getElem?_append_right (by show ((goneL (l.take i) a).length) ≤ g; omega)]
          have : g - ((l.take i).filter (goneB a)).length = 0 := by show g - (goneL (l.take i) a).length = 0; omega
          rw [this]; simp
        simp [rd_T34, List.getD_eq_getElem?_getD, this]
      have hw2 : wrap64 ((g : Int) + 1) = ((g + 1 : Nat) : Int) := by unfold wrap64; omega
      rw [hg, if_pos rfl, hgl, if_neg (by omega), if_pos (by omega), if_pos (by omega), hrg, hw, hw2]
      rw [e1, e2] at hih
      rw [List.length_append, hgl] at hih
      simp only [beq_self_eq_true, Bool.not_true, Bool.or_self, Bool.false_eq_true, if_false]
      exact hih
    · have hg' : goneB a x = false := by simpa using hg
      have hs := filter_split (fun r => !goneB a r) l i x hx
      rw [if_pos (by simp [hg'])] at hs
      have e1 : goneL (l.take (i + 1)) a = goneL (l.take i) a := by rw [ht]; simp [goneL, hg']
      have e2 : stayL (l.take (i + 1)) a = stayL (l.take i) a ++ [x] := by rw [ht]; simp [stayL, hg']
      obtain ⟨g, hgl⟩ : ∃ g, (stayL (l.take i) a).length = g := ⟨_, rfl⟩
      have hgle : g ≤ 40 := by rw [← hgl]; exact Nat.le_trans (List.length_filter_le _ _) (by rw [List.length_take]; omega)
      have hlen : g < (stayL l a).length := by
        have : (stayL l a).length = (stayL (l.take i) a).length + (1 + ((l.drop (i + 1)).filter (fun r => !goneB a r)).length) := by
          show (l.filter (fun r => !goneB a r)).length = _
          rw [hs]; simp [stayL]; omega
        omega
      have hrg : rd_T34 (stayL l a) (g : Int) = x := by
        have : (stayL l a)[g]? = some x := by
          show (l.filter (fun r => !goneB a r))[g]? = _
          rw [hs, List.getElem?_append_right (by show ((stayL (l.take i) a).length) ≤ g; omega)]
          have : g - ((l.take i).filter (fun r => !goneB a r)).length = 0 := by show g - (stayL (l.take i) a).length = 0; omega
          rw [this]; simp
        simp [rd_T34, List.getD_eq_getElem?_getD, this]
      have hw2 : wrap64 ((g : Int) + 1) = ((g + 1 : Nat) : Int) := by unfold wrap64; omega
      rw [hg', if_neg (by simp), hgl, if_neg (by omega), if_pos (by omega), if_pos (by omega), hrg, hw, hw2]
      rw [e1, e2] at hih
      rw [List.length_append, hgl] at hih
      simp only [beq_self_eq_true, Bool.not_true, Bool.or_self, Bool.false_eq_true, if_false]
      exact hih
theorem rest (a : Int) (l2 : List S34) : foyerlaw26_LeaseHolds.j0 60 a l2 false = some true := by
  obtain ⟨l, hl⟩ : ∃ l, l2.take (mn (l2.length : Int) 40).toNat = l := ⟨_, rfl⟩
  have hm : 0 ≤ mn (l2.length : Int) 40 ∧ mn (l2.length : Int) 40 ≤ (l2.length : Int) ∧ mn (l2.length : Int) 40 ≤ 40 := by
    unfold mn; split <;> omega
  have hll : l.length ≤ 40 := by rw [← hl, List.length_take]; omega
  have h3 : l.length < 1000000 := by omega
  have hlp := loop a l hll l.length 0 (by omega) 59 (by omega)
  simp only [List.take_zero] at hlp
  rw [show (60 : Nat) = 59 + 1 from rfl]
  simp only [foyerlaw26_LeaseHolds.j0]
  rw [if_neg (by simp), Option.bind_some, if_pos hm.1, if_pos hm.2.1, hl, Option.bind_some, if_pos (by simp only [List.length_nil]; omega), Option.bind_some, List.nil_append]
  rw [lease_Sweep.f, if_pos h3, Option.bind_some]
  exact hlp
theorem holds (a0 a1 : Int) (h0 : 0 ≤ a0) (h0' : a0 ≤ 18446744073709551615) (h1 : 0 ≤ a1) (h1' : a1 ≤ 65535) (l2 : List S34) : foyerlaw26_LeaseHolds.f 60 a0 a1 l2 = some true := by
  have t0 : Int.tmod a0 1152921504606846977 = a0 % 1152921504606846977 := by rw [Int.tmod_eq_emod_of_nonneg h0]
  have w1 : IntKind.u64.wrap a1 = a1 := by rw [IntKind.wrap_u64]; omega
  have t1 : Int.tmod a1 10000 = a1 % 10000 := by rw [Int.tmod_eq_emod_of_nonneg h1]
  obtain ⟨now, hnow⟩ : ∃ now, a0 % 1152921504606846977 = now := ⟨_, rfl⟩
  obtain ⟨t, ht⟩ : ∃ t, a1 % 10000 = t := ⟨_, rfl⟩
  have n0 : 0 ≤ now ∧ now ≤ 1152921504606846976 := by omega
  have n1 : 0 ≤ t ∧ t ≤ 9999 := by omega
  have w2 : IntKind.u64.wrap (1 + t) = 1 + t := by rw [IntKind.wrap_u64]; omega
  have w3 : IntKind.u64.wrap (now + (1 + t)) = now + (1 + t) := by rw [IntKind.wrap_u64]; omega
  have w4 : IntKind.u64.wrap (now + (1 + t) - 1) = now + t := by rw [IntKind.wrap_u64]; omega
  unfold foyerlaw26_LeaseHolds.f
  rw [t0, w1, t1, hnow, ht, w2, w3, w4]
  have hti : lease_Till.f now (1 + t) = some (now + (1 + t), 0) := by
    unfold lease_Till.f
    rw [if_neg (by omega), if_neg (by omega), if_neg (by omega), w3]
  have g1 : lease_Gone.f true 0 (⟨#[]⟩ : ByteArray) 0 0 0 (now + (1 + t)) now = some false := by
    unfold lease_Gone.f; rw [if_pos rfl, decide_eq_false (by omega)]
  have g2 : lease_Gone.f true 0 (⟨#[]⟩ : ByteArray) 0 0 0 (now + (1 + t)) (now + t) = some false := by
    unfold lease_Gone.f; rw [if_pos rfl, decide_eq_false (by omega)]
  have g3 : lease_Gone.f true 0 (⟨#[]⟩ : ByteArray) 0 0 0 (now + (1 + t)) (now + (1 + t)) = some true := by
    unfold lease_Gone.f; rw [if_pos rfl, decide_eq_true (by omega)]
  have g4 : lease_Gone.f true 0 (⟨#[]⟩ : ByteArray) 0 0 0 (now + (1 + t)) 18446744073709551615 = some true := by
    unfold lease_Gone.f; rw [if_pos rfl, decide_eq_true (by omega)]
  rw [foyerlaw26_works.f, Option.bind_some, if_pos rfl, hti, Option.bind_some]
  simp only [if_true]
  rw [g1, Option.bind_some, if_neg (by simp), g2, Option.bind_some, if_neg (by simp), g3, Option.bind_some, if_pos rfl, g4, Option.bind_some]
  exact rest now l2
end Go.Proofs.Ytfkbiecbnjddmaa.PLeaseHolds
