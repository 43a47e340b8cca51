/- The stable order of moves as a list: it is told by its keys; a list laid in by insertion. -/
import Derived.Test.YteojldbfebnccaaRSortQ
namespace Go.Proofs.Yteojldbfebnccaa
set_option linter.unusedVariables false
def Inc (l : List S49) : Prop := l.Pairwise fun x y => x.f0 ≤ y.f0
theorem mem_ofKey {c : Int} {l : List S49} {x : S49} : x ∈ ofKey c l ↔ x ∈ l ∧ x.f0 = c := by unfold ofKey; rw [List.mem_filter]; simp
theorem ofKey_cons (c : Int) (x : S49) (l : List S49) : ofKey c (x :: l) = if x.f0 = c then x :: ofKey c l else ofKey c l := by
  unfold ofKey
  rw [List.filter_cons]
  by_cases h : x.f0 = c
  · simp [h]
  · simp [h]
theorem stable_unique : ∀ (l r : List S49), Inc l → Inc r → (∀ c, ofKey c l = ofKey c r) → l = r
  | [], r, _, _, h => by
    cases r with
    | nil => rfl
    | cons y s =>
      have := h y.f0
      rw [ofKey_cons, if_pos rfl] at this
      exact absurd this (by simp [ofKey])
  | x :: l, [], _, _, h => by
    have := h x.f0
    rw [ofKey_cons, if_pos rfl] at this
    exact absurd this.symm (by simp [ofKey])
  | x :: l, y :: r, h1, h2, h => by
    have a1 : y.f0 ≤ x.f0 := by
      have : x ∈ ofKey x.f0 (y :: r) := by rw [← h]; exact mem_ofKey.2 ⟨by simp, rfl⟩
      rcases List.mem_cons.1 (mem_ofKey.1 this).1 with e | hm
      · rw [e]; exact Int.le_refl _
      · exact (List.pairwise_cons.1 h2).1 x hm
    have a2 : x.f0 ≤ y.f0 := by
      have : y ∈ ofKey y.f0 (x :: l) := by rw [h]; exact mem_ofKey.2 ⟨by simp, rfl⟩
      rcases List.mem_cons.1 (mem_ofKey.1 this).1 with e | hm
      · rw [e]; exact Int.le_refl _
      · exact (List.pairwise_cons.1 h1).1 y hm
    have a3 : x.f0 = y.f0 := by omega
    have hh := h x.f0
    rw [ofKey_cons, ofKey_cons, if_pos rfl, if_pos a3.symm] at hh
    obtain ⟨rfl, ht⟩ := List.cons.inj hh
    congr 1
    refine stable_unique l r (List.pairwise_cons.1 h1).2 (List.pairwise_cons.1 h2).2 fun c => ?_
    have hc := h c
    rw [ofKey_cons, ofKey_cons] at hc
    by_cases e : x.f0 = c
    · rw [if_pos e, if_pos e] at hc; exact (List.cons.inj hc).2
    · rw [if_neg e, if_neg e] at hc; exact hc
/-- behind those that are not above it -/
def layIn (l : List S49) (x : S49) : List S49 := (l.takeWhile fun y => decide (y.f0 ≤ x.f0)) ++ x :: (l.dropWhile fun y => decide (y.f0 ≤ x.f0))
def stab (l : List S49) : List S49 := l.foldl layIn []
theorem layIn_keys {l : List S49} (h : Inc l) (x : S49) (c : Int) : ofKey c (layIn l x) = ofKey c (l ++ [x]) := by
  unfold layIn
  rw [ofKey_append, ofKey_cons, ofKey_append]
  have e : ofKey c l = ofKey c (l.takeWhile fun y => decide (y.f0 ≤ x.f0)) ++ ofKey c (l.dropWhile fun y => decide (y.f0 ≤ x.f0)) := by rw [← ofKey_append, List.takeWhile_append_dropWhile]
  rw [e, ofKey_cons]
  by_cases hx : x.f0 = c
  · rw [if_pos hx, if_pos hx]
    have hz : ofKey c (l.dropWhile fun y => decide (y.f0 ≤ x.f0)) = [] := by
      unfold ofKey
      rw [List.filter_eq_nil_iff]
      intro y hy hyc
      have hyc' : y.f0 = c := by simpa using hyc
      have hall : ∀ z ∈ l.dropWhile (fun y => decide (y.f0 ≤ x.f0)), x.f0 < z.f0 := by
        intro z hz
        cases hd : l.dropWhile (fun y => decide (y.f0 ≤ x.f0)) with
        | nil => rw [hd] at hz; simp at hz
        | cons w t =>
          have hw : x.f0 < w.f0 := by
            have := List.head?_dropWhile_not (fun y : S49 => decide (y.f0 ≤ x.f0)) l
            rw [hd] at this
            simp at this
            exact this
          have hsub : (w :: t).Sublist l := by rw [← hd]; exact List.dropWhile_sublist _
          have hp := List.Pairwise.sublist hsub h
          rw [hd] at hz
          rcases List.mem_cons.1 hz with e | hm
          · rw [e]; exact hw
          · have := (List.pairwise_cons.1 hp).1 z hm; omega
      have := hall y hy
      omega
    rw [hz]
    simp [ofKey]
  · rw [if_neg hx, if_neg hx]
    simp [ofKey]
theorem layIn_inc {l : List S49} (h : Inc l) (x : S49) : Inc (layIn l x) := by
  unfold layIn Inc
  have hl : Inc (l.takeWhile (fun y => decide (y.f0 ≤ x.f0)) ++ l.dropWhile (fun y => decide (y.f0 ≤ x.f0))) := by rw [List.takeWhile_append_dropWhile]; exact h
  unfold Inc at hl
  rw [List.pairwise_append] at hl
  have h1 : ∀ y ∈ l.takeWhile (fun y => decide (y.f0 ≤ x.f0)), y.f0 ≤ x.f0 := fun y hy => by
    have := List.all_takeWhile (p := fun y : S49 => decide (y.f0 ≤ x.f0)) (l := l)
    rw [List.all_eq_true] at this
    simpa using this y hy
  have h2 : ∀ z ∈ l.dropWhile (fun y => decide (y.f0 ≤ x.f0)), x.f0 ≤ z.f0 := by
    intro z hz
    cases hd : l.dropWhile (fun y => decide (y.f0 ≤ x.f0)) with
    | nil => rw [hd] at hz; simp at hz
    | cons w t =>
      have hw : x.f0 < w.f0 := by
        have := List.head?_dropWhile_not (fun y : S49 => decide (y.f0 ≤ x.f0)) l
        rw [hd] at this
        simp at this
        exact this
      have hp := hl.2.1
      rw [hd] at hz hp
      rcases List.mem_cons.1 hz with e | hm
      · rw [e]; omega
      · have := (List.pairwise_cons.1 hp).1 z hm; omega
  rw [List.pairwise_append]
  refine ⟨hl.1, List.pairwise_cons.2 ⟨h2, hl.2.1⟩, fun a ha b hb => ?_⟩
  rcases List.mem_cons.1 hb with e | hm
  · rw [e]; exact h1 a ha
  · exact hl.2.2 a ha b hm
theorem stab_snoc (l : List S49) (x : S49) : stab (l ++ [x]) = layIn (stab l) x := by unfold stab; rw [List.foldl_append]; rfl
theorem stab_all : ∀ (l : List S49), Inc (stab l) ∧ ∀ c, ofKey c (stab l) = ofKey c l := by
  intro l
  have H : ∀ (r : List S49), ∀ l, l = r.reverse → Inc (stab l) ∧ ∀ c, ofKey c (stab l) = ofKey c l := by
    intro r
    induction r with
    | nil => rintro l rfl; exact ⟨by unfold Inc stab; simp, fun c => rfl⟩
    | cons x r ih =>
      rintro l rfl
      rw [List.reverse_cons, stab_snoc]
      obtain ⟨h1, h2⟩ := ih _ rfl
      refine ⟨layIn_inc h1 x, fun c => ?_⟩
      rw [layIn_keys h1, ofKey_append, ofKey_append, h2]
  exact H l.reverse l (by simp)
theorem up_inc {g : Nat → S49} {n : Nat} (h : Up g 0 n) : Inc (seg g 0 n) := by
  unfold Inc
  rw [List.pairwise_iff_getElem]
  intro i j hi hj hij
  rw [seg_length] at hi hj
  have e1 := seg_get g (a := 0) (b := n) (t := i) (by omega)
  have e2 := seg_get g (a := 0) (b := n) (t := j) (by omega)
  rw [List.getElem?_eq_getElem (by rw [seg_length]; omega), Option.some.injEq] at e1 e2
  rw [e1, e2]
  exact h _ _ (by omega) (by omega) (by omega)
theorem seg_stab {g g' : Nat → S49} {n : Nat} (hs : Stb g g' 0 n) (hu : Up g' 0 n) : seg g' 0 n = stab (seg g 0 n) :=
  stable_unique _ _ (up_inc hu) (stab_all _).1 fun c => by rw [hs.keys, (stab_all _).2]
theorem seg_list (l : List S49) : seg (fun p => l.getD p z49) 0 l.length = l := by
  apply List.ext_getElem?
  intro t
  by_cases h : t < l.length
  · rw [seg_get _ (by omega), Nat.zero_add, List.getElem?_eq_getElem h, List.getD_eq_getElem?_getD, List.getElem?_eq_getElem h]; rfl
  · rw [seg_get_none _ (by omega), List.getElem?_eq_none_iff.2 (by omega)]
end Go.Proofs.Yteojldbfebnccaa
