/- The stable sort of moves, in plain words: insertion, and the merge of two runs. -/
import Derived.Test.YteojldbfebnccaaRSortP
namespace Go.Proofs.Yteojldbfebnccaa
set_option linter.unusedVariables false
/-- the element at a has gone behind those up to k -/
def insA (g : Nat → S49) (a k : Nat) : Nat → S49 := fun p => if a ≤ p ∧ p < k then g (p + 1) else if p = k then g a else g p
theorem insA_start (g : Nat → S49) (a : Nat) : insA g a a = g := by
  funext p; unfold insA; rw [if_neg (by omega)]; split
  · rename_i h; rw [h]
  · rfl
theorem insA_step (g : Nat → S49) {a k : Nat} (h : a ≤ k) : swp (insA g a k) k (k + 1) = insA g a (k + 1) := by
  funext p
  unfold swp
  by_cases h1 : p = k
  · subst h1
    rw [if_pos rfl]
    unfold insA
    rw [if_neg (by omega), if_neg (by omega), if_pos (by omega)]
  · rw [if_neg h1]
    by_cases h2 : p = k + 1
    · subst h2
      rw [if_pos rfl]
      unfold insA
      rw [if_neg (by omega), if_pos rfl, if_neg (by omega), if_pos rfl]
    · rw [if_neg h2]
      unfold insA
      by_cases h3 : a ≤ p ∧ p < k
      · rw [if_pos h3, if_pos (by omega)]
      · rw [if_neg h3, if_neg h1, if_neg (by omega), if_neg h2]
theorem insA_at (g : Nat → S49) (a k : Nat) : insA g a k k = g a := by unfold insA; rw [if_neg (by omega), if_pos rfl]
theorem insA_far (g : Nat → S49) {a k p : Nat} (h : k < p) : insA g a k p = g p := by unfold insA; rw [if_neg (by omega), if_neg (by omega)]
theorem insA_near (g : Nat → S49) {a k p : Nat} (h1 : a ≤ p) (h2 : p < k) : insA g a k p = g (p + 1) := by unfold insA; rw [if_pos ⟨h1, h2⟩]
theorem Stb.insA (g : Nat → S49) {a b : Nat} : ∀ {k : Nat}, a ≤ k → k < b → (∀ p, a < p → p ≤ k → (g p).f0 ≠ (g a).f0) → Stb g (insA g a k) a b
  | k, h1, h2, h3 => by
    induction k with
    | zero => obtain rfl : a = 0 := by omega
              rw [insA_start]; exact Stb.refl _ _ _
    | succ k ih =>
      rcases Nat.lt_or_ge k a with h | h
      · obtain rfl : a = k + 1 := by omega
        rw [insA_start]; exact Stb.refl _ _ _
      · rw [← insA_step g h]
        refine (ih h (by omega) (fun p p1 p2 => h3 p p1 (by omega))).trans (Stb.swap h h2 ?_)
        rw [insA_at, insA_far g (by omega)]
        exact fun e => h3 (k + 1) (by omega) (by omega) e.symm
/-- the element at m has gone ahead of those from k on -/
def insB (g : Nat → S49) (m k : Nat) : Nat → S49 := fun p => if k < p ∧ p ≤ m then g (p - 1) else if p = k then g m else g p
theorem insB_start (g : Nat → S49) (m : Nat) : insB g m m = g := by
  funext p; unfold insB; rw [if_neg (by omega)]; split
  · rename_i h; rw [h]
  · rfl
theorem insB_step (g : Nat → S49) {m k : Nat} (h : k + 1 ≤ m) : swp (insB g m (k + 1)) (k + 1) k = insB g m k := by
  funext p
  unfold swp
  by_cases h1 : p = k + 1
  · subst h1
    rw [if_pos rfl]
    unfold insB
    rw [if_neg (by omega), if_neg (by omega), if_pos (by omega)]; rfl
  · rw [if_neg h1]
    by_cases h2 : p = k
    · subst h2
      rw [if_pos rfl]
      unfold insB
      rw [if_neg (by omega), if_pos rfl, if_neg (by omega), if_pos rfl]
    · rw [if_neg h2]
      unfold insB
      by_cases h3 : k + 1 < p ∧ p ≤ m
      · rw [if_pos h3, if_pos (by omega)]
      · rw [if_neg h3, if_neg h1, if_neg (by omega), if_neg h2]
theorem insB_at (g : Nat → S49) (m k : Nat) : insB g m k k = g m := by unfold insB; rw [if_neg (by omega), if_pos rfl]
theorem insB_far (g : Nat → S49) {m k p : Nat} (h : p < k ∨ (m < p ∧ k ≤ m)) : insB g m k p = g p := by unfold insB; rw [if_neg (by omega), if_neg (by omega)]
theorem insB_near (g : Nat → S49) {m k p : Nat} (h1 : k < p) (h2 : p ≤ m) : insB g m k p = g (p - 1) := by unfold insB; rw [if_pos ⟨h1, h2⟩]
theorem Stb.insB (g : Nat → S49) {a b m : Nat} (hm : m < b) : ∀ (d k : Nat), k + d = m → a ≤ k → (∀ p, k ≤ p → p < m → (g p).f0 ≠ (g m).f0) → Stb g (insB g m k) a b
  | 0, k, h1, h2, h3 => by
    obtain rfl : k = m := by omega
    rw [insB_start]; exact Stb.refl _ _ _
  | d + 1, k, h1, h2, h3 => by
    rw [← insB_step g (show k + 1 ≤ m by omega), swp_comm]
    refine (Stb.insB g hm d (k + 1) (by omega) (by omega) (fun p p1 p2 => h3 p (by omega) p2)).trans (Stb.swap h2 (by omega) ?_)
    rw [insB_at, insB_far g (by omega)]
    exact h3 k (by omega) (by omega)
/-- one element is laid into a run behind it -/
theorem merge_a {g : Nat → S49} {a b i : Nat} (h1 : a + 1 ≤ i) (h2 : i ≤ b) (hlt : ∀ p, a + 1 ≤ p → p < i → (g p).f0 < (g a).f0) (hge : ∀ p, i ≤ p → p < b → (g a).f0 ≤ (g p).f0) (hu : Up g (a + 1) b) :
    Stb g (insA g a (i - 1)) a b ∧ Up (insA g a (i - 1)) a b := by
  refine ⟨Stb.insA g (by omega) (by omega) (fun p p1 p2 => by have := hlt p (by omega) (by omega); omega), fun p q x y z => ?_⟩
  obtain ⟨k, rfl⟩ : ∃ k, i = k + 1 := ⟨i - 1, by omega⟩
  rw [Nat.add_sub_cancel]
  have val : ∀ r, a ≤ r → r < b → (r < k ∧ insA g a k r = g (r + 1)) ∨ (r = k ∧ insA g a k r = g a) ∨ (k < r ∧ insA g a k r = g r) := fun r r1 r2 => by
    rcases Nat.lt_trichotomy r k with h | h | h
    · exact .inl ⟨h, insA_near g r1 h⟩
    · exact .inr (.inl ⟨h, by rw [h]; exact insA_at g a k⟩)
    · exact .inr (.inr ⟨h, insA_far g h⟩)
  rcases val p x (by omega) with ⟨a1, a2⟩ | ⟨a1, a2⟩ | ⟨a1, a2⟩ <;> rcases val q (by omega) z with ⟨b1, b2⟩ | ⟨b1, b2⟩ | ⟨b1, b2⟩ <;> rw [a2, b2]
  · exact hu _ _ (by omega) (by omega) (by omega)
  · have := hlt (p + 1) (by omega) (by omega); omega
  · exact hu _ _ (by omega) (by omega) (by omega)
  · omega
  · exact Int.le_refl _
  · exact hge _ (by omega) (by omega)
  · omega
  · omega
  · exact hu _ _ (by omega) (by omega) (by omega)
/-- one element is laid into a run ahead of it -/
theorem merge_b {g : Nat → S49} {a m i : Nat} (h1 : a ≤ i) (h2 : i ≤ m) (hle : ∀ p, a ≤ p → p < i → (g p).f0 ≤ (g m).f0) (hgt : ∀ p, i ≤ p → p < m → (g m).f0 < (g p).f0) (hu : Up g a m) :
    Stb g (insB g m i) a (m + 1) ∧ Up (insB g m i) a (m + 1) := by
  refine ⟨Stb.insB g (by omega) (m - i) i (by omega) h1 (fun p p1 p2 => by have := hgt p p1 p2; omega), fun p q x y z => ?_⟩
  have val : ∀ r, a ≤ r → r < m + 1 → (r < i ∧ insB g m i r = g r) ∨ (r = i ∧ insB g m i r = g m) ∨ (i < r ∧ insB g m i r = g (r - 1)) := fun r r1 r2 => by
    rcases Nat.lt_trichotomy r i with h | h | h
    · exact .inl ⟨h, insB_far g (.inl h)⟩
    · exact .inr (.inl ⟨h, by rw [h]; exact insB_at g m i⟩)
    · exact .inr (.inr ⟨h, insB_near g h (by omega)⟩)
  rcases val p x (by omega) with ⟨a1, a2⟩ | ⟨a1, a2⟩ | ⟨a1, a2⟩ <;> rcases val q (by omega) z with ⟨b1, b2⟩ | ⟨b1, b2⟩ | ⟨b1, b2⟩ <;> rw [a2, b2]
  · exact hu _ _ (by omega) (by omega) (by omega)
  · exact hle _ (by omega) (by omega)
  · exact hu _ _ (by omega) (by omega) (by omega)
  · omega
  · exact Int.le_refl _
  · have := hgt (q - 1) (by omega) (by omega); omega
  · omega
  · omega
  · exact hu _ _ (by omega) (by omega) (by omega)
/-- what the cut of two runs leaves: s is where the left one is cut, e the right one -/
structure Cut (g g1 : Nat → S49) (a s mid e b : Nat) : Prop where
  stb : Stb g g1 a b
  u1 : Up g1 a s
  u2 : Up g1 s mid
  u3 : Up g1 mid e
  u4 : Up g1 e b
  cross : ∀ p q, a ≤ p → p < mid → mid ≤ q → q < b → (g1 p).f0 ≤ (g1 q).f0
theorem rotF_self (g : Nat → S49) {s m e : Nat} (h : s = m ∨ m = e) (h1 : s ≤ m) (h2 : m ≤ e) : rotF g s m e = g := by
  funext p
  unfold rotF
  split
  · congr 1; omega
  · split
    · congr 1; omega
    · rfl
theorem merge_cut {g : Nat → S49} {a s m e b mid : Nat} (h1 : a ≤ s) (h2 : s ≤ m) (h3 : m ≤ e) (h4 : e ≤ b) (hmid : s + (e - m) = mid) (hu1 : Up g a m) (hu2 : Up g m b)
    (c1 : a = s ∨ e = b ∨ (g (s - 1)).f0 ≤ (g e).f0) (c2 : s = m ∨ e = m ∨ (g (e - 1)).f0 < (g s).f0) : Cut g (rotF g s m e) a s mid e b := by
  have k1 : ∀ p q, s ≤ p → p < m → m ≤ q → q < e → (g q).f0 < (g p).f0 := fun p q x y z v => by
    rcases c2 with h | h | h
    · omega
    · omega
    · have := hu2 q (e - 1) z (by omega) (by omega)
      have := hu1 s p h1 x y
      omega
  have k2 : ∀ p q, a ≤ p → p < s → e ≤ q → q < b → (g p).f0 ≤ (g q).f0 := fun p q x y z v => by
    rcases c1 with h | h | h
    · omega
    · omega
    · have := hu1 p (s - 1) x (by omega) (by omega)
      have := hu2 e q h3 z v
      omega
  have vl : ∀ p, p < s → rotF g s m e p = g p := fun p hp => rotF_out h2 h3 (.inl hp)
  have vr : ∀ p, e ≤ p → rotF g s m e p = g p := fun p hp => rotF_out h2 h3 (.inr hp)
  have v1 : ∀ p, s ≤ p → p < mid → rotF g s m e p = g (p - s + m) := fun p x y => rotF_left x (by omega)
  have v2 : ∀ p, mid ≤ p → p < e → rotF g s m e p = g (p - (e - m)) := fun p x y => rotF_right (by omega) y
  refine ⟨Stb.rot h1 h2 h3 h4 (fun p q x y z v => by have := k1 p q x y z v; omega), ?_, ?_, ?_, ?_, ?_⟩
  · intro p q x y z
    rw [vl p (by omega), vl q z]
    exact hu1 p q x y (by omega)
  · intro p q x y z
    rw [v1 p x (by omega), v1 q (by omega) z]
    exact hu2 _ _ (by omega) (by omega) (by omega)
  · intro p q x y z
    rw [v2 p x (by omega), v2 q (by omega) z]
    exact hu1 _ _ (by omega) (by omega) (by omega)
  · intro p q x y z
    rw [vr p x, vr q (by omega)]
    exact hu2 p q (by omega) y z
  · intro p q x y z v
    rcases Nat.lt_or_ge p s with hp | hp <;> rcases Nat.lt_or_ge q e with hq | hq
    · rw [vl p hp, v2 q z hq]; exact hu1 _ _ x (by omega) (by omega)
    · rw [vl p hp, vr q hq]; exact k2 p q x hp hq v
    · rw [v1 p hp y, v2 q z hq]; exact Int.le_of_lt (k1 _ _ (by omega) (by omega) (by omega) (by omega))
    · rw [v1 p hp y, vr q hq]; exact hu2 _ _ (by omega) (by omega) v
/-- both halves are merged: all is -/
theorem merge_join {g g1 g2 g3 : Nat → S49} {a s mid e b : Nat} (h1 : a ≤ mid) (h2 : mid ≤ b) (hc : Cut g g1 a s mid e b) (s2 : Stb g1 g2 a mid) (u2 : Up g2 a mid) (s3 : Stb g2 g3 mid b) (u3 : Up g3 mid b) : Stb g g3 a b ∧ Up g3 a b := by
  refine ⟨hc.stb.trans ((s2.wide (Nat.le_refl _) h1 h2).trans (s3.wide h1 h2 (Nat.le_refl _))), ?_⟩
  refine Up.join (u2.of (fun p _ hp => s3.out p (.inl hp))) u3 fun p q x y z v => ?_
  rw [s3.out p (.inl y)]
  obtain ⟨p', p1, p2, p3⟩ := s2.mem x y
  obtain ⟨q', q1, q2, q3⟩ := s3.mem z v
  rw [← p3, ← q3, s2.out q' (.inr q1)]
  exact hc.cross p' q' p1 p2 q1 q2
/-! ### insertion -/
structure InsAt (h : Nat → S49) (a i j : Nat) : Prop where
  up : ∀ p q, a ≤ p → p ≤ q → q ≤ i → p ≠ j → q ≠ j → (h p).f0 ≤ (h q).f0
  lt : ∀ q, j < q → q ≤ i → (h j).f0 < (h q).f0
theorem InsAt.start {h : Nat → S49} {a i : Nat} (hu : Up h a i) : InsAt h a i i := ⟨fun p q x y z v w => hu p q x y (by omega), fun q x y => by omega⟩
theorem InsAt.stop {h : Nat → S49} {a i j : Nat} (H : InsAt h a i j) (h1 : a ≤ j) (h2 : j ≤ i) (hd : j = a ∨ (h (j - 1)).f0 ≤ (h j).f0) : Up h a (i + 1) := fun p q x y z => by
  by_cases hp : p = j
  · subst hp
    by_cases hq : q = p
    · subst hq; exact Int.le_refl _
    · exact Int.le_of_lt (H.lt q (by omega) (by omega))
  · by_cases hq : q = j
    · subst hq
      rcases hd with h | h
      · omega
      · refine Int.le_trans ?_ h
        exact H.up p (q - 1) x (by omega) (by omega) hp (by omega)
    · exact H.up p q x y (by omega) hp hq
theorem InsAt.step {h : Nat → S49} {a i j : Nat} (H : InsAt h a i (j + 1)) (h1 : a ≤ j) (h2 : j + 1 ≤ i) (hd : (h (j + 1)).f0 < (h j).f0) : InsAt (swp h (j + 1) j) a i j := by
  have v : ∀ p, (p = j ∧ swp h (j + 1) j p = h (j + 1)) ∨ (p = j + 1 ∧ swp h (j + 1) j p = h j) ∨ (p ≠ j ∧ p ≠ j + 1 ∧ swp h (j + 1) j p = h p) := fun p => by
    unfold swp
    by_cases e1 : p = j + 1
    · exact .inr (.inl ⟨e1, by rw [if_pos e1]⟩)
    · by_cases e2 : p = j
      · exact .inl ⟨e2, by rw [if_neg e1, if_pos e2]⟩
      · exact .inr (.inr ⟨e2, e1, by rw [if_neg e1, if_neg e2]⟩)
  refine ⟨fun p q x y z w1 w2 => ?_, fun q x y => ?_⟩
  · rcases v p with ⟨e, _⟩ | ⟨e1, e2⟩ | ⟨e1, e3, e2⟩
    · exact absurd e w1
    · rcases v q with ⟨e, _⟩ | ⟨f1, f2⟩ | ⟨f1, f3, f2⟩
      · exact absurd e w2
      · rw [e2, f2]; exact Int.le_refl _
      · rw [e2, f2]; exact H.up j q h1 (by omega) z (by omega) f3
    · rcases v q with ⟨e, _⟩ | ⟨f1, f2⟩ | ⟨f1, f3, f2⟩
      · exact absurd e w2
      · rw [e2, f2]; exact H.up p j x (by omega) (by omega) e3 (by omega)
      · rw [e2, f2]; exact H.up p q x y z e3 f3
  · rcases v j with ⟨_, e2⟩ | ⟨e1, _⟩ | ⟨e1, _⟩
    · rcases v q with ⟨e, _⟩ | ⟨f1, f2⟩ | ⟨f1, f3, f2⟩
      · omega
      · rw [e2, f2]; exact hd
      · rw [e2, f2]; exact H.lt q (by omega) y
    · omega
    · exact absurd rfl e1
end Go.Proofs.Yteojldbfebnccaa
