/- The stable sort of moves, in plain words: a function from places to moves, and what its steps keep. -/
import Derived.Test.YteojldbfebnccaaBasex0
namespace Go.Proofs.Yteojldbfebnccaa
set_option linter.unusedVariables false
/-- what stands from a up to b -/
def seg (g : Nat → S49) (a b : Nat) : List S49 := (List.range' a (b - a)).map g
def ofKey (c : Int) (l : List S49) : List S49 := l.filter fun x => x.f0 == c
theorem seg_length (g : Nat → S49) (a b : Nat) : (seg g a b).length = b - a := by simp [seg]
theorem seg_nil (g : Nat → S49) {a b : Nat} (h : b ≤ a) : seg g a b = [] := by unfold seg; rw [show b - a = 0 by omega]; rfl
theorem seg_split (g : Nat → S49) {a m b : Nat} (h1 : a ≤ m) (h2 : m ≤ b) : seg g a b = seg g a m ++ seg g m b := by
  unfold seg
  rw [← List.map_append]
  congr 1
  have := List.range'_append_1 (s := a) (m := m - a) (n := b - m)
  rw [show a + (m - a) = m by omega] at this
  rw [this]
  congr 1
  omega
theorem seg_congr {g g' : Nat → S49} {a b : Nat} (h : ∀ p, a ≤ p → p < b → g p = g' p) : seg g a b = seg g' a b := by
  unfold seg
  apply List.map_congr_left
  intro p hp
  rw [List.mem_range'_1] at hp
  exact h p hp.1 (by omega)
theorem seg_get (g : Nat → S49) {a b t : Nat} (h : t < b - a) : (seg g a b)[t]? = some (g (a + t)) := by
  unfold seg
  rw [List.getElem?_map, List.getElem?_range' h]
  simp
theorem seg_get_none (g : Nat → S49) {a b t : Nat} (h : ¬ t < b - a) : (seg g a b)[t]? = none := by
  rw [List.getElem?_eq_none_iff, seg_length]; omega
theorem seg_shift {g g' : Nat → S49} {a b a' b' : Nat} (hb : b' - a' = b - a) (h : ∀ t, t < b - a → g (a + t) = g' (a' + t)) : seg g a b = seg g' a' b' := by
  apply List.ext_getElem?
  intro t
  by_cases ht : t < b - a
  · rw [seg_get g ht, seg_get g' (by omega), h t ht]
  · rw [seg_get_none g ht, seg_get_none g' (by omega)]
theorem seg_one (g : Nat → S49) (a : Nat) : seg g a (a + 1) = [g a] := by unfold seg; simp
theorem mem_seg {g : Nat → S49} {a b : Nat} {x : S49} : x ∈ seg g a b ↔ ∃ p, a ≤ p ∧ p < b ∧ g p = x := by
  unfold seg
  rw [List.mem_map]
  constructor
  · rintro ⟨p, hp, e⟩
    rw [List.mem_range'_1] at hp
    exact ⟨p, hp.1, by omega, e⟩
  · rintro ⟨p, h1, h2, e⟩
    exact ⟨p, by rw [List.mem_range'_1]; omega, e⟩
/-- between a and b stand the same, those of one key in their order; elsewhere nothing turns -/
structure Stb (g g' : Nat → S49) (a b : Nat) : Prop where
  keys : ∀ c, ofKey c (seg g' a b) = ofKey c (seg g a b)
  out : ∀ p, p < a ∨ b ≤ p → g' p = g p
theorem Stb.refl (g : Nat → S49) (a b : Nat) : Stb g g a b := ⟨fun _ => rfl, fun _ _ => rfl⟩
theorem Stb.trans {g h k : Nat → S49} {a b : Nat} (h1 : Stb g h a b) (h2 : Stb h k a b) : Stb g k a b :=
  ⟨fun c => (h2.keys c).trans (h1.keys c), fun p hp => (h2.out p hp).trans (h1.out p hp)⟩
theorem ofKey_append (c : Int) (l r : List S49) : ofKey c (l ++ r) = ofKey c l ++ ofKey c r := by unfold ofKey; rw [List.filter_append]
theorem Stb.wide {g g' : Nat → S49} {a b a' b' : Nat} (h : Stb g g' a b) (h1 : a' ≤ a) (h2 : a ≤ b) (h3 : b ≤ b') : Stb g g' a' b' := by
  refine ⟨fun c => ?_, fun p hp => h.out p (by omega)⟩
  rw [seg_split g' (by omega) (show a ≤ b' by omega), seg_split g' h2 h3, seg_split g (by omega) (show a ≤ b' by omega), seg_split g h2 h3]
  rw [seg_congr (g := g') (g' := g) (a := a') (b := a) (fun p _ hp => h.out p (.inl hp)), seg_congr (g := g') (g' := g) (a := b) (b := b') (fun p hp _ => h.out p (.inr hp))]
  simp only [ofKey_append, h.keys c]
theorem Stb.mem {g g' : Nat → S49} {a b : Nat} (h : Stb g g' a b) {p : Nat} (h1 : a ≤ p) (h2 : p < b) : ∃ q, a ≤ q ∧ q < b ∧ g q = g' p := by
  have hm : g' p ∈ ofKey (g' p).f0 (seg g' a b) := by
    unfold ofKey
    rw [List.mem_filter]
    exact ⟨mem_seg.2 ⟨p, h1, h2, rfl⟩, by simp⟩
  rw [h.keys] at hm
  unfold ofKey at hm
  exact mem_seg.1 (List.mem_filter.1 hm).1
/-- the keys do not fall -/
def Up (g : Nat → S49) (a b : Nat) : Prop := ∀ p q, a ≤ p → p ≤ q → q < b → (g p).f0 ≤ (g q).f0
theorem Up.of {g g' : Nat → S49} {a b : Nat} (h : Up g a b) (e : ∀ p, a ≤ p → p < b → g' p = g p) : Up g' a b := fun p q h1 h2 h3 => by
  rw [e p h1 (by omega), e q (by omega) h3]; exact h p q h1 h2 h3
theorem Up.sub {g : Nat → S49} {a b a' b' : Nat} (h : Up g a b) (h1 : a ≤ a') (h2 : b' ≤ b) : Up g a' b' := fun p q x y z => h p q (by omega) y (by omega)
theorem Up.join {g : Nat → S49} {a m b : Nat} (h1 : Up g a m) (h2 : Up g m b) (h : ∀ p q, a ≤ p → p < m → m ≤ q → q < b → (g p).f0 ≤ (g q).f0) : Up g a b := fun p q x y z => by
  rcases Nat.lt_or_ge q m with hq | hq
  · exact h1 p q x y hq
  · rcases Nat.lt_or_ge p m with hp | hp
    · exact h p q x hp hq z
    · exact h2 p q hp y z
/-- two places are exchanged -/
def swp (g : Nat → S49) (i k : Nat) : Nat → S49 := fun c => if c = i then g k else if c = k then g i else g c
theorem Stb.swap {g : Nat → S49} {a b j : Nat} (h1 : a ≤ j) (h2 : j + 1 < b) (hk : (g j).f0 ≠ (g (j + 1)).f0) : Stb g (swp g j (j + 1)) a b := by
  refine Stb.wide (a := j) (b := j + 2) ⟨fun c => ?_, fun p hp => ?_⟩ h1 (by omega) (by omega)
  · have e : ∀ f : Nat → S49, seg f j (j + 2) = [f j, f (j + 1)] := fun f => by
      rw [seg_split f (show j ≤ j + 1 by omega) (show j + 1 ≤ j + 2 by omega), seg_one, seg_one]; rfl
    rw [e, e]
    have e1 : swp g j (j + 1) j = g (j + 1) := by unfold swp; rw [if_pos rfl]
    have e2 : swp g j (j + 1) (j + 1) = g j := by unfold swp; rw [if_neg (by omega), if_pos rfl]
    rw [e1, e2]
    unfold ofKey
    by_cases c1 : (g j).f0 = c
    · have c2 : ¬ (g (j + 1)).f0 = c := fun e => hk (c1.trans e.symm)
      simp [c1, c2]
    · simp [List.filter_cons, c1]
  · unfold swp
    rw [if_neg (by omega), if_neg (by omega)]
theorem swp_comm (g : Nat → S49) (i k : Nat) : swp g i k = swp g k i := by
  funext c
  unfold swp
  by_cases h1 : c = i <;> by_cases h2 : c = k
  · subst h1; subst h2; rfl
  · rw [if_pos h1, if_neg h2, if_pos h1]
  · rw [if_neg h1, if_pos h2, if_pos h2]
  · rw [if_neg h1, if_neg h2, if_neg h2, if_neg h1]
/-! ### rotation -/
def rotF (g : Nat → S49) (s m e : Nat) : Nat → S49 := fun p => if s ≤ p ∧ p < s + (e - m) then g (p - s + m) else if s + (e - m) ≤ p ∧ p < e then g (p - (e - m)) else g p
theorem rotF_left {g : Nat → S49} {s m e p : Nat} (h1 : s ≤ p) (h2 : p < s + (e - m)) : rotF g s m e p = g (p - s + m) := by unfold rotF; rw [if_pos ⟨h1, h2⟩]
theorem rotF_right {g : Nat → S49} {s m e p : Nat} (h1 : s + (e - m) ≤ p) (h2 : p < e) : rotF g s m e p = g (p - (e - m)) := by unfold rotF; rw [if_neg (by omega), if_pos ⟨h1, h2⟩]
theorem rotF_out {g : Nat → S49} {s m e p : Nat} (hm : s ≤ m) (hme : m ≤ e) (h : p < s ∨ e ≤ p) : rotF g s m e p = g p := by unfold rotF; rw [if_neg (by omega), if_neg (by omega)]
theorem Stb.rot {g : Nat → S49} {a s m e b : Nat} (h1 : a ≤ s) (h2 : s ≤ m) (h3 : m ≤ e) (h4 : e ≤ b) (hk : ∀ p q, s ≤ p → p < m → m ≤ q → q < e → (g q).f0 ≠ (g p).f0) : Stb g (rotF g s m e) a b := by
  refine Stb.wide (a := s) (b := e) ⟨fun c => ?_, fun p hp => rotF_out h2 h3 hp⟩ h1 (by omega) h4
  have e1 : seg (rotF g s m e) s (s + (e - m)) = seg g m e := seg_shift (by omega) (fun t ht => by rw [rotF_left (by omega) (by omega)]; congr 1; omega)
  have e2 : seg (rotF g s m e) (s + (e - m)) e = seg g s m := seg_shift (by omega) (fun t ht => by rw [rotF_right (by omega) (by omega)]; congr 1; omega)
  rw [seg_split (rotF g s m e) (show s ≤ s + (e - m) by omega) (by omega), e1, e2, seg_split g h2 h3, ofKey_append, ofKey_append]
  by_cases hc : ofKey c (seg g s m) = []
  · rw [hc, List.append_nil, List.nil_append]
  · have hc2 : ofKey c (seg g m e) = [] := by
      obtain ⟨x, hx⟩ := List.exists_mem_of_ne_nil _ hc
      unfold ofKey at hx ⊢
      rw [List.mem_filter] at hx
      obtain ⟨p, p1, p2, rfl⟩ := mem_seg.1 hx.1
      rw [List.filter_eq_nil_iff]
      intro y hy hyc
      obtain ⟨q, q1, q2, rfl⟩ := mem_seg.1 hy
      have k1 : (g p).f0 = c := by simpa using hx.2
      have k2 : (g q).f0 = c := by simpa using hyc
      exact hk p q p1 p2 q1 q2 (k2.trans k1.symm)
    rw [hc2, List.append_nil, List.nil_append]
/-- k elements from a on are exchanged with those from b on -/
def swr (g : Nat → S49) (a b k : Nat) : Nat → S49 := fun p => if a ≤ p ∧ p < a + k then g (p - a + b) else if b ≤ p ∧ p < b + k then g (p - b + a) else g p
theorem swr_zero (g : Nat → S49) (a b : Nat) : swr g a b 0 = g := by
  funext p; unfold swr; rw [if_neg (by omega), if_neg (by omega)]
theorem swr_succ (g : Nat → S49) {a b k n : Nat} (hk : k < n) (h : a + n ≤ b) : swp (swr g a b k) (a + k) (b + k) = swr g a b (k + 1) := by
  funext p
  unfold swp
  by_cases h1 : p = a + k
  · subst h1
    rw [if_pos rfl]
    unfold swr
    rw [if_neg (by omega), if_neg (by omega), if_pos (by omega)]
    congr 1; omega
  · rw [if_neg h1]
    by_cases h2 : p = b + k
    · subst h2
      rw [if_pos rfl]
      unfold swr
      rw [if_neg (by omega), if_neg (by omega), if_neg (by omega), if_pos (by omega)]
      congr 1; omega
    · rw [if_neg h2]
      unfold swr
      by_cases h3 : a ≤ p ∧ p < a + k
      · rw [if_pos h3, if_pos (by omega)]
      · by_cases h4 : b ≤ p ∧ p < b + k
        · rw [if_neg h3, if_pos h4, if_neg (by omega), if_pos (by omega)]
        · rw [if_neg h3, if_neg h4, if_neg (by omega), if_neg (by omega)]
/-- one step of the rotation, the left block greater -/
theorem rot_step1 (g : Nat → S49) {m i j : Nat} (h1 : j < i) (h2 : i ≤ m) : rotF (swr g (m - i) m j) (m - (i - j)) m (m + j) = rotF g (m - i) m (m + j) := by
  funext p
  by_cases c1 : p < m - i
  · rw [rotF_out (by omega) (by omega) (by omega), rotF_out (by omega) (by omega) (by omega)]
    unfold swr; rw [if_neg (by omega), if_neg (by omega)]
  · by_cases c2 : p < m - i + j
    · rw [rotF_out (by omega) (by omega) (by omega), rotF_left (by omega) (by omega)]
      unfold swr; rw [if_pos (by omega)]
    · by_cases c3 : p < m - (i - j) + j
      · rw [rotF_left (by omega) (by omega), rotF_right (by omega) (by omega)]
        unfold swr; rw [if_neg (by omega), if_pos (by omega)]; congr 1; omega
      · by_cases c4 : p < m + j
        · rw [rotF_right (by omega) (by omega), rotF_right (by omega) (by omega)]
          unfold swr; rw [if_neg (by omega), if_neg (by omega)]
        · rw [rotF_out (by omega) (by omega) (by omega), rotF_out (by omega) (by omega) (by omega)]
          unfold swr; rw [if_neg (by omega), if_neg (by omega)]
/-- the right block greater -/
theorem rot_step2 (g : Nat → S49) {m i j : Nat} (h1 : i < j) (h2 : i ≤ m) : rotF (swr g (m - i) (m + j - i) i) (m - i) m (m + (j - i)) = rotF g (m - i) m (m + j) := by
  funext p
  by_cases c1 : p < m - i
  · rw [rotF_out (by omega) (by omega) (by omega), rotF_out (by omega) (by omega) (by omega)]
    unfold swr; rw [if_neg (by omega), if_neg (by omega)]
  · by_cases c2 : p < m - i + (j - i)
    · rw [rotF_left (by omega) (by omega), rotF_left (by omega) (by omega)]
      unfold swr; rw [if_neg (by omega), if_neg (by omega)]
    · by_cases c3 : p < m + (j - i)
      · rw [rotF_right (by omega) (by omega), rotF_left (by omega) (by omega)]
        unfold swr; rw [if_pos (by omega)]; congr 1; omega
      · by_cases c4 : p < m + j
        · rw [rotF_out (by omega) (by omega) (by omega), rotF_right (by omega) (by omega)]
          unfold swr; rw [if_neg (by omega), if_pos (by omega)]; congr 1; omega
        · rw [rotF_out (by omega) (by omega) (by omega), rotF_out (by omega) (by omega) (by omega)]
          unfold swr; rw [if_neg (by omega), if_neg (by omega)]
theorem rot_last (g : Nat → S49) {m i : Nat} (h2 : i ≤ m) : swr g (m - i) m i = rotF g (m - i) m (m + i) := by
  funext p
  by_cases c1 : p < m - i
  · rw [rotF_out (by omega) (by omega) (by omega)]
    unfold swr; rw [if_neg (by omega), if_neg (by omega)]
  · by_cases c2 : p < m
    · rw [rotF_left (by omega) (by omega)]
      unfold swr; rw [if_pos (by omega)]
    · by_cases c3 : p < m + i
      · rw [rotF_right (by omega) (by omega)]
        unfold swr; rw [if_neg (by omega), if_pos (by omega)]; congr 1; omega
      · rw [rotF_out (by omega) (by omega) (by omega)]
        unfold swr; rw [if_neg (by omega), if_neg (by omega)]
end Go.Proofs.Yteojldbfebnccaa
