/- The heap's order, in plain words: what a step up and a step down keep. -/
import Derived.Test.YtfkbiecbnjddmaaLRow
namespace Go.Proofs.Ytfkbiecbnjddmaa

def le (a b : Lz) : Prop := less b a = false
theorem le_iff (a b : Lz) : le a b ↔ (a.2.2 < b.2.2 ∨ (a.2.2 = b.2.2 ∧ (a.1 < b.1 ∨ (a.1 = b.1 ∧ a.2.1 ≤ b.2.1)))) := by
  unfold le less
  split
  · split
    · simp only [decide_eq_false_iff_not]; omega
    · simp only [decide_eq_false_iff_not]; omega
  · simp only [decide_eq_false_iff_not]; omega
theorem less_iff (a b : Lz) : less a b = true ↔ (a.2.2 < b.2.2 ∨ (a.2.2 = b.2.2 ∧ (a.1 < b.1 ∨ (a.1 = b.1 ∧ a.2.1 < b.2.1)))) := by
  unfold less
  split
  · split
    · simp only [decide_eq_true_eq]; omega
    · simp only [decide_eq_true_eq]; omega
  · simp only [decide_eq_true_eq]; omega
theorem le_refl (a : Lz) : le a a := by rw [le_iff]; omega
theorem le_trans {a b c : Lz} (h : le a b) (k : le b c) : le a c := by rw [le_iff] at *; omega
theorem le_of_less {a b : Lz} (h : less a b = true) : le a b := by rw [less_iff] at h; rw [le_iff]; omega
theorem le_total (a b : Lz) : le a b ∨ le b a := by rw [le_iff, le_iff]; omega
theorem le_anti {a b : Lz} (h : le a b) (k : le b a) : a = b := by
  obtain ⟨a1, a2, a3⟩ := a
  obtain ⟨b1, b2, b3⟩ := b
  rw [le_iff] at h k
  simp only [Prod.mk.injEq] at *
  omega

def swapF (g : Nat → Lz) (i k : Nat) (c : Nat) : Lz := if c = k then g i else if c = i then g k else g c
def HeapF (g : Nat → Lz) (n : Nat) : Prop := ∀ c, 0 < c → c < n → le (g ((c - 1) / 2)) (g c)
def UpF (g : Nat → Lz) (j n : Nat) : Prop :=
  (∀ c, 0 < c → c < n → c ≠ j → le (g ((c - 1) / 2)) (g c)) ∧ (∀ c, 0 < c → c < n → (c - 1) / 2 = j → 0 < j → le (g ((j - 1) / 2)) (g c))
def DownF (g : Nat → Lz) (i i0 n : Nat) : Prop :=
  (∀ c, 0 < c → c < n → (c - 1) / 2 ≠ i → (c ≠ i0 ∨ i ≠ i0) → le (g ((c - 1) / 2)) (g c)) ∧ (∀ c, 0 < c → c < n → (c - 1) / 2 = i → 0 < i → le (g ((i - 1) / 2)) (g c))

theorem swap_at {g : Nat → Lz} {i k c : Nat} (h1 : c ≠ i) (h2 : c ≠ k) : swapF g i k c = g c := by simp [swapF, h1, h2]
theorem swap_k {g : Nat → Lz} {i k : Nat} : swapF g i k k = g i := by simp [swapF]
theorem swap_i {g : Nat → Lz} {i k : Nat} : swapF g i k i = g k := by
  unfold swapF
  split
  · rename_i h; rw [h]
  · simp

theorem UpF.step {g : Nat → Lz} {j n : Nat} (h : UpF g j n) (hj : 0 < j) (hl : less (g j) (g ((j - 1) / 2)) = true) : UpF (swapF g ((j - 1) / 2) j) ((j - 1) / 2) n := by
  obtain ⟨h1, h2⟩ := h
  obtain ⟨i, hi⟩ : ∃ i, (j - 1) / 2 = i := ⟨_, rfl⟩
  rw [hi] at hl h2 ⊢
  have hij : i < j := by omega
  have hle := le_of_less hl
  refine ⟨fun c c0 cn ci => ?_, fun c c0 cn cp i0 => ?_⟩
  · by_cases e : c = j
    · subst e
      rw [hi, swap_i, swap_k]
      exact hle
    · rw [swap_at (g := g) ci e]
      by_cases p1 : (c - 1) / 2 = i
      · rw [p1, swap_i]
        exact le_trans hle (by have := h1 c c0 cn e; rwa [p1] at this)
      · by_cases p2 : (c - 1) / 2 = j
        · rw [p2, swap_k]
          exact h2 c c0 cn p2 hj
        · rw [swap_at p1 p2]
          exact h1 c c0 cn e
  · have hp1 : (i - 1) / 2 ≠ i := by omega
    have hp2 : (i - 1) / 2 ≠ j := by omega
    rw [swap_at hp1 hp2]
    have hi1 := h1 i i0 (by omega) (by omega)
    by_cases e : c = j
    · subst e
      rw [swap_k]; exact hi1
    · rw [swap_at (by omega) e]
      exact le_trans hi1 (by have := h1 c c0 cn e; rwa [cp] at this)
theorem UpF.stop {g : Nat → Lz} {j n : Nat} (h : UpF g j n) (hs : j = 0 ∨ less (g j) (g ((j - 1) / 2)) = false) : HeapF g n := by
  intro c c0 cn
  by_cases e : c = j
  · subst e
    rcases hs with hs | hs
    · omega
    · exact hs
  · exact h.1 c c0 cn e
theorem DownF.step {g : Nat → Lz} {i i0 n j : Nat} (h : DownF g i i0 n) (h0 : i0 ≤ i) (hj : (j - 1) / 2 = i) (hj0 : 0 < j) (hjn : j < n) (hl : less (g j) (g i) = true) (hmin : ∀ c, 0 < c → c < n → (c - 1) / 2 = i → le (g j) (g c)) :
    DownF (swapF g i j) j i0 n := by
  obtain ⟨h1, h2⟩ := h
  have hij : i < j := by omega
  have hle := le_of_less hl
  refine ⟨fun c c0 cn cp _ => ?_, fun c c0 cn cp _ => ?_⟩
  · by_cases p1 : (c - 1) / 2 = i
    · rw [p1, swap_i]
      by_cases e : c = j
      · subst e; rw [swap_k]; exact hle
      · rw [swap_at (by omega) e]; exact hmin c c0 cn p1
    · by_cases e : c = i
      · subst e
        rw [swap_i, swap_at (by omega) (by omega)]
        exact h2 j hj0 hjn hj c0
      · rw [swap_at p1 cp, swap_at e (by rintro rfl; exact p1 hj)]
        exact h1 c c0 cn p1 (by omega)
  · rw [hj, swap_i, swap_at (by omega) (by omega)]
    have := h1 c c0 cn (by omega) (by omega)
    rwa [cp] at this
theorem DownF.stop {g : Nat → Lz} {i i0 n : Nat} (h : DownF g i i0 n) (hs : ∀ c, 0 < c → c < n → (c - 1) / 2 = i → le (g i) (g c)) : (i ≠ i0 → HeapF g n) ∧ (i = i0 → UpF g i0 n) := by
  obtain ⟨h1, h2⟩ := h
  refine ⟨fun hne c c0 cn => ?_, fun he => ⟨fun c c0 cn ce => ?_, fun c c0 cn cp i0p => ?_⟩⟩
  · by_cases p : (c - 1) / 2 = i
    · rw [p]; exact hs c c0 cn p
    · exact h1 c c0 cn p (.inr hne)
  · by_cases p : (c - 1) / 2 = i
    · rw [p]; exact hs c c0 cn p
    · exact h1 c c0 cn p (.inl ce)
  · subst he
    exact h2 c c0 cn cp i0p
theorem UpF.zero {g : Nat → Lz} {n : Nat} (h : UpF g 0 n) : HeapF g n := h.stop (.inl rfl)
/-- a heap, of which one (i) has been exchanged with what stands behind it -/
theorem HeapF.down {g : Nat → Lz} {i n : Nat} (h : HeapF g (n + 1)) (hi : i < n) : DownF (swapF g i n) i i n := by
  refine ⟨fun c c0 cn cp ce => ?_, fun c c0 cn cp i0 => ?_⟩
  · have hce : c ≠ i := by rcases ce with h | h; exact h; exact absurd rfl h
    rw [swap_at cp (by omega), swap_at hce (by omega)]
    exact h c c0 (by omega)
  · rw [swap_at (by omega) (by omega), swap_at (by omega) (by omega)]
    have a := h i i0 (by omega)
    have b := h c c0 (by omega)
    rw [cp] at b
    exact le_trans a b
/-- one more behind a heap -/
theorem HeapF.up {g : Nat → Lz} {n : Nat} (h : HeapF g n) : UpF g n (n + 1) :=
  ⟨fun c c0 cn ce => h c c0 (by omega), fun c c0 cn cp _ => by omega⟩
theorem HeapF.least {g : Nat → Lz} {n : Nat} (h : HeapF g n) : ∀ c, c < n → le (g 0) (g c) := by
  intro c
  induction c using Nat.strongRecOn with
  | _ c ih =>
    intro hc
    by_cases e : c = 0
    · subst e; exact le_refl _
    · exact le_trans (ih ((c - 1) / 2) (by omega) (by omega)) (h c (by omega) hc)
theorem HeapF.less_n {g : Nat → Lz} {n m : Nat} (h : HeapF g n) (hm : m ≤ n) : HeapF g m := fun c c0 cn => h c c0 (by omega)
theorem HeapF.congr {g g' : Nat → Lz} {n : Nat} (h : HeapF g n) (he : ∀ c, c < n → g' c = g c) : HeapF g' n := fun c c0 cn => by rw [he c cn, he _ (by omega)]; exact h c c0 cn

def ix (xs : List Lz) (c : Nat) : Lz := xs.getD c (0, 0, 0)
theorem ix_get {xs : List Lz} {c : Nat} {x : Lz} (h : xs[c]? = some x) : ix xs c = x := by simp [ix, h]
theorem ix_some {xs : List Lz} {c : Nat} (h : c < xs.length) : xs[c]? = some (ix xs c) := by simp [ix, h]
theorem ix_swap {xs : List Lz} {i k : Nat} {x y : Lz} (hx : xs[i]? = some x) (hy : xs[k]? = some y) : ix ((xs.set i y).set k x) = swapF (ix xs) i k := by
  have hil : i < xs.length := (List.getElem?_eq_some_iff.1 hx).1
  have hkl : k < xs.length := (List.getElem?_eq_some_iff.1 hy).1
  funext c
  unfold swapF
  split
  · rename_i e; subst e
    rw [ix_get hx]
    exact ix_get (by rw [List.getElem?_set_self (by rw [List.length_set]; exact hkl)])
  · rename_i e
    split
    · rename_i e'; subst e'
      rw [ix_get hy]
      exact ix_get (by rw [List.getElem?_set_ne (Ne.symm e), List.getElem?_set_self hil])
    · rename_i e'
      unfold ix
      rw [List.getD_eq_getElem?_getD, List.getD_eq_getElem?_getD, List.getElem?_set_ne (Ne.symm e), List.getElem?_set_ne (Ne.symm e')]
end Go.Proofs.Ytfkbiecbnjddmaa
