/- Plain: a hall's seats by their numbers; the document's answers for a hall. -/
import Derived.Test.YteojldbfebnccaaRSet
namespace Go.Proofs.Yteojldbfebnccaa
open Go.RowKit Go.Proofs.YteojldbfebnccaaW.PrintWords
set_option linter.unusedVariables false
set_option linter.unusedSimpArgs false
set_option maxRecDepth 100000
theorem LeO.lift {α : Type} {f : Nat → Option α} (hm : ∀ k, LeO (f k) (f (k + 1))) {j k : Nat} (hjk : j ≤ k) {r : α} (h : f j = some r) : f k = some r := by
  induction k with
  | zero =>
    obtain rfl : j = 0 := by omega
    exact h
  | succ k ih =>
    rcases Nat.lt_or_ge k j with h1 | h1
    · obtain rfl : j = k + 1 := by omega
      exact h
    · exact hm k r (ih h1)
theorem w64 {n : Nat} (h : n < 1000000000000000) : wrap64 ((n : Int) + 1) = ((n + 1 : Nat) : Int) := by unfold wrap64; omega
/-- a hall's rows as the language has them -/
def OkRows (l : List S61) : Prop := ∀ x ∈ l, 0 ≤ x.f1 ∧ x.f1 < 256
def bitAt (l : List S61) (s : Nat) : Bool := decide (s / 8 < l.length) && bitB (rd_T61 l ((s / 8 : Nat) : Int)).f1 (s % 8)
def clsAt (l : List S61) (s : Nat) : Int := (rd_T61 l ((s / 8 : Nat) : Int)).f0
theorem sl_eq (l : List S61) (n : Nat) (hn : n ≤ l.length) : sl l n = ((List.range (8 * n)).filter (bitAt l)).map fun s : Nat => ((s : Int), clsAt l s) := by
  induction n with
  | zero => rfl
  | succ n ih =>
    rw [sl_succ, ih (by omega), show 8 * (n + 1) = 8 * n + 8 by omega, List.range_add, List.filter_append, List.map_append, List.filter_map, List.map_map]
    congr 1
    unfold rs
    have hf : ∀ p ∈ List.range 8, (fun p : Nat => bitB (rd_T61 l (n : Int)).f1 p) p = (bitAt l ∘ fun x => 8 * n + x) p := by
      intro p hp
      rw [List.mem_range] at hp
      simp only [bitAt, Function.comp_apply]
      rw [show (8 * n + p) / 8 = n by omega, show (8 * n + p) % 8 = p by omega, decide_eq_true (by omega : n < l.length), Bool.true_and]
    rw [List.filter_congr hf]
    apply List.map_congr_left
    intro p hp
    have hp8 : p < 8 := by
      have := (List.mem_filter.1 hp).1
      rwa [List.mem_range] at this
    simp only [clsAt, Function.comp_apply]
    rw [show (8 * n + p) / 8 = n by omega]
    simp
theorem seatsL_eq (l : List S61) : seatsL l = ((List.range 64).filter (bitAt l)).map fun s : Nat => ((s : Int), clsAt l s) := by
  unfold seatsL
  rw [sl_eq l _ (Nat.min_le_left _ _)]
  have h64 : 64 = 8 * min l.length 8 + (64 - 8 * min l.length 8) := by omega
  conv => rhs; rw [h64, List.range_add, List.filter_append]
  have : ((List.range (64 - 8 * min l.length 8)).map fun x => 8 * min l.length 8 + x).filter (bitAt l) = [] := by
    rw [List.filter_eq_nil_iff]
    intro s hs
    obtain ⟨p, hp, rfl⟩ := List.mem_map.1 hs
    rw [List.mem_range] at hp
    unfold bitAt
    rw [decide_eq_false (by omega : ¬ (8 * min l.length 8 + p) / 8 < l.length)]
    simp
  rw [this, List.append_nil]
def hasB (l : List S61) (s : Int) : Bool := decide (0 ≤ s) && decide (s < 64) && bitAt l s.toNat
theorem has_eq (l : List S61) (s : Int) : hall_Has.v l s = hasB l s := by
  unfold hall_Has.v hasB
  rw [seatsL_eq, Bool.eq_iff_iff]
  simp only [List.any_map, List.any_eq_true, List.mem_filter, List.mem_range, Function.comp_apply, beq_iff_eq, Bool.and_eq_true, decide_eq_true_eq]
  constructor
  · rintro ⟨n, ⟨h1, h2⟩, rfl⟩
    exact ⟨⟨by omega, by omega⟩, by simpa using h2⟩
  · rintro ⟨⟨h1, h2⟩, h3⟩
    exact ⟨s.toNat, ⟨by omega, h3⟩, by omega⟩
theorem class_eq (l : List S61) (s : Int) : hall_Class.v l s = if hasB l s = true then clsAt l s.toNat else -1 := by
  unfold hall_Class.v
  rw [seatsL_eq, List.find?_map]
  cases hf : List.find? ((fun p : Int × Int => p.1 == s) ∘ fun s : Nat => ((s : Int), clsAt l s)) ((List.range 64).filter (bitAt l)) with
  | none =>
    rw [List.find?_eq_none] at hf
    have : hasB l s = false := by
      cases hb : hasB l s with
      | false => rfl
      | true =>
        exfalso
        simp only [hasB, Bool.and_eq_true, decide_eq_true_eq] at hb
        have := hf s.toNat (List.mem_filter.2 ⟨List.mem_range.2 (by omega), hb.2⟩)
        simp only [Function.comp_apply, beq_iff_eq] at this
        omega
    rw [this]
    rfl
  | some n =>
    have h1 := List.find?_some hf
    have h2 := List.mem_of_find?_eq_some hf
    simp only [Function.comp_apply, beq_iff_eq] at h1
    rw [List.mem_filter, List.mem_range] at h2
    subst h1
    have : hasB l (n : Int) = true := by
      simp only [hasB, Bool.and_eq_true, decide_eq_true_eq]
      exact ⟨⟨by omega, by omega⟩, by simpa using h2.2⟩
    rw [if_pos this]
    simp
theorem seatsI_eq (l : List S61) : seatsI l = ((List.range 64).filter (bitAt l)).map fun s : Nat => (s : Int) := by
  unfold seatsI
  rw [seatsL_eq, List.map_map]
  rfl
end Go.Proofs.Yteojldbfebnccaa
