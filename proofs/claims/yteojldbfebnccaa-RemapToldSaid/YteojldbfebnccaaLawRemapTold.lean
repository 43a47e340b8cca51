/- PROVED: whatever halls (ten rows at most) and moves (seventy at most) are given, Check, Lost, New, Back, To and From answer as the document says, and the chapter's examples hold (RemapTold returns true, and its input reads as before). No conditions. -/
import Derived.Test.YteojldbfebnccaaRows
import Derived.Test.YteojldbfebnccaaMorex2
import Derived.Test.YteojldbfebnccaaBasex
import Derived.Test.YteojldbfebnccaaRWorks
import Derived.WalkKit
import Derived.ProofKit
import Derived.OpenShut
import Derived.ShutString
import Derived.ChangeOld
import Derived.Below
import Derived.SizedLaws
import Derived.Carry
import Derived.Deep.Slices
import Derived.ChangeArms
import Derived.ChangeSame
import Derived.WideShapes
import Derived.KernelRfl
import Derived.Lib.Hide
namespace Go.Proofs.Yteojldbfebnccaa
open Go.RowKit Go.Proofs.YteojldbfebnccaaW.PrintWords Go.Proofs.YteojldbfebnccaaW.PrintLast Go.Proofs.YteojldbfebnccaaW.PrintMore
set_option linter.unusedVariables false
set_option linter.unusedSimpArgs false
set_option maxRecDepth 100000
theorem LeO.lift {α : Type} {f : Nat → Option α} (hm : ∀ k, LeO (f k) (f (k + 1))) {j k : Nat} (hjk : j ≤ k) {r : α} (h : f j = some r) : f k = some r := by
  induction k with
  | zero =>
    obtain rfl : j = 0 := by omega
    exact h
  | succ k ih =>
    rcases Nat.lt_or_ge k j with h1 | h1
    · obtain rfl : j = k + 1 := by omega
      exact h
    · exact hm k r (ih h1)
theorem w64 {n : Nat} (h : n < 1000000000000000) : wrap64 ((n : Int) + 1) = ((n + 1 : Nat) : Int) := by unfold wrap64; omega
/-- a hall's rows as the language has them -/
def OkRows (l : List S61) : Prop := ∀ x ∈ l, 0 ≤ x.f1 ∧ x.f1 < 256
def bitAt (l : List S61) (s : Nat) : Bool := decide (s / 8 < l.length) && bitB (rd_T61 l ((s / 8 : Nat) : Int)).f1 (s % 8)
def clsAt (l : List S61) (s : Nat) : Int := (rd_T61 l ((s / 8 : Nat) : Int)).f0
theorem sl_eq (l : List S61) (n : Nat) (hn : n ≤ l.length) : sl l n = ((List.range (8 * n)).filter (bitAt l)).map fun s : Nat => ((s : Int), clsAt l s) := by
  induction n with
  | zero => rfl
  | succ n ih =>
    rw [sl_succ, ih (by omega), show 8 * (n + 1) = 8 * n + 8 by omega, List.range_add, List.filter_append, List.map_append, List.filter_map, List.map_map]
    congr 1
    unfold rs
    have hf : ∀ p ∈ List.range 8, (fun p : Nat => bitB (rd_T61 l (n : Int)).f1 p) p = (bitAt l ∘ fun x => 8 * n + x) p := by
      intro p hp
      rw [List.mem_range] at hp
      simp only [bitAt, Function.comp_apply]
      rw [show (8 * n + p) / 8 = n by omega, show (8 * n + p) % 8 = p by omega, decide_eq_true (by omega : n < l.length), Bool.true_and]
    rw [List.filter_congr hf]
    apply List.map_congr_left
    intro p hp
    have hp8 : p < 8 := by
      have := (List.mem_filter.1 hp).1
      rwa [List.mem_range] at this
    simp only [clsAt, Function.comp_apply]
    rw [show (8 * n + p) / 8 = n by omega]
    simp
theorem seatsL_eq (l : List S61) : seatsL l = ((List.range 64).filter (bitAt l)).map fun s : Nat => ((s : Int), clsAt l s) := by
  unfold seatsL
  rw [sl_eq l _ (Nat.min_le_left _ _)]
  have h64 : 64 = 8 * min l.length 8 + (64 - 8 * min l.length 8) := by omega
  conv => rhs; rw [h64, List.range_add, List.filter_append]
  have : ((List.range (64 - 8 * min l.length 8)).map fun x => 8 * min l.length 8 + x).filter (bitAt l) = [] := by
    rw [List.filter_eq_nil_iff]
    intro s hs
    obtain ⟨p, hp, rfl⟩ := List.mem_map.1 hs
    rw [List.mem_range] at hp
    unfold bitAt
    rw [decide_eq_false (by omega : ¬ (8 * min l.length 8 + p) / 8 < l.length)]
    simp
  rw [this, List.append_nil]
def hasB (l : List S61) (s : Int) : Bool := decide (0 ≤ s) && decide (s < 64) && bitAt l s.toNat
theorem has_eq (l : List S61) (s : Int) : hall_Has.v l s = hasB l s := by
  unfold hall_Has.v hasB
  rw [seatsL_eq, Bool.eq_iff_iff]
  simp only [List.any_map, List.any_eq_true, List.mem_filter, List.mem_range, Function.comp_apply, beq_iff_eq, Bool.and_eq_true, decide_eq_true_eq]
  constructor
  · rintro ⟨n, ⟨h1, h2⟩, rfl⟩
    exact ⟨⟨by omega, by omega⟩, by simpa using h2⟩
  · rintro ⟨⟨h1, h2⟩, h3⟩
    exact ⟨s.toNat, ⟨by omega, h3⟩, by omega⟩
theorem class_eq (l : List S61) (s : Int) : hall_Class.v l s = if hasB l s = true then clsAt l s.toNat else -1 := by
  unfold hall_Class.v
  rw [seatsL_eq, List.find?_map]
  cases hf : List.find? ((fun p : Int × Int => p.1 == s) ∘ fun s : Nat => ((s : Int), clsAt l s)) ((List.range 64).filter (bitAt l)) with
  | none =>
    rw [List.find?_eq_none] at hf
    have : hasB l s = false := by
      cases hb : hasB l s with
      | false => rfl
      | true =>
        exfalso
        simp only [hasB, Bool.and_eq_true, decide_eq_true_eq] at hb
        have := hf s.toNat (List.mem_filter.2 ⟨List.mem_range.2 (by omega), hb.2⟩)
        simp only [Function.comp_apply, beq_iff_eq] at this
        omega
    rw [this]
    rfl
  | some n =>
    have h1 := List.find?_some hf
    have h2 := List.mem_of_find?_eq_some hf
    simp only [Function.comp_apply, beq_iff_eq] at h1
    rw [List.mem_filter, List.mem_range] at h2
    subst h1
    have : hasB l (n : Int) = true := by
      simp only [hasB, Bool.and_eq_true, decide_eq_true_eq]
      exact ⟨⟨by omega, by omega⟩, by simpa using h2.2⟩
    rw [if_pos this]
    simp
theorem seatsI_eq (l : List S61) : seatsI l = ((List.range 64).filter (bitAt l)).map fun s : Nat => (s : Int) := by
  unfold seatsI
  rw [seatsL_eq, List.map_map]
  rfl
/-! ### the document's hall -/
theorem bit_all : ∀ m : Fin 256, ∀ k : Fin 8, foyerref18_bit.f 10 (m.val : Int) (k.val : Int) = some (bitB (m.val : Int) k.val) := by decide +kernel
theorem ref_bit {m : Int} (h0 : 0 ≤ m) (h1 : m < 256) {p : Nat} (hp : p < 8) {k : Nat} (hk : 10 ≤ k) : foyerref18_bit.f k m (p : Int) = some (bitB m p) := by
  have h := bit_all ⟨m.toNat, by omega⟩ ⟨p, hp⟩
  have e : ((m.toNat : Nat) : Int) = m := by omega
  simp only [e] at h
  exact LeO.lift (fun k => foyerref18_bit.mono m (p : Int) k) hk h
theorem rd61_mem {l : List S61} {n : Nat} (h : n < l.length) : rd_T61 l (n : Int) ∈ l := List.mem_of_getElem? (rd61 h)
theorem ref_has {l : List S61} (hl : OkRows l) (s : Int) {k : Nat} (hk : 10 ≤ k) : foyerref18_Has.f k l s = some (hasB l s) := by
  unfold foyerref18_Has.f hasB
  by_cases h0 : 0 ≤ s
  · by_cases h1 : s < 64
    · obtain ⟨n, rfl⟩ := Int.eq_ofNat_of_zero_le h0
      have e1 : wrap64 (Int.tdiv (n : Int) 8) = ((n / 8 : Nat) : Int) := by
        rw [Int.tdiv_eq_ediv_of_nonneg (by omega)]
        unfold wrap64
        omega
      have e2 : Int.tmod (n : Int) 8 = ((n % 8 : Nat) : Int) := by
        rw [Int.tmod_eq_emod_of_nonneg (by omega)]
        omega
      rw [if_pos (by omega), if_pos h1, e1, e2, decide_eq_true h0, decide_eq_true h1]
      unfold bitAt
      by_cases h2 : n / 8 < l.length
      · rw [if_pos (by omega), if_pos (by omega)]
        have hm := hl _ (rd61_mem h2)
        rw [ref_bit hm.1 hm.2 (Nat.mod_lt _ (by omega)) hk]
        simp [h2]
      · rw [if_neg (by omega)]
        simp [h2]
    · rw [if_pos h0, if_neg h1]
      simp [h1]
  · rw [if_neg h0]
    simp [h0]
theorem hasB_len {l : List S61} {n : Nat} (h : hasB l (n : Int) = true) : n / 8 < l.length := by
  simp only [hasB, bitAt, Bool.and_eq_true, decide_eq_true_eq] at h
  simpa using h.2.1
theorem ref_class {l : List S61} (hl : OkRows l) (s : Int) {k : Nat} (hk : 10 ≤ k) : foyerref18_Class.f k l s = some (hall_Class.v l s) := by
  unfold foyerref18_Class.f
  rw [ref_has hl s hk, class_eq]
  simp only [Option.bind_some]
  by_cases h : hasB l s = true
  · rw [if_pos h, if_pos h]
    have h0 : 0 ≤ s ∧ s < 64 := by
      simp only [hasB, Bool.and_eq_true, decide_eq_true_eq] at h
      exact h.1
    obtain ⟨n, rfl⟩ := Int.eq_ofNat_of_zero_le h0.1
    have e1 : wrap64 (Int.tdiv (n : Int) 8) = ((n / 8 : Nat) : Int) := by
      rw [Int.tdiv_eq_ediv_of_nonneg (by omega)]
      unfold wrap64
      omega
    have := hasB_len h
    rw [e1, if_pos (by omega), if_pos (by omega)]
    simp [clsAt]
  · rw [if_neg h, if_neg h]
theorem ref_seats_go {l : List S61} (hl : OkRows l) : ∀ (m n : Nat) (acc : List Int) (k : Nat), n + m = 64 → acc.length ≤ n → m + 11 ≤ k → foyerref18_Seats.l0 k acc (n : Int) l = some (acc ++ ((List.range' n m).filter (bitAt l)).map fun s : Nat => (s : Int))
  | 0, n, acc, k, hn, ha, hk => by
    obtain ⟨k, rfl⟩ : ∃ j, k = j + 1 := ⟨k - 1, by omega⟩
    unfold foyerref18_Seats.l0
    rw [if_neg (by omega)]
    simp
  | m + 1, n, acc, k, hn, ha, hk => by
    obtain ⟨k, rfl⟩ : ∃ j, k = j + 1 := ⟨k - 1, by omega⟩
    unfold foyerref18_Seats.l0
    rw [if_pos (by omega), ref_has hl _ (by omega), w64 (by omega)]
    have hb : hasB l (n : Int) = bitAt l n := by
      unfold hasB
      rw [decide_eq_true (by omega), decide_eq_true (by omega)]
      simp
    rw [hb]
    simp only [Option.bind_some]
    rw [List.range'_succ]
    cases hc : bitAt l n with
    | true =>
      rw [if_pos rfl, if_pos (by omega), ref_seats_go hl m (n + 1) _ k (by omega) (by simp; omega) (by omega)]
      simp [hc]
    | false =>
      rw [if_neg (by simp), ref_seats_go hl m (n + 1) _ k (by omega) (by omega) (by omega)]
      simp [hc]
theorem ref_seats {l : List S61} (hl : OkRows l) {k : Nat} (hk : 80 ≤ k) : foyerref18_Seats.f k l = some (seatsI l) := by
  unfold foyerref18_Seats.f
  have := ref_seats_go hl 64 0 [] k rfl (Nat.le_refl _) (by omega)
  rw [show foyerref18_Seats.l0 k [] 0 l = _ from this, seatsI_eq, List.range_eq_range']
  simp
theorem ref_check_go {l : List S61} (hl : l.length ≤ 1000) : ∀ (m n : Nat) (k : Nat), n + m = l.length → m + 1 ≤ k → foyerref18_Check.l0 k (n : Int) l = some (if (l.drop n).all okRow then 0 else 23)
  | 0, n, k, hn, hk => by
    obtain ⟨k, rfl⟩ : ∃ j, k = j + 1 := ⟨k - 1, by omega⟩
    unfold foyerref18_Check.l0
    rw [if_neg (by omega), List.drop_of_length_le (by omega)]
    rfl
  | m + 1, n, k, hn, hk => by
    obtain ⟨k, rfl⟩ : ∃ j, k = j + 1 := ⟨k - 1, by omega⟩
    have hd : l.drop n = rd_T61 l (n : Int) :: l.drop (n + 1) := by
      have h1 := rd61 (l := l) (i := n) (by omega)
      rw [List.getElem?_eq_getElem (by omega)] at h1
      rw [List.drop_eq_getElem_cons (by omega), Option.some.inj h1]
    unfold foyerref18_Check.l0
    rw [if_pos (by omega), if_pos (by omega), w64 (by omega), ref_check_go hl m (n + 1) k (by omega) (by omega), hd]
    generalize rd_T61 l (n : Int) = x
    simp only [List.all_cons]
    by_cases h1 : x.f0 < 0
    · have e : okRow x = false := by unfold okRow; rw [if_neg (by omega)]
      rw [if_pos h1]
      simp [e]
    · rw [if_neg h1]
      by_cases h2 : x.f0 > 2
      · have e : okRow x = false := by unfold okRow; rw [if_pos (by omega), if_neg (by omega)]
        rw [if_pos h2]
        simp [e]
      · rw [if_neg h2]
        by_cases h3 : x.f1 = 0
        · have e : okRow x = false := by unfold okRow; rw [if_pos (by omega), if_pos (by omega)]; simp [h3]
          rw [if_pos h3]
          simp [e]
        · have e : okRow x = true := by unfold okRow; rw [if_pos (by omega), if_pos (by omega)]; simp [h3]
          rw [if_neg h3]
          simp [e]
theorem ref_check (l : List S61) {k : Nat} (hk : 10 ≤ k) : foyerref18_Check.f k l = some (hall_Check.v l) := by
  obtain ⟨k, rfl⟩ : ∃ j, k = j + 1 := ⟨k - 1, by omega⟩
  unfold foyerref18_Check.f hall_Check.v
  by_cases h0 : l.length = 0
  · rw [if_pos (by omega), if_pos (.inl h0)]
    rfl
  · rw [if_neg (by omega)]
    simp only [foyerref18_Check.j0]
    by_cases h8 : 8 < l.length
    · rw [if_pos (by simp; omega), if_pos (.inr h8)]
    · rw [if_neg (by simp; omega), if_neg (by omega)]
      have := ref_check_go (l := l) (by omega) l.length 0 k (by omega) (by omega)
      exact this
/-! ### where seats go -/
theorem drop49 {l : List S49} {n : Nat} (h : n < l.length) : l.drop n = rd_T49 l (n : Int) :: l.drop (n + 1) := by
  have h1 := rd49 (l := l) (i := n) h
  rw [List.getElem?_eq_getElem h] at h1
  rw [List.drop_eq_getElem_cons h, Option.some.inj h1]
theorem ref_to_go {l : List S49} (hl : l.length ≤ 1000) (s : Int) : ∀ (m n k : Nat), n + m = l.length → m + 1 ≤ k → foyerref19_To.l0 k l s (n : Int) = some (remap_To.v (l.drop n) s)
  | 0, n, k, hn, hk => by
    obtain ⟨k, rfl⟩ : ∃ j, k = j + 1 := ⟨k - 1, by omega⟩
    unfold foyerref19_To.l0
    rw [if_neg (by omega), List.drop_of_length_le (by omega)]
    rfl
  | m + 1, n, k, hn, hk => by
    obtain ⟨k, rfl⟩ : ∃ j, k = j + 1 := ⟨k - 1, by omega⟩
    unfold foyerref19_To.l0
    rw [if_pos (by omega), if_pos (by omega), w64 (by omega), ref_to_go hl s m (n + 1) k (by omega) (by omega), drop49 (by omega : n < l.length)]
    generalize rd_T49 l (n : Int) = x
    unfold remap_To.v
    rw [List.find?_cons]
    by_cases h : x.f0 = s
    · rw [if_pos h, show p41 s x = true by simp [p41, h]]
    · rw [if_neg h, show p41 s x = false by simp [p41, h]]
theorem ref_to {l : List S49} (hl : l.length ≤ 1000) (s : Int) {k : Nat} (hk : l.length + 1 ≤ k) : foyerref19_To.f k l s = some (remap_To.v l s) := by
  have := ref_to_go hl s l.length 0 k (by omega) hk
  exact this
theorem ref_from_go {l : List S49} (hl : l.length ≤ 1000) (s : Int) : ∀ (m n k : Nat), n + m = l.length → m + 1 ≤ k → foyerref19_From.l0 k l s (n : Int) = some (remap_From.v (l.drop n) s)
  | 0, n, k, hn, hk => by
    obtain ⟨k, rfl⟩ : ∃ j, k = j + 1 := ⟨k - 1, by omega⟩
    unfold foyerref19_From.l0
    rw [if_neg (by omega), List.drop_of_length_le (by omega)]
    rfl
  | m + 1, n, k, hn, hk => by
    obtain ⟨k, rfl⟩ : ∃ j, k = j + 1 := ⟨k - 1, by omega⟩
    unfold foyerref19_From.l0
    rw [if_pos (by omega), if_pos (by omega), w64 (by omega), ref_from_go hl s m (n + 1) k (by omega) (by omega), drop49 (by omega : n < l.length)]
    generalize rd_T49 l (n : Int) = x
    unfold remap_From.v
    rw [List.find?_cons]
    by_cases h : x.f1 = s
    · rw [if_pos h, show p42 s x = true by simp [p42, h]]
    · rw [if_neg h, show p42 s x = false by simp [p42, h]]
theorem ref_from {l : List S49} (hl : l.length ≤ 1000) (s : Int) {k : Nat} (hk : l.length + 1 ≤ k) : foyerref19_From.f k l s = some (remap_From.v l s) := by
  have := ref_from_go hl s l.length 0 k (by omega) hk
  exact this
theorem to_snd (l : List S49) (s : Int) : (remap_To.v l s).2 = l.any fun x => nm38 x == s := by
  unfold remap_To.v
  cases h : l.find? (p41 s) with
  | none =>
    rw [List.find?_eq_none] at h
    symm
    rw [List.any_eq_false]
    exact fun x hx => h x hx
  | some x =>
    symm
    rw [List.any_eq_true]
    exact ⟨x, List.mem_of_find?_eq_some h, List.find?_some (p := p41 s) h⟩
theorem from_snd (l : List S49) (s : Int) : (remap_From.v l s).2 = l.any fun x => nm39 x == s := by
  unfold remap_From.v
  cases h : l.find? (p42 s) with
  | none =>
    rw [List.find?_eq_none] at h
    symm
    rw [List.any_eq_false]
    exact fun x hx => h x hx
  | some x =>
    symm
    rw [List.any_eq_true]
    exact ⟨x, List.mem_of_find?_eq_some h, List.find?_some (p := p42 s) h⟩
theorem rdI {l : List Int} {n : Nat} (h : n < l.length) : l.drop n = rd l (n : Int) :: l.drop (n + 1) := by
  rw [List.drop_eq_getElem_cons h]
  unfold rd
  simp [List.getD_eq_getElem?_getD, List.getElem?_eq_getElem h]
theorem ref_lost_go {l : List S49} (hl : l.length ≤ 1000) {all : List Int} (ha : all.length ≤ 1000) : ∀ (m n : Nat) (acc : List Int) (k : Nat), n + m = all.length → acc.length ≤ n → m + l.length + 3 ≤ k → foyerref19_Lost.l0 k l acc all (n : Int) = some (acc ++ (all.drop n).filter fun s => !(l.any fun x => nm38 x == s))
  | 0, n, acc, k, hn, hc, hk => by
    obtain ⟨k, rfl⟩ : ∃ j, k = j + 1 := ⟨k - 1, by omega⟩
    unfold foyerref19_Lost.l0
    rw [if_neg (by omega), List.drop_of_length_le (by omega)]
    simp
  | m + 1, n, acc, k, hn, hc, hk => by
    obtain ⟨k, rfl⟩ : ∃ j, k = j + 1 := ⟨k - 1, by omega⟩
    unfold foyerref19_Lost.l0
    rw [if_pos (by omega), if_pos (by omega), ref_to hl _ (by omega), w64 (by omega), rdI (by omega : n < all.length)]
    generalize rd all (n : Int) = s
    simp only [Option.bind_some, to_snd]
    rw [List.filter_cons]
    cases h : l.any fun x => nm38 x == s with
    | true =>
      rw [if_pos rfl, ref_lost_go hl ha m (n + 1) acc k (by omega) (by omega) (by omega)]
      simp
    | false =>
      rw [if_neg (by simp), if_pos (by omega), ref_lost_go hl ha m (n + 1) _ k (by omega) (by simp; omega) (by omega)]
      simp
theorem ref_new_go {l : List S49} (hl : l.length ≤ 1000) {all : List Int} (ha : all.length ≤ 1000) : ∀ (m n : Nat) (acc : List Int) (k : Nat), n + m = all.length → acc.length ≤ n → m + l.length + 3 ≤ k → foyerref19_New.l0 k l acc all (n : Int) = some (acc ++ (all.drop n).filter fun s => !(l.any fun x => nm39 x == s))
  | 0, n, acc, k, hn, hc, hk => by
    obtain ⟨k, rfl⟩ : ∃ j, k = j + 1 := ⟨k - 1, by omega⟩
    unfold foyerref19_New.l0
    rw [if_neg (by omega), List.drop_of_length_le (by omega)]
    simp
  | m + 1, n, acc, k, hn, hc, hk => by
    obtain ⟨k, rfl⟩ : ∃ j, k = j + 1 := ⟨k - 1, by omega⟩
    unfold foyerref19_New.l0
    rw [if_pos (by omega), if_pos (by omega), ref_from hl _ (by omega), w64 (by omega), rdI (by omega : n < all.length)]
    generalize rd all (n : Int) = s
    simp only [Option.bind_some, from_snd]
    rw [List.filter_cons]
    cases h : l.any fun x => nm39 x == s with
    | true =>
      rw [if_pos rfl, ref_new_go hl ha m (n + 1) acc k (by omega) (by omega) (by omega)]
      simp
    | false =>
      rw [if_neg (by simp), if_pos (by omega), ref_new_go hl ha m (n + 1) _ k (by omega) (by simp; omega) (by omega)]
      simp
theorem seatsI_len (l : List S61) : (seatsI l).length ≤ 64 := by
  unfold seatsI
  rw [List.length_map]
  exact seatsL_len l
theorem ref_lost {r : List S61} (hr : OkRows r) {l : List S49} (hl : l.length ≤ 1000) {k : Nat} (hk : l.length + 100 ≤ k) : foyerref19_Lost.f k r l = some (remap_Lost.v r l) := by
  unfold foyerref19_Lost.f
  have h64 := seatsI_len r
  rw [ref_seats hr (by omega)]
  have := ref_lost_go hl (all := seatsI r) (by omega) (seatsI r).length 0 [] k (by omega) (Nat.le_refl _) (by omega)
  exact this
theorem ref_new {r : List S61} (hr : OkRows r) {l : List S49} (hl : l.length ≤ 1000) {k : Nat} (hk : l.length + 100 ≤ k) : foyerref19_New.f k r l = some (remap_New.v r l) := by
  unfold foyerref19_New.f
  have h64 := seatsI_len r
  rw [ref_seats hr (by omega)]
  have := ref_new_go hl (all := seatsI r) (by omega) (seatsI r).length 0 [] k (by omega) (Nat.le_refl _) (by omega)
  exact this
/-! ### back -/
theorem layIn_nil (x : S49) : layIn [] x = [x] := rfl
theorem layIn_go {x y : S49} {S : List S49} (h : y.f0 ≤ x.f0) : layIn (y :: S) x = y :: layIn S x := by
  unfold layIn
  simp [List.takeWhile_cons, List.dropWhile_cons, h]
theorem layIn_stop {x y : S49} {S : List S49} (h : ¬ y.f0 ≤ x.f0) : layIn (y :: S) x = x :: y :: S := by
  unfold layIn
  simp [List.takeWhile_cons, List.dropWhile_cons, h]
theorem rd_mid (P : List S49) (y : S49) (S : List S49) : rd_T49 (P ++ y :: S) (P.length : Int) = y := by
  unfold rd_T49
  simp [List.getD_eq_getElem?_getD]
theorem ref_lay (l : List S49) (i : Nat) (a b : Int) : ∀ (S P : List S49), P.length + S.length ≤ 1000 → i ≤ 1000 → ∃ t, ∀ k, foyerref19_Back.l1 (k + t + 1) l (P ++ S) (i : Int) (P.length : Int) a b = foyerref19_Back.l0 k l (P ++ layIn S ⟨a, b⟩) ((i + 1 : Nat) : Int)
  | [], P, hl, hi => by
    refine ⟨0, fun k => ?_⟩
    unfold foyerref19_Back.l1
    rw [if_neg (by simp), if_pos (by omega), if_pos (by simp)]
    have e1 : (P ++ ([] : List S49)).take (P.length : Int).toNat = P := by simp
    have e2 : (P ++ ([] : List S49)).drop (P.length : Int).toNat = [] := by simp
    have hl' : P.length ≤ 1000 := by simpa using hl
    rw [e1, e2, w64 (by omega)]
    simp only [Option.bind_some, List.nil_append, List.length_nil, Nat.zero_add]
    rw [if_pos (by omega), if_pos (by omega)]
    rw [if_pos (by simp; omega)]
    simp [layIn_nil]
  | y :: S, P, hl, hi => by
    by_cases h : y.f0 ≤ a
    · obtain ⟨t, ht⟩ := ref_lay l i a b S (P ++ [y]) (by simp at hl ⊢; omega) hi
      refine ⟨t + 1, fun k => ?_⟩
      have hk := ht k
      rw [show k + (t + 1) + 1 = (k + t + 1) + 1 by omega]
      conv => lhs; unfold foyerref19_Back.l1
      have hl' : P.length ≤ 1000 := by simp at hl; omega
      rw [if_pos (by simp; omega), if_pos (by omega), rd_mid, if_pos h, w64 (by omega), layIn_go h]
      have e1 : (P ++ [y]).length = P.length + 1 := by simp
      rw [e1, List.append_assoc, List.append_assoc] at hk
      exact hk
    · refine ⟨0, fun k => ?_⟩
      unfold foyerref19_Back.l1
      have hl' : P.length + S.length + 1 ≤ 1000 := by simp at hl; omega
      rw [if_pos (by simp; omega), if_pos (by omega), rd_mid, if_neg h, if_pos (by simp; omega)]
      have e1 : (P ++ y :: S).take (P.length : Int).toNat = P := by simp
      have e2 : (P ++ y :: S).drop (P.length : Int).toNat = y :: S := by simp
      rw [e1, e2, w64 (by omega), layIn_stop h]
      simp only [Option.bind_some, List.nil_append, List.length_nil, Nat.zero_add]
      rw [if_pos (by omega), if_pos (by omega)]
      rw [if_pos (by simp; omega)]
      simp
theorem layIn_len (l : List S49) (x : S49) : (layIn l x).length = l.length + 1 := by
  unfold layIn
  have := congrArg List.length (List.takeWhile_append_dropWhile (p := fun y : S49 => decide (y.f0 ≤ x.f0)) (l := l))
  rw [List.length_append] at this
  simp
  omega
theorem stab_len : ∀ (n : Nat) (l : List S49), l.length = n → (stab l).length = n
  | 0, l, h => by
    obtain rfl := List.length_eq_zero_iff.1 h
    rfl
  | n + 1, l, h => by
    obtain ⟨r, x, rfl⟩ : ∃ r x, l = r ++ [x] := ⟨l.dropLast, l.getLast (by intro e; subst e; simp at h), (List.dropLast_concat_getLast _).symm⟩
    rw [stab_snoc, layIn_len, stab_len n r (by simp at h; exact h)]
theorem ref_back_go {l : List S49} (hl : l.length ≤ 900) : ∀ (m i : Nat), i + m = l.length → ∃ K, foyerref19_Back.l0 K l (stab ((l.take i).map trn)) (i : Int) = some (stab (l.map trn))
  | 0, i, hi => by
    refine ⟨1, ?_⟩
    unfold foyerref19_Back.l0
    rw [if_neg (by omega), List.take_of_length_le (by omega)]
  | m + 1, i, hi => by
    obtain ⟨K, hK⟩ := ref_back_go hl m (i + 1) (by omega)
    have hs := stab_len i ((l.take i).map trn) (by simp; omega)
    have hx := rd49 (l := l) (i := i) (by omega)
    obtain ⟨t, ht⟩ := ref_lay l i (rd_T49 l (i : Int)).f1 (rd_T49 l (i : Int)).f0 (stab ((l.take i).map trn)) [] (by rw [hs]; simp; omega) (by omega)
    refine ⟨K + t + 1 + 1, ?_⟩
    unfold foyerref19_Back.l0
    rw [if_pos (by omega), if_pos (by omega)]
    have := ht K
    simp only [List.nil_append, List.length_nil] at this
    rw [show ((0 : Nat) : Int) = 0 from rfl] at this
    rw [this, ← hK]
    have e : l.take (i + 1) = l.take i ++ [rd_T49 l (i : Int)] := by
      rw [List.take_add_one, hx]
      rfl
    rw [e, List.map_append, List.map_cons, List.map_nil, stab_snoc]
    rfl
theorem ref_back {l : List S49} (hl : l.length ≤ 900) : ∃ K, foyerref19_Back.f K l = some (remap_Back.v l) := by
  obtain ⟨K, hK⟩ := ref_back_go hl l.length 0 (by omega)
  exact ⟨K, hK⟩
/-! ### are moves right? -/
theorem ref_hit {l : List S49} (hl : l.length ≤ 1000) (ra rb : List S61) (i : Nat) (hi : i ≤ l.length) (a b : Int) : ∀ (m j k : Nat), j + m = i → m + 1 ≤ k → (∃ p, j ≤ p ∧ p < i ∧ (rd_T49 l (p : Int)).f1 = b) → foyerref19_Check.l1 k l (i : Int) (j : Int) ra rb a b = some ((i : Int), 24)
  | 0, j, k, hj, hk, hp => by
    obtain ⟨p, h1, h2, _⟩ := hp
    omega
  | m + 1, j, k, hj, hk, hp => by
    obtain ⟨k, rfl⟩ : ∃ j, k = j + 1 := ⟨k - 1, by omega⟩
    unfold foyerref19_Check.l1
    rw [if_pos (by omega), if_pos (by omega), if_pos (by omega)]
    by_cases h : (rd_T49 l (j : Int)).f1 = b
    · rw [if_pos h]
    · rw [if_neg h, w64 (by omega)]
      refine ref_hit hl ra rb i hi a b m (j + 1) k (by omega) (by omega) ?_
      obtain ⟨p, h1, h2, h3⟩ := hp
      refine ⟨p, ?_, h2, h3⟩
      rcases Nat.lt_or_ge j p with h4 | h4
      · exact h4
      · obtain rfl : p = j := by omega
        exact absurd h3 h
theorem ref_miss {l : List S49} (hl : l.length ≤ 1000) (ra rb : List S61) (i : Nat) (hi : i ≤ l.length) (a b : Int) : ∀ (m j k : Nat), j + m = i → (∀ p, j ≤ p → p < i → (rd_T49 l (p : Int)).f1 ≠ b) → foyerref19_Check.l1 (k + m) l (i : Int) (j : Int) ra rb a b = foyerref19_Check.l1 k l (i : Int) (i : Int) ra rb a b
  | 0, j, k, hj, hp => by
    obtain rfl : j = i := by omega
    rfl
  | m + 1, j, k, hj, hp => by
    rw [show k + (m + 1) = (k + m) + 1 by omega]
    conv => lhs; unfold foyerref19_Check.l1
    rw [if_pos (by omega), if_pos (by omega), if_pos (by omega), if_neg (hp j (Nat.le_refl _) (by omega)), w64 (by omega)]
    exact ref_miss hl ra rb i hi a b m (j + 1) k (by omega) fun p h1 h2 => hp p (by omega) h2
theorem ref_chk_go {ra rb : List S61} (hra : OkRows ra) (hrb : OkRows rb) {l : List S49} (hl : l.length ≤ 900) : ∀ (m i : Nat) (f : Nat → Bool), i + m = l.length → (∀ j, j < 64 → f j = (l.take i).any fun x => x.f1 == (j : Int)) → ∃ K, foyerref19_Check.l0 K l (i : Int) ra rb = some (chk ra rb l (l.drop i) i f)
  | 0, i, f, hi, hf => by
    refine ⟨1, ?_⟩
    unfold foyerref19_Check.l0
    rw [if_neg (by omega), List.drop_of_length_le (by omega)]
    rfl
  | m + 1, i, f, hi, hf => by
    have hx := rd49 (l := l) (i := i) (by omega)
    have hj2 : ∀ k, foyerref19_Check.l0 (k + 1) l (i : Int) ra rb = foyerref19_Check.j2 k l (i : Int) (!risesAt l i) ra rb (rd_T49 l (i : Int)).f0 (rd_T49 l (i : Int)).f1 := by
      intro k
      conv => lhs; unfold foyerref19_Check.l0
      rw [if_pos (by omega), if_pos (by omega)]
      unfold risesAt
      by_cases h0 : i = 0
      · rw [if_neg (by omega), if_pos h0]
        rfl
      · rw [if_pos (by omega), if_neg h0]
        have e : wrap64 ((i : Int) - 1) = ((i - 1 : Nat) : Int) := by unfold wrap64; omega
        rw [e, if_pos (by omega), if_pos (by omega)]
        congr 1
        rw [← decide_not]
        apply decide_eq_decide.2
        omega
    rw [drop49 (by omega : i < l.length)]
    generalize hxx : rd_T49 l (i : Int) = x at *
    unfold chk
    by_cases h1 : risesAt l i = false
    · refine ⟨2, ?_⟩
      rw [hj2, if_pos h1, h1]
      unfold foyerref19_Check.j2
      rfl
    · have h1' : risesAt l i = true := by simpa using h1
      rw [if_neg h1]
      have hj3 : ∀ k, 10 ≤ k → foyerref19_Check.l0 (k + 2) l (i : Int) ra rb = foyerref19_Check.j3 k l (i : Int) (!thereAt ra rb x) ra rb x.f0 x.f1 := by
        intro k hk
        rw [hj2, h1']
        unfold foyerref19_Check.j2
        rw [if_neg (by simp), ref_has hra _ hk, ref_has hrb _ hk]
        simp only [Option.bind_some, thereAt, has_eq]
        cases hasB ra x.f0 <;> simp
      by_cases h2 : thereAt ra rb x = false
      · refine ⟨13, ?_⟩
        rw [hj3 11 (by omega), if_pos h2, h2]
        unfold foyerref19_Check.j3
        rfl
      · have h2' : thereAt ra rb x = true := by simpa using h2
        rw [if_neg h2]
        have hl1 : ∀ k, 10 ≤ k → foyerref19_Check.l0 (k + 3) l (i : Int) ra rb = foyerref19_Check.l1 k l (i : Int) ((0 : Nat) : Int) ra rb x.f0 x.f1 := by
          intro k hk
          rw [hj3 (k + 1) (by omega), h2']
          unfold foyerref19_Check.j3
          rfl
        have hr := there_range h2'
        have hfx := hf x.f1.toNat (by omega)
        have ex : ((x.f1.toNat : Nat) : Int) = x.f1 := by omega
        rw [ex] at hfx
        by_cases h3 : f x.f1.toNat = true
        · rw [if_pos h3]
          refine ⟨i + 20 + 3, ?_⟩
          rw [hl1 _ (by omega)]
          rw [h3] at hfx
          obtain ⟨y, hy, hyx⟩ := List.any_eq_true.1 hfx.symm
          obtain ⟨p, hp, rfl⟩ := List.mem_iff_getElem.1 hy
          have hp' : p < i := by
            rw [List.length_take] at hp
            omega
          refine ref_hit (by omega) ra rb i (by omega) _ _ i 0 _ (by omega) (by omega) ⟨p, Nat.zero_le _, hp', ?_⟩
          have hq := rd49 (l := l) (i := p) (by omega)
          rw [List.getElem?_eq_getElem (by omega)] at hq
          rw [← Option.some.inj hq]
          rw [List.getElem_take] at hyx
          simpa using hyx
        · rw [if_neg h3]
          have h3' : f x.f1.toNat = false := by simpa using h3
          have hmiss : ∀ p, 0 ≤ p → p < i → (rd_T49 l (p : Int)).f1 ≠ x.f1 := by
            intro p _ hp e
            have hq := rd49 (l := l) (i := p) (by omega)
            rw [h3'] at hfx
            have := List.any_eq_false.1 hfx.symm (rd_T49 l (p : Int)) (List.mem_of_getElem? (i := p) (by rw [List.getElem?_take, if_pos hp, hq]))
            simp [e] at this
          obtain ⟨K, hK⟩ := ref_chk_go hra hrb hl m (i + 1) (mark f x.f1.toNat) (by omega) (by
            intro j hj
            rw [List.take_add_one, hx, List.any_append, ← hf j hj]
            unfold mark
            simp only [Option.toList_some, List.any_cons, List.any_nil, Bool.or_false]
            by_cases hje : j = x.f1.toNat
            · rw [if_pos hje]
              have : (x.f1 == (j : Int)) = true := by rw [beq_iff_eq]; omega
              rw [this, Bool.or_true]
            · rw [if_neg hje]
              have : (x.f1 == (j : Int)) = false := by rw [beq_eq_false_iff_ne]; omega
              rw [this, Bool.or_false])
          have hK' := LeO.lift (fun k => (foyerref19_Check.mono_l k).2.1 l ((i + 1 : Nat) : Int) ra rb) (Nat.le_add_right K 12) hK
          have hcls : ∀ k, 10 ≤ k → foyerref19_Check.l1 (k + 1) l (i : Int) (i : Int) ra rb x.f0 x.f1 = if alikeAt ra rb x = true then foyerref19_Check.l0 k l ((i + 1 : Nat) : Int) ra rb else some ((i : Int), 20) := by
            intro k hk
            conv => lhs; unfold foyerref19_Check.l1
            rw [if_neg (by omega), ref_class hra _ hk, ref_class hrb _ hk, w64 (by omega)]
            simp only [Option.bind_some, alikeAt, beq_iff_eq]
          refine ⟨(K + 12) + 1 + i + 3, ?_⟩
          rw [hl1 _ (by omega), ref_miss (by omega) ra rb i (by omega) x.f0 x.f1 i 0 _ (by omega) hmiss, hcls _ (by omega), hK']
          by_cases h4 : alikeAt ra rb x = false
          · rw [if_neg (by simp [h4]), if_pos h4]
          · rw [if_pos (by simpa using h4), if_neg h4]
theorem ref_chk {ra rb : List S61} (hra : OkRows ra) (hrb : OkRows rb) {l : List S49} (hl : l.length ≤ 900) : ∃ K, foyerref19_Check.f K ra rb l = some (remap_Check.v ra rb l) := by
  obtain ⟨K, hK⟩ := ref_chk_go hra hrb hl l.length 0 (fun _ => false) (by omega) (by intro j _; simp)
  have hK' := LeO.lift (fun k => (foyerref19_Check.mono_l k).2.1 l 0 ra rb) (Nat.le_add_right K 12) hK
  refine ⟨K + 12 + 1, ?_⟩
  unfold foyerref19_Check.f remap_Check.v
  rw [ref_check ra (by omega), ref_check rb (by omega)]
  simp only [Option.bind_some, foyerref19_Check.j0]
  by_cases h1 : hall_Check.v ra = 0
  · rw [if_pos h1]
    by_cases h2 : hall_Check.v rb = 0
    · rw [if_neg (by simp [h2]), if_neg (by simp [h1, h2]), hK']
      rfl
    · rw [if_pos (by simp [h2]), if_pos (.inr h2)]
  · rw [if_neg h1, if_pos trivial, if_pos (.inl h1)]
/-! ### lists alike -/
theorem ints_go {l : List Int} (hl : l.length ≤ 1000) : ∀ (m n k : Nat), n + m = l.length → m + 1 ≤ k → foyerlaw19_ints.l0 k l l (n : Int) = some true
  | 0, n, k, hn, hk => by
    obtain ⟨k, rfl⟩ : ∃ j, k = j + 1 := ⟨k - 1, by omega⟩
    unfold foyerlaw19_ints.l0
    rw [if_neg (by omega)]
  | m + 1, n, k, hn, hk => by
    obtain ⟨k, rfl⟩ : ∃ j, k = j + 1 := ⟨k - 1, by omega⟩
    unfold foyerlaw19_ints.l0
    rw [if_pos (by omega), if_pos (by omega), if_pos (by omega), if_pos rfl, w64 (by omega), ints_go hl m (n + 1) k (by omega) (by omega)]
theorem ints_same {l : List Int} (hl : l.length ≤ 1000) {k : Nat} (hk : l.length + 1 ≤ k) : foyerlaw19_ints.f k l l = some true := by
  unfold foyerlaw19_ints.f
  rw [if_pos rfl]
  exact ints_go hl l.length 0 k (by omega) hk
theorem moves_go {l : List S49} (hl : l.length ≤ 1000) : ∀ (m n k : Nat), n + m = l.length → m + 1 ≤ k → foyerlaw19_moves.l0 k l l (n : Int) = some true
  | 0, n, k, hn, hk => by
    obtain ⟨k, rfl⟩ : ∃ j, k = j + 1 := ⟨k - 1, by omega⟩
    unfold foyerlaw19_moves.l0
    rw [if_neg (by omega)]
  | m + 1, n, k, hn, hk => by
    obtain ⟨k, rfl⟩ : ∃ j, k = j + 1 := ⟨k - 1, by omega⟩
    unfold foyerlaw19_moves.l0
    rw [if_pos (by omega), if_pos (by omega), if_pos (by omega), if_neg (by simp), w64 (by omega), moves_go hl m (n + 1) k (by omega) (by omega)]
theorem moves_same {l : List S49} (hl : l.length ≤ 1000) {k : Nat} (hk : l.length + 1 ≤ k) : foyerlaw19_moves.f k l l = some true := by
  unfold foyerlaw19_moves.f
  rw [if_pos rfl]
  exact moves_go hl l.length 0 k (by omega) hk
theorem few_go (l : List S49) : ∀ (m n : Nat) (acc : List S49) (k : Nat), n + m = min l.length 70 → acc.length = n → m + 1 ≤ k → ∃ r, foyerlaw19_few.l0 k l acc (n : Int) = some r ∧ r.length ≤ 70
  | 0, n, acc, k, hn, ha, hk => by
    obtain ⟨k, rfl⟩ : ∃ j, k = j + 1 := ⟨k - 1, by omega⟩
    refine ⟨acc, ?_, by omega⟩
    unfold foyerlaw19_few.l0
    by_cases h : (n : Int) < (l.length : Int)
    · rw [if_pos h, if_neg (by omega)]
    · rw [if_neg h]
  | m + 1, n, acc, k, hn, ha, hk => by
    obtain ⟨k, rfl⟩ : ∃ j, k = j + 1 := ⟨k - 1, by omega⟩
    unfold foyerlaw19_few.l0
    rw [if_pos (by omega), if_pos (by omega), if_pos (by omega), if_pos (by omega), w64 (by omega)]
    exact few_go l m (n + 1) _ k (by omega) (by simp; omega) (by omega)
theorem few_some (l : List S49) : ∃ r, foyerlaw19_few.f 100 l = some r ∧ r.length ≤ 70 := few_go l (min l.length 70) 0 [] 100 (by omega) rfl (by omega)
theorem lost_len (r : List S61) (l : List S49) : (remap_Lost.v r l).length ≤ 64 := by
  unfold remap_Lost.v
  exact Nat.le_trans (List.length_filter_le _ _) (seatsI_len r)
theorem new_len (r : List S61) (l : List S49) : (remap_New.v r l).length ≤ 64 := by
  unfold remap_New.v
  exact Nat.le_trans (List.length_filter_le _ _) (seatsI_len r)
theorem back_len (l : List S49) : (remap_Back.v l).length = l.length := stab_len l.length (l.map trn) (by simp)
theorem alike_seats {l : List S49} (hl : l.length ≤ 1000) : ∀ (m : Nat) (s : Int) (k : Nat), s + m = 66 → -2 ≤ s → m + l.length + 3 ≤ k → more.foyerlaw19_alike.l0 k l s = some true
  | 0, s, k, hs, h2, hk => by
    obtain ⟨k, rfl⟩ : ∃ j, k = j + 1 := ⟨k - 1, by omega⟩
    conv => lhs; unfold more.foyerlaw19_alike.l0
    rw [if_neg (by omega)]
  | m + 1, s, k, hs, h2, hk => by
    obtain ⟨k, rfl⟩ : ∃ j, k = j + 1 := ⟨k - 1, by omega⟩
    conv => lhs; unfold more.foyerlaw19_alike.l0
    have e : wrap64 (s + 1) = s + 1 := by unfold wrap64; omega
    rw [if_pos (by omega), ref_to hl s (by omega), ref_from hl s (by omega), e, alike_seats hl m (s + 1) k (by omega) (by omega) (by omega)]
    unfold remap_To.f remap_From.f
    simp
theorem alike_true {a b : List S61} (ha : OkRows a) (hb : OkRows b) {l : List S49} (hl : l.length ≤ 900) : ∃ k, more.foyerlaw19_alike.f k a b l = some true := by
  obtain ⟨K1, h1⟩ := ref_chk ha hb hl
  obtain ⟨K2, h2⟩ := ref_back hl
  refine ⟨K1 + K2 + 3000 + 1, ?_⟩
  have e1 := LeO.lift (k := K1 + K2 + 3000 + 1) (fun k => foyerref19_Check.mono a b l k) (by omega) h1
  have e2 := LeO.lift (k := K1 + K2 + 3000 + 1) (fun k => foyerref19_Back.mono l k) (by omega) h2
  have b1 := lost_len a l
  have b2 := new_len b l
  have b3 := back_len l
  unfold more.foyerlaw19_alike.f
  rw [e1, e2, ref_lost ha (by omega) (by omega), ref_new hb (by omega) (by omega)]
  unfold remap_Check.f remap_Lost.f remap_New.f remap_Back.f
  rw [if_pos (by omega)]
  simp only [Option.bind_some]
  rw [ints_same (by omega) (by omega), ints_same (by omega) (by omega), moves_same (by omega) (by omega)]
  simp only [Option.bind_some, if_true, Bool.not_true]
  conv => lhs; unfold more.foyerlaw19_alike.j0
  simp only [Bool.false_eq_true, if_false]
  exact alike_seats (by omega) 68 (-2) _ (by omega) (by omega) (by omega)
end Go.Proofs.Yteojldbfebnccaa
namespace Go.Proofs.Yteojldbfebnccaa
open Go.RowKit Go.Proofs.YteojldbfebnccaaW.PrintWords Go.ChangeShapes Go.WideShapes Go.Deep
section
variable {H : Type} {enc : TypeId × Value → H} {W : World} {base : Nat} {spare : Nat → Bool} {held : Bool}
theorem row_cells {fuel : Nat} {cs : List Value} {x : DataW H × List MemPlace} (h : DataW.trod enc Try.prog W base spare held fuel 61 cs = some x) :
    ∃ r : S61, (Lit.int .u8 r.f1).wf = true ∧ cs = [.int .i64 r.f0, .int .u8 r.f1] := by
  obtain ⟨xs, n, rfl, _, hl, hxl, hf⟩ := DataW.trod_struct Try.underlying61 h
  have h34 : Try.prog.cellsOf 61 = 2 := by kernel_rfl
  rw [h34] at hl
  match cs, hl with
  | [c0, c1], _ =>
    have g : ∀ (i : Nat), i < 2 → ∃ y, xs[i]? = some y := fun i hi => ⟨_, List.getElem?_eq_getElem (by rw [hxl]; exact hi)⟩
    obtain ⟨y0, g0⟩ := g 0 (by omega)
    obtain ⟨y1, g1⟩ := g 1 (by omega)
    have e0 := (hf 0 _ rfl).trans g0
    have e1 := (hf 1 _ rfl).trans g1
    obtain ⟨b0, k0, _, w0⟩ := DataW.trod_int (k := .i64) (by kernel_rfl) e0
    obtain ⟨b1, k1, _, w1⟩ := DataW.trod_int (k := .u8) (by kernel_rfl) e1
    have one : ∀ t : TypeId, Try.prog.cellsOf t = 1 → ∀ (l : List Value), l.take (Try.prog.cellsOf t) = l.take 1 := fun t ht l => by rw [ht]
    rw [one _ (by kernel_rfl)] at k0 k1
    simp at k0 k1
    subst k0 k1
    exact ⟨⟨b0, b1⟩, w1, rfl⟩
theorem row_cs {fuel : Nat} {cs : List Value} {y : DataW H × List MemPlace} (hf : DataW.trod enc Try.prog W base spare held fuel 27 cs = some y) :
    ∃ (a : Option Addr) (len cap : Nat) (xs : List S61), cs = [.slice a len cap] ∧ xs.length = len ∧ len ≤ cap ∧ Kd.C k61 W a xs.length xs ∧ ∀ x ∈ xs, (Lit.int .u8 x.f1).wf = true := by
  rcases open_slice Try.underlying27 hf with ⟨hcs, _⟩ | ⟨x, len, cap, m, n, D, Pl, hcs, _, hl, hm, hmm, _, hel⟩
  · exact ⟨none, 0, 0, [], hcs, rfl, Nat.le_refl _, ⟨rfl, by simp, fun h => absurd h (by simp)⟩, by simp⟩
  · refine ⟨some x, len, cap, ?_⟩
    have hlm : len ≤ m := by rw [hmm]; split <;> omega
    have h34 : Try.prog.cellsOf 61 = 2 := by kernel_rfl
    have hR : ∀ i : Nat, ∃ r : S61, i < len → (Lit.int .u8 r.f1).wf = true ∧ ∀ j u, [Value.int .i64 r.f0, .int .u8 r.f1][j]? = some u → W.cell? (x.add (i * 2 + j)) = some u := by
      intro i
      by_cases hi : i < len
      · obtain ⟨cs', h1, h2⟩ := hel i (by omega)
        obtain ⟨r, hw, rfl⟩ := row_cells h2
        refine ⟨r, fun _ => ⟨hw, fun j u hj => ?_⟩⟩
        obtain ⟨_, h3, h4⟩ := World.cells?_some h1
        have hj7 : j < 2 := (List.getElem?_eq_some_iff.1 hj).1
        have := h4 j (by rw [h34]; exact hj7)
        rw [h34] at this
        rw [← hj, ← this]
        congr 1
        unfold Addr.add
        by_cases q1 : i * 2 = 0 <;> by_cases q2 : j = 0 <;> simp [q1, q2, Nat.add_assoc]
      · exact ⟨z61, fun h => absurd h hi⟩
    obtain ⟨R, hR'⟩ := Classical.axiomOfChoice hR
    have hlen : ((List.range len).map R).length = len := by simp
    refine ⟨(List.range len).map R, hcs, hlen, hl, ⟨rfl, ?_, fun _ => ⟨x, rfl, fun j p hj => ?_⟩⟩, ?_⟩
    · rw [hlen]; unfold maxLen at hm; omega
    · have hjl : j < len := by
        have := (List.getElem?_eq_some_iff.1 hj).1
        rwa [hlen] at this
      have hp : R j = p := by
        rw [List.getElem?_map, List.getElem?_range hjl] at hj
        simpa using hj
      subst hp
      exact ⟨_, rfl, k61_mk W (R j), fun i u hi => (hR' j hjl).2 i u hi⟩
    · intro y hy
      obtain ⟨j, hj, rfl⟩ := List.mem_map.1 hy
      rw [List.mem_range] at hj
      exact (hR' j hj).1
theorem move_cells {fuel : Nat} {cs : List Value} {x : DataW H × List MemPlace} (h : DataW.trod enc Try.prog W base spare held fuel 49 cs = some x) :
    ∃ r : S49, (Lit.int .i64 r.f1).wf = true ∧ cs = [.int .i64 r.f0, .int .i64 r.f1] := by
  obtain ⟨xs, n, rfl, _, hl, hxl, hf⟩ := DataW.trod_struct Try.underlying49 h
  have h34 : Try.prog.cellsOf 49 = 2 := by kernel_rfl
  rw [h34] at hl
  match cs, hl with
  | [c0, c1], _ =>
    have g : ∀ (i : Nat), i < 2 → ∃ y, xs[i]? = some y := fun i hi => ⟨_, List.getElem?_eq_getElem (by rw [hxl]; exact hi)⟩
    obtain ⟨y0, g0⟩ := g 0 (by omega)
    obtain ⟨y1, g1⟩ := g 1 (by omega)
    have e0 := (hf 0 _ rfl).trans g0
    have e1 := (hf 1 _ rfl).trans g1
    obtain ⟨b0, k0, _, w0⟩ := DataW.trod_int (k := .i64) (by kernel_rfl) e0
    obtain ⟨b1, k1, _, w1⟩ := DataW.trod_int (k := .i64) (by kernel_rfl) e1
    have one : ∀ t : TypeId, Try.prog.cellsOf t = 1 → ∀ (l : List Value), l.take (Try.prog.cellsOf t) = l.take 1 := fun t ht l => by rw [ht]
    rw [one _ (by kernel_rfl)] at k0 k1
    simp at k0 k1
    subst k0 k1
    exact ⟨⟨b0, b1⟩, w1, rfl⟩
theorem move_cs {fuel : Nat} {cs : List Value} {y : DataW H × List MemPlace} (hf : DataW.trod enc Try.prog W base spare held fuel 32 cs = some y) :
    ∃ (a : Option Addr) (len cap : Nat) (xs : List S49), cs = [.slice a len cap] ∧ xs.length = len ∧ len ≤ cap ∧ Kd.C k49 W a xs.length xs ∧ ∀ x ∈ xs, (Lit.int .i64 x.f1).wf = true := by
  rcases open_slice Try.underlying32 hf with ⟨hcs, _⟩ | ⟨x, len, cap, m, n, D, Pl, hcs, _, hl, hm, hmm, _, hel⟩
  · exact ⟨none, 0, 0, [], hcs, rfl, Nat.le_refl _, ⟨rfl, by simp, fun h => absurd h (by simp)⟩, by simp⟩
  · refine ⟨some x, len, cap, ?_⟩
    have hlm : len ≤ m := by rw [hmm]; split <;> omega
    have h34 : Try.prog.cellsOf 49 = 2 := by kernel_rfl
    have hR : ∀ i : Nat, ∃ r : S49, i < len → (Lit.int .i64 r.f1).wf = true ∧ ∀ j u, [Value.int .i64 r.f0, .int .i64 r.f1][j]? = some u → W.cell? (x.add (i * 2 + j)) = some u := by
      intro i
      by_cases hi : i < len
      · obtain ⟨cs', h1, h2⟩ := hel i (by omega)
        obtain ⟨r, hw, rfl⟩ := move_cells h2
        refine ⟨r, fun _ => ⟨hw, fun j u hj => ?_⟩⟩
        obtain ⟨_, h3, h4⟩ := World.cells?_some h1
        have hj7 : j < 2 := (List.getElem?_eq_some_iff.1 hj).1
        have := h4 j (by rw [h34]; exact hj7)
        rw [h34] at this
        rw [← hj, ← this]
        congr 1
        unfold Addr.add
        by_cases q1 : i * 2 = 0 <;> by_cases q2 : j = 0 <;> simp [q1, q2, Nat.add_assoc]
      · exact ⟨z49, fun h => absurd h hi⟩
    obtain ⟨R, hR'⟩ := Classical.axiomOfChoice hR
    have hlen : ((List.range len).map R).length = len := by simp
    refine ⟨(List.range len).map R, hcs, hlen, hl, ⟨rfl, ?_, fun _ => ⟨x, rfl, fun j p hj => ?_⟩⟩, ?_⟩
    · rw [hlen]; unfold maxLen at hm; omega
    · have hjl : j < len := by
        have := (List.getElem?_eq_some_iff.1 hj).1
        rwa [hlen] at this
      have hp : R j = p := by
        rw [List.getElem?_map, List.getElem?_range hjl] at hj
        simpa using hj
      subst hp
      exact ⟨_, rfl, k49_mk W (R j), fun i u hi => (hR' j hjl).2 i u hi⟩
    · intro y hy
      obtain ⟨j, hj, rfl⟩ := List.mem_map.1 hy
      rw [List.mem_range] at hj
      exact (hR' j hj).1
theorem moves_C {a : Option Addr} {len cap : Nat} {d : DataW H} {ps : List MemPlace} (h : DataW.Trod enc Try.prog W base spare held 32 (.slice a len cap) d ps) :
    ∃ xs : List S49, xs.length = len ∧ len ≤ cap ∧ Kd.C k49 W a xs.length xs := by
  obtain ⟨fuel, hf⟩ := h
  obtain ⟨a', len', cap', xs, h0, h1, h2, h3, _⟩ := move_cs hf
  simp [Value.cells] at h0
  obtain ⟨rfl, rfl, rfl⟩ := h0
  exact ⟨xs, h1, h2, h3⟩
theorem hall_C {v : Value} {d : DataW H} {ps : List MemPlace} (hv : Value.okWide Try.prog W .any 0 29 v) (h : DataW.Trod enc Try.prog W base spare held 29 v d ps) :
    ∃ (a : Option Addr) (cap : Nat) (xs : List S61), v = .agg #[.slice a xs.length cap] ∧ xs.length ≤ cap ∧ Kd.C k61 W a xs.length xs ∧ OkRows xs := by
  obtain ⟨cs, rfl, hcs⟩ := okWide_struct Try.underlying29 hv
  obtain ⟨fuel, hf⟩ := h
  obtain ⟨y0, n, _, _, hf0⟩ := trod_struct1 Try.underlying29 hf
  have h1 : Try.prog.cellsOf 29 = 1 := by kernel_rfl
  have h2 : Try.prog.cellsOf 27 = 1 := by kernel_rfl
  rw [h1] at hcs
  obtain ⟨c, rfl⟩ : ∃ c, cs = #[c] := Array.size_eq_one_iff.1 hcs
  obtain ⟨a', len', cap', xs, h0, h3, h4, h5, h6⟩ := row_cs hf0
  have hc : c = .slice a' len' cap' := by
    rw [h2] at h0
    simpa [Value.cells] using h0
  subst hc h3
  refine ⟨a', cap', xs, rfl, h4, h5, fun x hx => ?_⟩
  have := h6 x hx
  simp [Lit.wf] at this
  have e1 : IntKind.u8.min = 0 := by kernel_rfl
  have e2 : IntKind.u8.max = 255 := by kernel_rfl
  omega
end
end Go.Proofs.Yteojldbfebnccaa
namespace Go.Proofs.Yteojldbfebnccaa
open Go.RowKit Go.Proofs.YteojldbfebnccaaW.PrintWords Go.Proofs.YteojldbfebnccaaW.PrintLast Go.Proofs.YteojldbfebnccaaW.PrintMore
section
attribute [local go_sem] max2_int min2_int max_two min_two
set_option maxHeartbeats 4000000 in
theorem short_calls (A : Option Addr) (c : Nat) (l : List S61) (w : World) (hc : l.length ≤ c) :
    Calls Try.prog 25 #[.agg #[.slice A l.length c]] w fun e w' => e = .returned (.agg #[.slice A (l.take 10).length c]) ∧ Below w.heap.size w w' := by
  obtain ⟨n, hn⟩ : ∃ n, l.length = n := ⟨_, rfl⟩
  have HC := Lib.hid hc
  clear hc
  rw [hn] at HC ⊢
  obtain ⟨i0, hi0⟩ : ∃ i, Try.prog.info? 61 = some i := by
    cases h : Try.prog.info? 61 with
    | none => have h61 := info61; rw [h] at h61; cases h61
    | some i => exact ⟨i, rfl⟩
  have hres : ∀ (m : Nat) (W : World), m = (l.take 10).length → Below w.heap.size w W → (Ending.returned (.agg #[.slice A m c]) : Ending) = .returned (.agg #[.slice A (l.take 10).length c]) ∧ Below w.heap.size w W := by
    intro m W hm hb
    subst hm
    exact ⟨rfl, hb⟩
  have hHC := HC.out
  have hlen : (l.take 10).length = min 10 n := by rw [List.length_take, hn]
  obtain ⟨L', hL'⟩ : ∃ L', l.take 10 = L' := ⟨_, rfl⟩
  rw [hL'] at hres hlen
  rw [hL']
  clear hL'
  have hHC := HC.out
  by_cases h : 10 < n
  · have hcut := cut_to (P := Try.prog) 27 61 .i64 Try.underlying27 hi0 A n c 10 (by omega) (by omega) HC.out
    have hlt : (10 : Int) < (n : Int) := by omega
    have HM := Lib.hid (show 10 = L'.length by omega)
    clear hHC hn hlen
    go_enter Try.func25, Try.ntmps25
    go_wp2_with fail
    refine bodyPost_ret (results_cell_row rfl _ _ (w.heap.size + 1) 29 #[.slice A 10 c] (0, 0) _ rfl (heap_alloc2_new _ _ _) Try.underlying29 rfl (by kernel_rfl)) rfl ?_
    exact hres 10 _ HM.out (below_alloc (below_alloc (Below.refl _ _) _) _)
  · have hcut := cut_to (P := Try.prog) 27 61 .i64 Try.underlying27 hi0 A n c (n : Int) (by omega) (by omega) HC.out
    have hlt : ¬ (10 : Int) < (n : Int) := by omega
    have HM := Lib.hid (show n = L'.length by omega)
    clear hHC hn hlen
    go_enter Try.func25, Try.ntmps25
    go_wp2_with fail
    refine bodyPost_ret (results_cell_row rfl _ _ (w.heap.size + 1) 29 #[.slice A n c] (0, 0) _ rfl (heap_alloc2_new _ _ _) Try.underlying29 rfl (by kernel_rfl)) rfl ?_
    exact hres n _ HM.out (below_alloc (below_alloc (Below.refl _ _) _) _)
end
structure ToldAt (w W : World) (A : Option Addr) (a : List S61) (B : Option Addr) (b : List S61) (L : Option Addr) (l : List S49) : Prop where
  hA : Kd.C k61 W A a.length a
  hB : Kd.C k61 W B b.length b
  hL : Kd.C k49 W L l.length l
  bel : Below w.heap.size w W
theorem ToldAt.below {w W W' : World} {A : Option Addr} {a : List S61} {B : Option Addr} {b : List S61} {L : Option Addr} {l : List S49} (h : ToldAt w W A a B b L l) (hb : Below W.heap.size W W') : ToldAt w W' A a B b L l :=
  ⟨Kd.C_below h.hA hb, Kd.C_below h.hB hb, Kd.C_below h.hL hb, below_then h.bel h.bel.size hb⟩
theorem okTake {a : List S61} (h : OkRows a) (n : Nat) : OkRows (a.take n) := fun x hx => h x (List.mem_of_mem_take hx)
theorem C_take10 {W : World} {A : Option Addr} {a : List S61} (h : Kd.C k61 W A a.length a) : Kd.C k61 W A (a.take 10).length (a.take 10) := by
  have h1 := Kd.C_take (m := (a.take 10).length) h (by rw [List.length_take]; omega)
  have e : a.take (a.take 10).length = a.take 10 := by
    rw [List.length_take]
    by_cases h : a.length ≤ 10
    · rw [List.take_of_length_le (by omega), List.take_of_length_le h]
    · rw [show min 10 a.length = 10 by omega]
  rwa [e] at h1
set_option maxHeartbeats 16000000 in
theorem told_calls (A : Option Addr) (ca : Nat) (a : List S61) (B : Option Addr) (cb : Nat) (b : List S61) (L : Option Addr) (cl : Nat) (l : List S49) (w : World)
    (hA : Kd.C k61 w A a.length a) (hca : a.length ≤ ca) (ha : OkRows a) (hB : Kd.C k61 w B b.length b) (hcb : b.length ≤ cb) (hb : OkRows b) (hL : Kd.C k49 w L l.length l) (hcl : l.length ≤ cl) :
    Calls Try.prog 6 #[.agg #[.slice A a.length ca], .agg #[.slice B b.length cb], .slice L l.length cl] w fun e w' => e = .returned (.bool true) ∧ Below w.heap.size w w' := by
  obtain ⟨r, hr, hrl⟩ := few_some l
  obtain ⟨k, hk⟩ := alike_true (okTake ha 10) (okTake hb 10) (l := r) (by omega)
  have HSA := Lib.hid (show ∀ W, ToldAt w W A a B b L l → Calls Try.prog 25 #[.agg #[.slice A a.length ca]] W fun e w' => e = .returned (.agg #[.slice A (a.take 10).length ca]) ∧ Below W.heap.size W w' from
    fun W h => (short_calls A ca a W hca).mono fun e w' h => ⟨h.1, h.2⟩)
  have HSB := Lib.hid (show ∀ W, ToldAt w W A a B b L l → Calls Try.prog 25 #[.agg #[.slice B b.length cb]] W fun e w' => e = .returned (.agg #[.slice B (b.take 10).length cb]) ∧ Below W.heap.size W w' from
    fun W h => (short_calls B cb b W hcb).mono fun e w' h => ⟨h.1, h.2⟩)
  have HFW := Lib.hid (show ∀ W, ToldAt w W A a B b L l → Calls Try.prog 26 #[.slice L l.length cl] W fun e w' => ∃ R c, e = .returned (.slice R r.length c) ∧ r.length ≤ c ∧ Kd.C k49 w' R r.length r ∧ Below W.heap.size W w' from
    fun W h => (foyerlaw19_few.calls 100 L cl l r W h.hL hcl hr).mono fun e w' ⟨v, h1, h2, h3⟩ => by
      obtain ⟨R, c, rfl, h4, h5⟩ := Kd.R_reads h2
      exact ⟨R, c, h1, h4, h5, h3⟩)
  have HAL := Lib.hid (show ∀ W R c, ToldAt w W A a B b L l → r.length ≤ c → Kd.C k49 W R r.length r → Calls Try.prog 24 #[.agg #[.slice A (a.take 10).length ca], .agg #[.slice B (b.take 10).length cb], .slice R r.length c] W fun e w' => e = .returned (.bool true) ∧ Below W.heap.size W w' from
    fun W R c h hc hR => more.foyerlaw19_alike.calls k A ca (a.take 10) B cb (b.take 10) R c r true W (C_take10 h.hA) (by rw [List.length_take]; omega) (C_take10 h.hB) (by rw [List.length_take]; omega) hR hc hk)
  have HT := Lib.hid (show ToldAt w w A a B b L l from ⟨hA, hB, hL, Below.refl _ _⟩)
  clear hA hB hL hca hcb hcl hr hrl hk
  obtain ⟨na, hna⟩ : ∃ n, a.length = n := ⟨_, rfl⟩
  obtain ⟨nb, hnb⟩ : ∃ n, b.length = n := ⟨_, rfl⟩
  obtain ⟨nl, hnl⟩ : ∃ n, l.length = n := ⟨_, rfl⟩
  obtain ⟨ma, hma⟩ : ∃ n, (a.take 10).length = n := ⟨_, rfl⟩
  obtain ⟨mb, hmb⟩ : ∃ n, (b.take 10).length = n := ⟨_, rfl⟩
  obtain ⟨nr, hnr⟩ : ∃ n, r.length = n := ⟨_, rfl⟩
  rw [hna, hma] at HSA
  rw [hnb, hmb] at HSB
  rw [hnl, hnr] at HFW
  rw [hma, hmb, hnr] at HAL
  rw [hna, hnb, hnl]
  clear hna hnb hnl hma hmb hnr
  go_enter Try.func6, Try.ntmps6
  go_wp2_with fail
  have HG1 := Lib.hid (show ((w.alloc (.cells #[.slice A na ca] 29)).alloc (.cells #[.slice B nb cb] 29)).heap[w.heap.size]? = some (.cells #[.slice A na ca] 29 (0, 0)) from blk_alloc (blk_new w _) _)
  have HG2 := Lib.hid (show ((w.alloc (.cells #[.slice A na ca] 29)).alloc (.cells #[.slice B nb cb] 29)).heap[w.heap.size + 1]? = some (.cells #[.slice B nb cb] 29 (0, 0)) from heap_alloc2_new _ _ _)
  have HT1 := Lib.hid ((HT.out.below (below_alloc (Below.refl _ _) (.cells #[.slice A na ca] 29))).below (below_alloc (Below.refl _ _) (.cells #[.slice B nb cb] 29)))
  obtain ⟨w1, hw1⟩ : ∃ w1, (w.alloc (.cells #[.slice A na ca] 29)).alloc (.cells #[.slice B nb cb] 29) = w1 := ⟨_, rfl⟩
  rw [hw1] at HG1 HG2 HT1
  rw [hw1]
  clear hw1 HT
  obtain ⟨G, hG⟩ : ∃ G, w.heap.size = G := ⟨_, rfl⟩
  obtain ⟨G2, hG2⟩ : ∃ G2, w.heap.size + 1 = G2 := ⟨_, rfl⟩
  rw [hG2] at HG2
  rw [hG] at HG1
  rw [hG2, hG]
  clear hG2 hG
  have KB := Lib.hid (show ∀ w0 w', Below w0.heap.size w0 w' → (fun W' => W'.cell? ⟨G, 0, none⟩ = some (.slice A na ca) ∧ W'.cell? ⟨G2, 0, none⟩ = some (.slice B nb cb) ∧ Hid (ToldAt w W' A a B b L l)) w0 → (fun W' => W'.cell? ⟨G, 0, none⟩ = some (.slice A na ca) ∧ W'.cell? ⟨G2, 0, none⟩ = some (.slice B nb cb) ∧ Hid (ToldAt w W' A a B b L l)) w' from by
    rintro w0 w' hb ⟨a1, a2, a3⟩
    exact ⟨pw_cell_below hb a1, pw_cell_below hb a2, Lib.hid (a3.out.below hb)⟩)
  have SH := KB.out w1 w1.drew (Below.drew (Below.refl _ _)) ⟨cell_of_row _ _ 0 _ _ _ HG1.out, cell_of_row _ _ 0 _ _ _ HG2.out, HT1⟩
  clear HG1 HG2 HT1
  have KA := Lib.hid (show ∀ W, (fun W' => W'.cell? ⟨G, 0, none⟩ = some (.slice A na ca) ∧ W'.cell? ⟨G2, 0, none⟩ = some (.slice B nb cb) ∧ Hid (ToldAt w W' A a B b L l)) W → ToldAt w W A a B b L l from fun W h => h.2.2.out)
  go_region_held3 (fun W' => W'.cell? ⟨G, 0, none⟩ = some (.slice A na ca) ∧ W'.cell? ⟨G2, 0, none⟩ = some (.slice B nb cb) ∧ Hid (ToldAt w W' A a B b L l)) (first | assumption | exact KB.out _ _ (by assumption) (by assumption))
    (first
      | (go_at_call 25; first | ((with_reducible refine (HSA.out _ (KA.out _ (by assumption))).mono ?_); rintro e w' ⟨rfl, hd⟩) | ((with_reducible refine (HSB.out _ (KA.out _ (by assumption))).mono ?_); rintro e w' ⟨rfl, hd⟩))
      | (go_at_call 26; (with_reducible refine (HFW.out _ (KA.out _ (by assumption))).mono ?_); rintro e w' ⟨R, c, rfl, hc, hC, hd⟩)
      | (go_at_call 24; (with_reducible refine (HAL.out _ _ _ (KA.out _ (by assumption)) (by assumption) (by first | assumption | exact Kd.C_below (by assumption) (by assumption) | exact Kd.C_below (Kd.C_below (by assumption) (by assumption)) (by assumption))).mono ?_); rintro e w' ⟨rfl, hd⟩)
      | (go_at_call 8; (with_reducible refine (works_calls _).mono ?_); rintro e w' ⟨rfl, hd⟩))
  all_goals
    rename_i hH
    go_wp2_with fail
    go_ret
    exact ⟨rfl, hH.2.2.out.bel⟩
end Go.Proofs.Yteojldbfebnccaa
namespace Go.Proofs.Yteojldbfebnccaa.remapTold
open Go.ChangeShapes Go.WideShapes Go.ChangeAt Go.RowKit
open Go.ChangeMaps (open_string shut_string)
set_option linter.unusedVariables false
theorem own : ownKnob Try.prog.godebug = none := by kernel_rfl
theorem laidOut : laidOutB Try.prog = true := by kernel_rfl
set_option maxRecDepth 100000 in
theorem lifted (os : Os) (started : os.Started) (H : Type) (enc : TypeId × Value → H) :
    ReturnsInHanded {} Try.checked os 6 .any (Rows.remapToldSpec.pre6 enc Try.prog Try.f6 Rows.remapToldRow.domain false) (Rows.remapToldSpec.post enc Try.prog Try.f6 false true false false) := by
  refine returnsInHanded_of_change_sized (C := Try.checked) own started (by kernel_rfl) Try.func6
    (ChangeSpec.witness6 (enc := enc) (C := Try.checked) false ⟨#[], #[.agg #[.slice none 0 0], .agg #[.slice none 0 0], .slice none 0 0], []⟩ 8 (by kernel_rfl) (by kernel_rfl) (by kernel_rfl) (by kernel_rfl)) ?_
  intro W base args ds gs before hval0 hW hcnd hsz0 _
  have hval : ∀ (j : Nat) t v, Try.f6.params[j]? = some t → args[j]? = some v → Value.okWide Try.prog W .any base t v := hval0
  have hW' := hW
  obtain ⟨p, q, hA0, hV, rfl, hfz, hnd⟩ := hW
  have hA : DataW.TrodAll enc Try.prog W 0 (fun _ => true) true Try.f6.params.toList args.toList ds p := hA0
  rw [Try.params6] at hA hval
  obtain ⟨v0, vs0, d0, ds0, p0, q0, hargs, rfl, rfl, h0, r0⟩ := trodAll_cons hA
  obtain ⟨v1, vs1, d1, ds1, p1, q1, rfl, rfl, rfl, h1, r1⟩ := trodAll_cons r0
  obtain ⟨v2, vs2, d2, ds2, p2, q2, rfl, rfl, rfl, h2, r2⟩ := trodAll_cons r1
  obtain ⟨rfl, rfl, rfl⟩ := trodAll_nil r2
  obtain rfl : args = #[v0, v1, v2] := by cases args; simp_all
  obtain ⟨rfl, rfl⟩ := trodVars_none hV
  obtain ⟨a2, len2, cap2, rfl⟩ := okWide_slice Try.underlying32 (hval 2 32 v2 rfl rfl)
  have k0 := h0
  have k1 := h1
  have k2 := h2
  have lt0 : ∀ x ∈ p0, x.block < W.heap.size := by obtain ⟨m, hm⟩ := k0; exact DataW.trod_lt m _ _ _ hm
  have lt1 : ∀ x ∈ p1, x.block < W.heap.size := by obtain ⟨m, hm⟩ := k1; exact DataW.trod_lt m _ _ _ hm
  have lt2 : ∀ x ∈ p2, x.block < W.heap.size := by obtain ⟨m, hm⟩ := k2; exact DataW.trod_lt m _ _ _ hm
  obtain ⟨A, ca, a, rfl, hca, hA', ha⟩ := hall_C (hval 0 29 v0 rfl rfl) h0
  obtain ⟨B, cb, b, rfl, hcb, hB', hb⟩ := hall_C (hval 1 29 v1 rfl rfl) h1
  obtain ⟨l2, hl2, hc2, hr2⟩ := moves_C h2
  clear hA0 hval0 hsz0
  subst hl2
  refine (told_calls A ca a B cb b a2 cap2 l2 W hA' hca ha hB' hcb hb hr2 hc2).mono fun e W' ⟨he, bel⟩ => ?_
  subst he
  exact ⟨_, rfl, _, _, _, [], _, [], hW', trodAll_mk1 (shut_bool Try.underlying4 _), (trodAll_cons_mk (Below.trod laidOut (by kernel_rfl) (of_decide_eq_true (by kernel_rfl)) k0 bel lt0) (trodAll_cons_mk (Below.trod laidOut (by kernel_rfl) (of_decide_eq_true (by kernel_rfl)) k1 bel lt1) (trodAll_cons_mk (Below.trod laidOut (by kernel_rfl) (of_decide_eq_true (by kernel_rfl)) k2 bel lt2) trodAll_mk0))), rfl, bel.frame _, fun h => by cases h⟩
theorem over : Rows.remapToldRow.holds Try.pinned (OpenSpec.ofChange Rows.remapToldSpec) :=
  OpenClaim.holds_of_wide 6 Try.f6 rfl rfl rfl rfl rfl rfl rfl ⟨rfl, rfl, rfl, rfl, rfl⟩ rfl rfl rfl rfl rfl (by kernel_rfl) Try.func6 (by kernel_rfl)
    (of_decide_eq_true (by kernel_rfl)) (by unfold Func.isWrapper; first | (rw [if_pos (by decide +kernel)]; kernel_rfl) | (rw [if_neg (by decide +kernel)]; exact ⟨rfl, rfl⟩))
    (fun os started H enc _ => lifted os started H enc)
theorem proved : Rows.RemapToldSaid := over
#print axioms proved
end Go.Proofs.Yteojldbfebnccaa.remapTold
namespace Go.Proofs.Yteojldbfebnccaa
/-- The row, under a short name, for the claim. -/
theorem remapTold_holds : Rows.RemapToldSaid := remapTold.proved
end Go.Proofs.Yteojldbfebnccaa
