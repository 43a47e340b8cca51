/- The document's answers of chapter 19 in plain words; alike answers true. -/
import Derived.Test.YteojldbfebnccaaMorex2
import Derived.Test.YteojldbfebnccaaRSeatP
import Derived.Test.YteojldbfebnccaaBasex
import Derived.Test.YteojldbfebnccaaRAll
import Derived.WalkKit
import Derived.ProofKit
import Derived.OpenShut
import Derived.ShutString
import Derived.ChangeOld
import Derived.Below
import Derived.SizedLaws
import Derived.Carry
import Derived.Deep.Slices
import Derived.ChangeArms
import Derived.ChangeSame
import Derived.WideShapes
import Derived.KernelRfl
import Derived.Lib.Hide
namespace Go.Proofs.Yteojldbfebnccaa
open Go.RowKit Go.Proofs.YteojldbfebnccaaW.PrintWords Go.Proofs.YteojldbfebnccaaW.PrintLast Go.Proofs.YteojldbfebnccaaW.PrintMore
set_option linter.unusedVariables false
set_option linter.unusedSimpArgs false
set_option maxRecDepth 100000
/-! ### the document's hall -/
theorem bit_all : ∀ m : Fin 256, ∀ k : Fin 8, foyerref18_bit.f 10 (m.val : Int) (k.val : Int) = some (bitB (m.val : Int) k.val) := by decide +kernel
theorem ref_bit {m : Int} (h0 : 0 ≤ m) (h1 : m < 256) {p : Nat} (hp : p < 8) {k : Nat} (hk : 10 ≤ k) : foyerref18_bit.f k m (p : Int) = some (bitB m p) := by
  have h := bit_all ⟨m.toNat, by omega⟩ ⟨p, hp⟩
  have e : ((m.toNat : Nat) : Int) = m := by omega
  simp only [e] at h
  exact LeO.lift (fun k => foyerref18_bit.mono m (p : Int) k) hk h
theorem rd61_mem {l : List S61} {n : Nat} (h : n < l.length) : rd_T61 l (n : Int) ∈ l := List.mem_of_getElem? (rd61 h)
theorem ref_has {l : List S61} (hl : OkRows l) (s : Int) {k : Nat} (hk : 10 ≤ k) : foyerref18_Has.f k l s = some (hasB l s) := by
  unfold foyerref18_Has.f hasB
  by_cases h0 : 0 ≤ s
  · by_cases h1 : s < 64
    · obtain ⟨n, rfl⟩ := Int.eq_ofNat_of_zero_le h0
      have e1 : wrap64 (Int.tdiv (n : Int) 8) = ((n / 8 : Nat) : Int) := by
        rw [Int.tdiv_eq_ediv_of_nonneg (by omega)]
        unfold wrap64
        omega
      have e2 : Int.tmod (n : Int) 8 = ((n % 8 : Nat) : Int) := by
        rw [Int.tmod_eq_emod_of_nonneg (by omega)]
        omega
      rw [if_pos (by omega), if_pos h1, e1, e2, decide_eq_true h0, decide_eq_true h1]
      unfold bitAt
      by_cases h2 : n / 8 < l.length
      · rw [if_pos (by omega), if_pos (by omega)]
        have hm := hl _ (rd61_mem h2)
        rw [ref_bit hm.1 hm.2 (Nat.mod_lt _ (by omega)) hk]
        simp [h2]
      · rw [if_neg (by omega)]
        simp [h2]
    · rw [if_pos h0, if_neg h1]
      simp [h1]
  · rw [if_neg h0]
    simp [h0]
theorem hasB_len {l : List S61} {n : Nat} (h : hasB l (n : Int) = true) : n / 8 < l.length := by
  simp only [hasB, bitAt, Bool.and_eq_true, decide_eq_true_eq] at h
  simpa using h.2.1
theorem ref_class {l : List S61} (hl : OkRows l) (s : Int) {k : Nat} (hk : 10 ≤ k) : foyerref18_Class.f k l s = some (hall_Class.v l s) := by
  unfold foyerref18_Class.f
  rw [ref_has hl s hk, class_eq]
  simp only [Option.bind_some]
  by_cases h : hasB l s = true
  · rw [if_pos h, if_pos h]
    have h0 : 0 ≤ s ∧ s < 64 := by
      simp only [hasB, Bool.and_eq_true, decide_eq_true_eq] at h
      exact h.1
    obtain ⟨n, rfl⟩ := Int.eq_ofNat_of_zero_le h0.1
    have e1 : wrap64 (Int.tdiv (n : Int) 8) = ((n / 8 : Nat) : Int) := by
      rw [Int.tdiv_eq_ediv_of_nonneg (by omega)]
      unfold wrap64
      omega
    have := hasB_len h
    rw [e1, if_pos (by omega), if_pos (by omega)]
    simp [clsAt]
  · rw [if_neg h, if_neg h]
theorem ref_seats_go {l : List S61} (hl : OkRows l) : ∀ (m n : Nat) (acc : List Int) (k : Nat), n + m = 64 → acc.length ≤ n → m + 11 ≤ k → foyerref18_Seats.l0 k acc (n : Int) l = some (acc ++ ((List.range' n m).filter (bitAt l)).map fun s : Nat => (s : Int))
  | 0, n, acc, k, hn, ha, hk => by
    obtain ⟨k, rfl⟩ : ∃ j, k = j + 1 := ⟨k - 1, by omega⟩
    unfold foyerref18_Seats.l0
    rw [if_neg (by omega)]
    simp
  | m + 1, n, acc, k, hn, ha, hk => by
    obtain ⟨k, rfl⟩ : ∃ j, k = j + 1 := ⟨k - 1, by omega⟩
    unfold foyerref18_Seats.l0
    rw [if_pos (by omega), ref_has hl _ (by omega), w64 (by omega)]
    have hb : hasB l (n : Int) = bitAt l n := by
      unfold hasB
      rw [decide_eq_true (by omega), decide_eq_true (by omega)]
      simp
    rw [hb]
    simp only [Option.bind_some]
    rw [List.range'_succ]
    cases hc : bitAt l n with
    | true =>
      rw [if_pos rfl, if_pos (by omega), ref_seats_go hl m (n + 1) _ k (by omega) (by simp; omega) (by omega)]
      simp [hc]
    | false =>
      rw [if_neg (by simp), ref_seats_go hl m (n + 1) _ k (by omega) (by omega) (by omega)]
      simp [hc]
theorem ref_seats {l : List S61} (hl : OkRows l) {k : Nat} (hk : 80 ≤ k) : foyerref18_Seats.f k l = some (seatsI l) := by
  unfold foyerref18_Seats.f
  have := ref_seats_go hl 64 0 [] k rfl (Nat.le_refl _) (by omega)
  rw [show foyerref18_Seats.l0 k [] 0 l = _ from this, seatsI_eq, List.range_eq_range']
  simp
theorem ref_check_go {l : List S61} (hl : l.length ≤ 1000) : ∀ (m n : Nat) (k : Nat), n + m = l.length → m + 1 ≤ k → foyerref18_Check.l0 k (n : Int) l = some (if (l.drop n).all okRow then 0 else 23)
  | 0, n, k, hn, hk => by
    obtain ⟨k, rfl⟩ : ∃ j, k = j + 1 := ⟨k - 1, by omega⟩
    unfold foyerref18_Check.l0
    rw [if_neg (by omega), List.drop_of_length_le (by omega)]
    rfl
  | m + 1, n, k, hn, hk => by
    obtain ⟨k, rfl⟩ : ∃ j, k = j + 1 := ⟨k - 1, by omega⟩
    have hd : l.drop n = rd_T61 l (n : Int) :: l.drop (n + 1) := by
      have h1 := rd61 (l := l) (i := n) (by omega)
      rw [List.getElem?_eq_getElem (by omega)] at h1
      rw [List.drop_eq_getElem_cons (by omega), Option.some.inj h1]
    unfold foyerref18_Check.l0
    rw [if_pos (by omega), if_pos (by omega), w64 (by omega), ref_check_go hl m (n + 1) k (by omega) (by omega), hd]
    generalize rd_T61 l (n : Int) = x
    simp only [List.all_cons]
    by_cases h1 : x.f0 < 0
    · have e : okRow x = false := by unfold okRow; rw [if_neg (by omega)]
      rw [if_pos h1]
      simp [e]
    · rw [if_neg h1]
      by_cases h2 : x.f0 > 2
      · have e : okRow x = false := by unfold okRow; rw [if_pos (by omega), if_neg (by omega)]
        rw [if_pos h2]
        simp [e]
      · rw [if_neg h2]
        by_cases h3 : x.f1 = 0
        · have e : okRow x = false := by unfold okRow; rw [if_pos (by omega), if_pos (by omega)]; simp [h3]
          rw [if_pos h3]
          simp [e]
        · have e : okRow x = true := by unfold okRow; rw [if_pos (by omega), if_pos (by omega)]; simp [h3]
          rw [if_neg h3]
          simp [e]
theorem ref_check (l : List S61) {k : Nat} (hk : 10 ≤ k) : foyerref18_Check.f k l = some (hall_Check.v l) := by
  obtain ⟨k, rfl⟩ : ∃ j, k = j + 1 := ⟨k - 1, by omega⟩
  unfold foyerref18_Check.f hall_Check.v
  by_cases h0 : l.length = 0
  · rw [if_pos (by omega), if_pos (.inl h0)]
    rfl
  · rw [if_neg (by omega)]
    simp only [foyerref18_Check.j0]
    by_cases h8 : 8 < l.length
    · rw [if_pos (by simp; omega), if_pos (.inr h8)]
    · rw [if_neg (by simp; omega), if_neg (by omega)]
      have := ref_check_go (l := l) (by omega) l.length 0 k (by omega) (by omega)
      exact this
/-! ### where seats go -/
theorem drop49 {l : List S49} {n : Nat} (h : n < l.length) : l.drop n = rd_T49 l (n : Int) :: l.drop (n + 1) := by
  have h1 := rd49 (l := l) (i := n) h
  rw [List.getElem?_eq_getElem h] at h1
  rw [List.drop_eq_getElem_cons h, Option.some.inj h1]
theorem ref_to_go {l : List S49} (hl : l.length ≤ 1000) (s : Int) : ∀ (m n k : Nat), n + m = l.length → m + 1 ≤ k → foyerref19_To.l0 k l s (n : Int) = some (remap_To.v (l.drop n) s)
  | 0, n, k, hn, hk => by
    obtain ⟨k, rfl⟩ : ∃ j, k = j + 1 := ⟨k - 1, by omega⟩
    unfold foyerref19_To.l0
    rw [if_neg (by omega), List.drop_of_length_le (by omega)]
    rfl
  | m + 1, n, k, hn, hk => by
    obtain ⟨k, rfl⟩ : ∃ j, k = j + 1 := ⟨k - 1, by omega⟩
    unfold foyerref19_To.l0
    rw [if_pos (by omega), if_pos (by omega), w64 (by omega), ref_to_go hl s m (n + 1) k (by omega) (by omega), drop49 (by omega : n < l.length)]
    generalize rd_T49 l (n : Int) = x
    unfold remap_To.v
    rw [List.find?_cons]
    by_cases h : x.f0 = s
    · rw [if_pos h, show p41 s x = true by simp [p41, h]]
    · rw [if_neg h, show p41 s x = false by simp [p41, h]]
theorem ref_to {l : List S49} (hl : l.length ≤ 1000) (s : Int) {k : Nat} (hk : l.length + 1 ≤ k) : foyerref19_To.f k l s = some (remap_To.v l s) := by
  have := ref_to_go hl s l.length 0 k (by omega) hk
  exact this
theorem ref_from_go {l : List S49} (hl : l.length ≤ 1000) (s : Int) : ∀ (m n k : Nat), n + m = l.length → m + 1 ≤ k → foyerref19_From.l0 k l s (n : Int) = some (remap_From.v (l.drop n) s)
  | 0, n, k, hn, hk => by
    obtain ⟨k, rfl⟩ : ∃ j, k = j + 1 := ⟨k - 1, by omega⟩
    unfold foyerref19_From.l0
    rw [if_neg (by omega), List.drop_of_length_le (by omega)]
    rfl
  | m + 1, n, k, hn, hk => by
    obtain ⟨k, rfl⟩ : ∃ j, k = j + 1 := ⟨k - 1, by omega⟩
    unfold foyerref19_From.l0
    rw [if_pos (by omega), if_pos (by omega), w64 (by omega), ref_from_go hl s m (n + 1) k (by omega) (by omega), drop49 (by omega : n < l.length)]
    generalize rd_T49 l (n : Int) = x
    unfold remap_From.v
    rw [List.find?_cons]
    by_cases h : x.f1 = s
    · rw [if_pos h, show p42 s x = true by simp [p42, h]]
    · rw [if_neg h, show p42 s x = false by simp [p42, h]]
theorem ref_from {l : List S49} (hl : l.length ≤ 1000) (s : Int) {k : Nat} (hk : l.length + 1 ≤ k) : foyerref19_From.f k l s = some (remap_From.v l s) := by
  have := ref_from_go hl s l.length 0 k (by omega) hk
  exact this
theorem to_snd (l : List S49) (s : Int) : (remap_To.v l s).2 = l.any fun x => nm38 x == s := by
  unfold remap_To.v
  cases h : l.find? (p41 s) with
  | none =>
    rw [List.find?_eq_none] at h
    symm
    rw [List.any_eq_false]
    exact fun x hx => h x hx
  | some x =>
    symm
    rw [List.any_eq_true]
    exact ⟨x, List.mem_of_find?_eq_some h, List.find?_some (p := p41 s) h⟩
theorem from_snd (l : List S49) (s : Int) : (remap_From.v l s).2 = l.any fun x => nm39 x == s := by
  unfold remap_From.v
  cases h : l.find? (p42 s) with
  | none =>
    rw [List.find?_eq_none] at h
    symm
    rw [List.any_eq_false]
    exact fun x hx => h x hx
  | some x =>
    symm
    rw [List.any_eq_true]
    exact ⟨x, List.mem_of_find?_eq_some h, List.find?_some (p := p42 s) h⟩
theorem rdI {l : List Int} {n : Nat} (h : n < l.length) : l.drop n = rd l (n : Int) :: l.drop (n + 1) := by
  rw [List.drop_eq_getElem_cons h]
  unfold rd
  simp [List.getD_eq_getElem?_getD, List.getElem?_eq_getElem h]
theorem ref_lost_go {l : List S49} (hl : l.length ≤ 1000) {all : List Int} (ha : all.length ≤ 1000) : ∀ (m n : Nat) (acc : List Int) (k : Nat), n + m = all.length → acc.length ≤ n → m + l.length + 3 ≤ k → foyerref19_Lost.l0 k l acc all (n : Int) = some (acc ++ (all.drop n).filter fun s => !(l.any fun x => nm38 x == s))
  | 0, n, acc, k, hn, hc, hk => by
    obtain ⟨k, rfl⟩ : ∃ j, k = j + 1 := ⟨k - 1, by omega⟩
    unfold foyerref19_Lost.l0
    rw [if_neg (by omega), List.drop_of_length_le (by omega)]
    simp
  | m + 1, n, acc, k, hn, hc, hk => by
    obtain ⟨k, rfl⟩ : ∃ j, k = j + 1 := ⟨k - 1, by omega⟩
    unfold foyerref19_Lost.l0
    rw [if_pos (by omega), if_pos (by omega), ref_to hl _ (by omega), w64 (by omega), rdI (by omega : n < all.length)]
    generalize rd all (n : Int) = s
    simp only [Option.bind_some, to_snd]
    rw [List.filter_cons]
    cases h : l.any fun x => nm38 x == s with
    | true =>
      rw [if_pos rfl, ref_lost_go hl ha m (n + 1) acc k (by omega) (by omega) (by omega)]
      simp
    | false =>
      rw [if_neg (by simp), if_pos (by omega), ref_lost_go hl ha m (n + 1) _ k (by omega) (by simp; omega) (by omega)]
      simp
theorem ref_new_go {l : List S49} (hl : l.length ≤ 1000) {all : List Int} (ha : all.length ≤ 1000) : ∀ (m n : Nat) (acc : List Int) (k : Nat), n + m = all.length → acc.length ≤ n → m + l.length + 3 ≤ k → foyerref19_New.l0 k l acc all (n : Int) = some (acc ++ (all.drop n).filter fun s => !(l.any fun x => nm39 x == s))
  | 0, n, acc, k, hn, hc, hk => by
    obtain ⟨k, rfl⟩ : ∃ j, k = j + 1 := ⟨k - 1, by omega⟩
    unfold foyerref19_New.l0
    rw [if_neg (by omega), List.drop_of_length_le (by omega)]
    simp
  | m + 1, n, acc, k, hn, hc, hk => by
    obtain ⟨k, rfl⟩ : ∃ j, k = j + 1 := ⟨k - 1, by omega⟩
    unfold foyerref19_New.l0
    rw [if_pos (by omega), if_pos (by omega), ref_from hl _ (by omega), w64 (by omega), rdI (by omega : n < all.length)]
    generalize rd all (n : Int) = s
    simp only [Option.bind_some, from_snd]
    rw [List.filter_cons]
    cases h : l.any fun x => nm39 x == s with
    | true =>
      rw [if_pos rfl, ref_new_go hl ha m (n + 1) acc k (by omega) (by omega) (by omega)]
      simp
    | false =>
      rw [if_neg (by simp), if_pos (by omega), ref_new_go hl ha m (n + 1) _ k (by omega) (by simp; omega) (by omega)]
      simp
theorem seatsI_len (l : List S61) : (seatsI l).length ≤ 64 := by
  unfold seatsI
  rw [List.length_map]
  exact seatsL_len l
theorem ref_lost {r : List S61} (hr : OkRows r) {l : List S49} (hl : l.length ≤ 1000) {k : Nat} (hk : l.length + 100 ≤ k) : foyerref19_Lost.f k r l = some (remap_Lost.v r l) := by
  unfold foyerref19_Lost.f
  have h64 := seatsI_len r
  rw [ref_seats hr (by omega)]
  have := ref_lost_go hl (all := seatsI r) (by omega) (seatsI r).length 0 [] k (by omega) (Nat.le_refl _) (by omega)
  exact this
theorem ref_new {r : List S61} (hr : OkRows r) {l : List S49} (hl : l.length ≤ 1000) {k : Nat} (hk : l.length + 100 ≤ k) : foyerref19_New.f k r l = some (remap_New.v r l) := by
  unfold foyerref19_New.f
  have h64 := seatsI_len r
  rw [ref_seats hr (by omega)]
  have := ref_new_go hl (all := seatsI r) (by omega) (seatsI r).length 0 [] k (by omega) (Nat.le_refl _) (by omega)
  exact this
/-! ### back -/
theorem layIn_nil (x : S49) : layIn [] x = [x] := rfl
theorem layIn_go {x y : S49} {S : List S49} (h : y.f0 ≤ x.f0) : layIn (y :: S) x = y :: layIn S x := by
  unfold layIn
  simp [List.takeWhile_cons, List.dropWhile_cons, h]
theorem layIn_stop {x y : S49} {S : List S49} (h : ¬ y.f0 ≤ x.f0) : layIn (y :: S) x = x :: y :: S := by
  unfold layIn
  simp [List.takeWhile_cons, List.dropWhile_cons, h]
theorem rd_mid (P : List S49) (y : S49) (S : List S49) : rd_T49 (P ++ y :: S) (P.length : Int) = y := by
  unfold rd_T49
  simp [List.getD_eq_getElem?_getD]
theorem ref_lay (l : List S49) (i : Nat) (a b : Int) : ∀ (S P : List S49), P.length + S.length ≤ 1000 → i ≤ 1000 → ∃ t, ∀ k, foyerref19_Back.l1 (k + t + 1) l (P ++ S) (i : Int) (P.length : Int) a b = foyerref19_Back.l0 k l (P ++ layIn S ⟨a, b⟩) ((i + 1 : Nat) : Int)
  | [], P, hl, hi => by
    refine ⟨0, fun k => ?_⟩
    unfold foyerref19_Back.l1
    rw [if_neg (by simp), if_pos (by omega), if_pos (by simp)]
    have e1 : (P ++ ([] : List S49)).take (P.length : Int).toNat = P := by simp
    have e2 : (P ++ ([] : List S49)).drop (P.length : Int).toNat = [] := by simp
    have hl' : P.length ≤ 1000 := by simpa using hl
    rw [e1, e2, w64 (by omega)]
    simp only [Option.bind_some, List.nil_append, List.length_nil, Nat.zero_add]
    rw [if_pos (by omega), if_pos (by omega)]
    rw [if_pos (by simp; omega)]
    simp [layIn_nil]
  | y :: S, P, hl, hi => by
    by_cases h : y.f0 ≤ a
    · obtain ⟨t, ht⟩ := ref_lay l i a b S (P ++ [y]) (by simp at hl ⊢; omega) hi
      refine ⟨t + 1, fun k => ?_⟩
      have hk := ht k
      rw [show k + (t + 1) + 1 = (k + t + 1) + 1 by omega]
      conv => lhs; unfold foyerref19_Back.l1
      have hl' : P.length ≤ 1000 := by simp at hl; omega
      rw [if_pos (by simp; omega), if_pos (by omega), rd_mid, if_pos h, w64 (by omega), layIn_go h]
      have e1 : (P ++ [y]).length = P.length + 1 := by simp
      rw [e1, List.append_assoc, List.append_assoc] at hk
      exact hk
    · refine ⟨0, fun k => ?_⟩
      unfold foyerref19_Back.l1
      have hl' : P.length + S.length + 1 ≤ 1000 := by simp at hl; omega
      rw [if_pos (by simp; omega), if_pos (by omega), rd_mid, if_neg h, if_pos (by simp; omega)]
      have e1 : (P ++ y :: S).take (P.length : Int).toNat = P := by simp
      have e2 : (P ++ y :: S).drop (P.length : Int).toNat = y :: S := by simp
      rw [e1, e2, w64 (by omega), layIn_stop h]
      simp only [Option.bind_some, List.nil_append, List.length_nil, Nat.zero_add]
      rw [if_pos (by omega), if_pos (by omega)]
      rw [if_pos (by simp; omega)]
      simp
theorem layIn_len (l : List S49) (x : S49) : (layIn l x).length = l.length + 1 := by
  unfold layIn
  have := congrArg List.length (List.takeWhile_append_dropWhile (p := fun y : S49 => decide (y.f0 ≤ x.f0)) (l := l))
  rw [List.length_append] at this
  simp
  omega
theorem stab_len : ∀ (n : Nat) (l : List S49), l.length = n → (stab l).length = n
  | 0, l, h => by
    obtain rfl := List.length_eq_zero_iff.1 h
    rfl
  | n + 1, l, h => by
    obtain ⟨r, x, rfl⟩ : ∃ r x, l = r ++ [x] := ⟨l.dropLast, l.getLast (by intro e; subst e; simp at h), (List.dropLast_concat_getLast _).symm⟩
    rw [stab_snoc, layIn_len, stab_len n r (by simp at h; exact h)]
theorem ref_back_go {l : List S49} (hl : l.length ≤ 900) : ∀ (m i : Nat), i + m = l.length → ∃ K, foyerref19_Back.l0 K l (stab ((l.take i).map trn)) (i : Int) = some (stab (l.map trn))
  | 0, i, hi => by
    refine ⟨1, ?_⟩
    unfold foyerref19_Back.l0
    rw [if_neg (by omega), List.take_of_length_le (by omega)]
  | m + 1, i, hi => by
    obtain ⟨K, hK⟩ := ref_back_go hl m (i + 1) (by omega)
    have hs := stab_len i ((l.take i).map trn) (by simp; omega)
    have hx := rd49 (l := l) (i := i) (by omega)
    obtain ⟨t, ht⟩ := ref_lay l i (rd_T49 l (i : Int)).f1 (rd_T49 l (i : Int)).f0 (stab ((l.take i).map trn)) [] (by rw [hs]; simp; omega) (by omega)
    refine ⟨K + t + 1 + 1, ?_⟩
    unfold foyerref19_Back.l0
    rw [if_pos (by omega), if_pos (by omega)]
    have := ht K
    simp only [List.nil_append, List.length_nil] at this
    rw [show ((0 : Nat) : Int) = 0 from rfl] at this
    rw [this, ← hK]
    have e : l.take (i + 1) = l.take i ++ [rd_T49 l (i : Int)] := by
      rw [List.take_add_one, hx]
      rfl
    rw [e, List.map_append, List.map_cons, List.map_nil, stab_snoc]
    rfl
theorem ref_back {l : List S49} (hl : l.length ≤ 900) : ∃ K, foyerref19_Back.f K l = some (remap_Back.v l) := by
  obtain ⟨K, hK⟩ := ref_back_go hl l.length 0 (by omega)
  exact ⟨K, hK⟩
/-! ### are moves right? -/
theorem ref_hit {l : List S49} (hl : l.length ≤ 1000) (ra rb : List S61) (i : Nat) (hi : i ≤ l.length) (a b : Int) : ∀ (m j k : Nat), j + m = i → m + 1 ≤ k → (∃ p, j ≤ p ∧ p < i ∧ (rd_T49 l (p : Int)).f1 = b) → foyerref19_Check.l1 k l (i : Int) (j : Int) ra rb a b = some ((i : Int), 24)
  | 0, j, k, hj, hk, hp => by
    obtain ⟨p, h1, h2, _⟩ := hp
    omega
  | m + 1, j, k, hj, hk, hp => by
    obtain ⟨k, rfl⟩ : ∃ j, k = j + 1 := ⟨k - 1, by omega⟩
    unfold foyerref19_Check.l1
    rw [if_pos (by omega), if_pos (by omega), if_pos (by omega)]
    by_cases h : (rd_T49 l (j : Int)).f1 = b
    · rw [if_pos h]
    · rw [if_neg h, w64 (by omega)]
      refine ref_hit hl ra rb i hi a b m (j + 1) k (by omega) (by omega) ?_
      obtain ⟨p, h1, h2, h3⟩ := hp
      refine ⟨p, ?_, h2, h3⟩
      rcases Nat.lt_or_ge j p with h4 | h4
      · exact h4
      · obtain rfl : p = j := by omega
        exact absurd h3 h
theorem ref_miss {l : List S49} (hl : l.length ≤ 1000) (ra rb : List S61) (i : Nat) (hi : i ≤ l.length) (a b : Int) : ∀ (m j k : Nat), j + m = i → (∀ p, j ≤ p → p < i → (rd_T49 l (p : Int)).f1 ≠ b) → foyerref19_Check.l1 (k + m) l (i : Int) (j : Int) ra rb a b = foyerref19_Check.l1 k l (i : Int) (i : Int) ra rb a b
  | 0, j, k, hj, hp => by
    obtain rfl : j = i := by omega
    rfl
  | m + 1, j, k, hj, hp => by
    rw [show k + (m + 1) = (k + m) + 1 by omega]
    conv => lhs; unfold foyerref19_Check.l1
    rw [if_pos (by omega), if_pos (by omega), if_pos (by omega), if_neg (hp j (Nat.le_refl _) (by omega)), w64 (by omega)]
    exact ref_miss hl ra rb i hi a b m (j + 1) k (by omega) fun p h1 h2 => hp p (by omega) h2
theorem ref_chk_go {ra rb : List S61} (hra : OkRows ra) (hrb : OkRows rb) {l : List S49} (hl : l.length ≤ 900) : ∀ (m i : Nat) (f : Nat → Bool), i + m = l.length → (∀ j, j < 64 → f j = (l.take i).any fun x => x.f1 == (j : Int)) → ∃ K, foyerref19_Check.l0 K l (i : Int) ra rb = some (chk ra rb l (l.drop i) i f)
  | 0, i, f, hi, hf => by
    refine ⟨1, ?_⟩
    unfold foyerref19_Check.l0
    rw [if_neg (by omega), List.drop_of_length_le (by omega)]
    rfl
  | m + 1, i, f, hi, hf => by
    have hx := rd49 (l := l) (i := i) (by omega)
    have hj2 : ∀ k, foyerref19_Check.l0 (k + 1) l (i : Int) ra rb = foyerref19_Check.j2 k l (i : Int) (!risesAt l i) ra rb (rd_T49 l (i : Int)).f0 (rd_T49 l (i : Int)).f1 := by
      intro k
      conv => lhs; unfold foyerref19_Check.l0
      rw [if_pos (by omega), if_pos (by omega)]
      unfold risesAt
      by_cases h0 : i = 0
      · rw [if_neg (by omega), if_pos h0]
        rfl
      · rw [if_pos (by omega), if_neg h0]
        have e : wrap64 ((i : Int) - 1) = ((i - 1 : Nat) : Int) := by unfold wrap64; omega
        rw [e, if_pos (by omega), if_pos (by omega)]
        congr 1
        rw [← decide_not]
        apply decide_eq_decide.2
        omega
    rw [drop49 (by omega : i < l.length)]
    generalize hxx : rd_T49 l (i : Int) = x at *
    unfold chk
    by_cases h1 : risesAt l i = false
    · refine ⟨2, ?_⟩
      rw [hj2, if_pos h1, h1]
      unfold foyerref19_Check.j2
      rfl
    · have h1' : risesAt l i = true := by simpa using h1
      rw [if_neg h1]
      have hj3 : ∀ k, 10 ≤ k → foyerref19_Check.l0 (k + 2) l (i : Int) ra rb = foyerref19_Check.j3 k l (i : Int) (!thereAt ra rb x) ra rb x.f0 x.f1 := by
        intro k hk
        rw [hj2, h1']
        unfold foyerref19_Check.j2
        rw [if_neg (by simp), ref_has hra _ hk, ref_has hrb _ hk]
        simp only [Option.bind_some, thereAt, has_eq]
        cases hasB ra x.f0 <;> simp
      by_cases h2 : thereAt ra rb x = false
      · refine ⟨13, ?_⟩
        rw [hj3 11 (by omega), if_pos h2, h2]
        unfold foyerref19_Check.j3
        rfl
      · have h2' : thereAt ra rb x = true := by simpa using h2
        rw [if_neg h2]
        have hl1 : ∀ k, 10 ≤ k → foyerref19_Check.l0 (k + 3) l (i : Int) ra rb = foyerref19_Check.l1 k l (i : Int) ((0 : Nat) : Int) ra rb x.f0 x.f1 := by
          intro k hk
          rw [hj3 (k + 1) (by omega), h2']
          unfold foyerref19_Check.j3
          rfl
        have hr := there_range h2'
        have hfx := hf x.f1.toNat (by omega)
        have ex : ((x.f1.toNat : Nat) : Int) = x.f1 := by omega
        rw [ex] at hfx
        by_cases h3 : f x.f1.toNat = true
        · rw [if_pos h3]
          refine ⟨i + 20 + 3, ?_⟩
          rw [hl1 _ (by omega)]
          rw [h3] at hfx
          obtain ⟨y, hy, hyx⟩ := List.any_eq_true.1 hfx.symm
          obtain ⟨p, hp, rfl⟩ := List.mem_iff_getElem.1 hy
          have hp' : p < i := by
            rw [List.length_take] at hp
            omega
          refine ref_hit (by omega) ra rb i (by omega) _ _ i 0 _ (by omega) (by omega) ⟨p, Nat.zero_le _, hp', ?_⟩
          have hq := rd49 (l := l) (i := p) (by omega)
          rw [List.getElem?_eq_getElem (by omega)] at hq
          rw [← Option.some.inj hq]
          rw [List.getElem_take] at hyx
          simpa using hyx
        · rw [if_neg h3]
          have h3' : f x.f1.toNat = false := by simpa using h3
          have hmiss : ∀ p, 0 ≤ p → p < i → (rd_T49 l (p : Int)).f1 ≠ x.f1 := by
            intro p _ hp e
            have hq := rd49 (l := l) (i := p) (by omega)
            rw [h3'] at hfx
            have := List.any_eq_false.1 hfx.symm (rd_T49 l (p : Int)) (List.mem_of_getElem? (i := p) (by rw [List.getElem?_take, if_pos hp, hq]))
            simp [e] at this
          obtain ⟨K, hK⟩ := ref_chk_go hra hrb hl m (i + 1) (mark f x.f1.toNat) (by omega) (by
            intro j hj
            rw [List.take_add_one, hx, List.any_append, ← hf j hj]
            unfold mark
            simp only [Option.toList_some, List.any_cons, List.any_nil, Bool.or_false]
            by_cases hje : j = x.f1.toNat
            · rw [if_pos hje]
              have : (x.f1 == (j : Int)) = true := by rw [beq_iff_eq]; omega
              rw [this, Bool.or_true]
            · rw [if_neg hje]
              have : (x.f1 == (j : Int)) = false := by rw [beq_eq_false_iff_ne]; omega
              rw [this, Bool.or_false])
          have hK' := LeO.lift (fun k => (foyerref19_Check.mono_l k).2.1 l ((i + 1 : Nat) : Int) ra rb) (Nat.le_add_right K 12) hK
          have hcls : ∀ k, 10 ≤ k → foyerref19_Check.l1 (k + 1) l (i : Int) (i : Int) ra rb x.f0 x.f1 = if alikeAt ra rb x = true then foyerref19_Check.l0 k l ((i + 1 : Nat) : Int) ra rb else some ((i : Int), 20) := by
            intro k hk
            conv => lhs; unfold foyerref19_Check.l1
            rw [if_neg (by omega), ref_class hra _ hk, ref_class hrb _ hk, w64 (by omega)]
            simp only [Option.bind_some, alikeAt, beq_iff_eq]
          refine ⟨(K + 12) + 1 + i + 3, ?_⟩
          rw [hl1 _ (by omega), ref_miss (by omega) ra rb i (by omega) x.f0 x.f1 i 0 _ (by omega) hmiss, hcls _ (by omega), hK']
          by_cases h4 : alikeAt ra rb x = false
          · rw [if_neg (by simp [h4]), if_pos h4]
          · rw [if_pos (by simpa using h4), if_neg h4]
theorem ref_chk {ra rb : List S61} (hra : OkRows ra) (hrb : OkRows rb) {l : List S49} (hl : l.length ≤ 900) : ∃ K, foyerref19_Check.f K ra rb l = some (remap_Check.v ra rb l) := by
  obtain ⟨K, hK⟩ := ref_chk_go hra hrb hl l.length 0 (fun _ => false) (by omega) (by intro j _; simp)
  have hK' := LeO.lift (fun k => (foyerref19_Check.mono_l k).2.1 l 0 ra rb) (Nat.le_add_right K 12) hK
  refine ⟨K + 12 + 1, ?_⟩
  unfold foyerref19_Check.f remap_Check.v
  rw [ref_check ra (by omega), ref_check rb (by omega)]
  simp only [Option.bind_some, foyerref19_Check.j0]
  by_cases h1 : hall_Check.v ra = 0
  · rw [if_pos h1]
    by_cases h2 : hall_Check.v rb = 0
    · rw [if_neg (by simp [h2]), if_neg (by simp [h1, h2]), hK']
      rfl
    · rw [if_pos (by simp [h2]), if_pos (.inr h2)]
  · rw [if_neg h1, if_pos trivial, if_pos (.inl h1)]
/-! ### lists alike -/
theorem ints_go {l : List Int} (hl : l.length ≤ 1000) : ∀ (m n k : Nat), n + m = l.length → m + 1 ≤ k → foyerlaw19_ints.l0 k l l (n : Int) = some true
  | 0, n, k, hn, hk => by
    obtain ⟨k, rfl⟩ : ∃ j, k = j + 1 := ⟨k - 1, by omega⟩
    unfold foyerlaw19_ints.l0
    rw [if_neg (by omega)]
  | m + 1, n, k, hn, hk => by
    obtain ⟨k, rfl⟩ : ∃ j, k = j + 1 := ⟨k - 1, by omega⟩
    unfold foyerlaw19_ints.l0
    rw [if_pos (by omega), if_pos (by omega), if_pos (by omega), if_pos rfl, w64 (by omega), ints_go hl m (n + 1) k (by omega) (by omega)]
theorem ints_same {l : List Int} (hl : l.length ≤ 1000) {k : Nat} (hk : l.length + 1 ≤ k) : foyerlaw19_ints.f k l l = some true := by
  unfold foyerlaw19_ints.f
  rw [if_pos rfl]
  exact ints_go hl l.length 0 k (by omega) hk
theorem moves_go {l : List S49} (hl : l.length ≤ 1000) : ∀ (m n k : Nat), n + m = l.length → m + 1 ≤ k → foyerlaw19_moves.l0 k l l (n : Int) = some true
  | 0, n, k, hn, hk => by
    obtain ⟨k, rfl⟩ : ∃ j, k = j + 1 := ⟨k - 1, by omega⟩
    unfold foyerlaw19_moves.l0
    rw [if_neg (by omega)]
  | m + 1, n, k, hn, hk => by
    obtain ⟨k, rfl⟩ : ∃ j, k = j + 1 := ⟨k - 1, by omega⟩
    unfold foyerlaw19_moves.l0
    rw [if_pos (by omega), if_pos (by omega), if_pos (by omega), if_neg (by simp), w64 (by omega), moves_go hl m (n + 1) k (by omega) (by omega)]
theorem moves_same {l : List S49} (hl : l.length ≤ 1000) {k : Nat} (hk : l.length + 1 ≤ k) : foyerlaw19_moves.f k l l = some true := by
  unfold foyerlaw19_moves.f
  rw [if_pos rfl]
  exact moves_go hl l.length 0 k (by omega) hk
theorem few_go (l : List S49) : ∀ (m n : Nat) (acc : List S49) (k : Nat), n + m = min l.length 70 → acc.length = n → m + 1 ≤ k → ∃ r, foyerlaw19_few.l0 k l acc (n : Int) = some r ∧ r.length ≤ 70
  | 0, n, acc, k, hn, ha, hk => by
    obtain ⟨k, rfl⟩ : ∃ j, k = j + 1 := ⟨k - 1, by omega⟩
    refine ⟨acc, ?_, by omega⟩
    unfold foyerlaw19_few.l0
    by_cases h : (n : Int) < (l.length : Int)
    · rw [if_pos h, if_neg (by omega)]
    · rw [if_neg h]
  | m + 1, n, acc, k, hn, ha, hk => by
    obtain ⟨k, rfl⟩ : ∃ j, k = j + 1 := ⟨k - 1, by omega⟩
    unfold foyerlaw19_few.l0
    rw [if_pos (by omega), if_pos (by omega), if_pos (by omega), if_pos (by omega), w64 (by omega)]
    exact few_go l m (n + 1) _ k (by omega) (by simp; omega) (by omega)
theorem few_some (l : List S49) : ∃ r, foyerlaw19_few.f 100 l = some r ∧ r.length ≤ 70 := few_go l (min l.length 70) 0 [] 100 (by omega) rfl (by omega)
theorem lost_len (r : List S61) (l : List S49) : (remap_Lost.v r l).length ≤ 64 := by
  unfold remap_Lost.v
  exact Nat.le_trans (List.length_filter_le _ _) (seatsI_len r)
theorem new_len (r : List S61) (l : List S49) : (remap_New.v r l).length ≤ 64 := by
  unfold remap_New.v
  exact Nat.le_trans (List.length_filter_le _ _) (seatsI_len r)
theorem back_len (l : List S49) : (remap_Back.v l).length = l.length := stab_len l.length (l.map trn) (by simp)
theorem alike_seats {l : List S49} (hl : l.length ≤ 1000) : ∀ (m : Nat) (s : Int) (k : Nat), s + m = 66 → -2 ≤ s → m + l.length + 3 ≤ k → more.foyerlaw19_alike.l0 k l s = some true
  | 0, s, k, hs, h2, hk => by
    obtain ⟨k, rfl⟩ : ∃ j, k = j + 1 := ⟨k - 1, by omega⟩
    conv => lhs; unfold more.foyerlaw19_alike.l0
    rw [if_neg (by omega)]
  | m + 1, s, k, hs, h2, hk => by
    obtain ⟨k, rfl⟩ : ∃ j, k = j + 1 := ⟨k - 1, by omega⟩
    conv => lhs; unfold more.foyerlaw19_alike.l0
    have e : wrap64 (s + 1) = s + 1 := by unfold wrap64; omega
    rw [if_pos (by omega), ref_to hl s (by omega), ref_from hl s (by omega), e, alike_seats hl m (s + 1) k (by omega) (by omega) (by omega)]
    unfold remap_To.f remap_From.f
    simp
theorem alike_true {a b : List S61} (ha : OkRows a) (hb : OkRows b) {l : List S49} (hl : l.length ≤ 900) : ∃ k, more.foyerlaw19_alike.f k a b l = some true := by
  obtain ⟨K1, h1⟩ := ref_chk ha hb hl
  obtain ⟨K2, h2⟩ := ref_back hl
  refine ⟨K1 + K2 + 3000 + 1, ?_⟩
  have e1 := LeO.lift (k := K1 + K2 + 3000 + 1) (fun k => foyerref19_Check.mono a b l k) (by omega) h1
  have e2 := LeO.lift (k := K1 + K2 + 3000 + 1) (fun k => foyerref19_Back.mono l k) (by omega) h2
  have b1 := lost_len a l
  have b2 := new_len b l
  have b3 := back_len l
  unfold more.foyerlaw19_alike.f
  rw [e1, e2, ref_lost ha (by omega) (by omega), ref_new hb (by omega) (by omega)]
  unfold remap_Check.f remap_Lost.f remap_New.f remap_Back.f
  rw [if_pos (by omega)]
  simp only [Option.bind_some]
  rw [ints_same (by omega) (by omega), ints_same (by omega) (by omega), moves_same (by omega) (by omega)]
  simp only [Option.bind_some, if_true, Bool.not_true]
  conv => lhs; unfold more.foyerlaw19_alike.j0
  simp only [Bool.false_eq_true, if_false]
  exact alike_seats (by omega) 68 (-2) _ (by omega) (by omega) (by omega)
end Go.Proofs.Yteojldbfebnccaa
