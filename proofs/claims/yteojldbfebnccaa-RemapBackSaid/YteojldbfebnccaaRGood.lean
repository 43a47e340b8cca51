/- Right moves in plain words: which lists of moves are right, what Check, Back, To, From, Lost and New answer of them. -/
import Derived.Test.YteojldbfebnccaaRSeatP
import Derived.Test.YteojldbfebnccaaRAll
import Derived.Test.YteojldbfebnccaaRHls
namespace Go.Proofs.Yteojldbfebnccaa
open Go.RowKit Go.Proofs.YteojldbfebnccaaW.PrintWords
set_option linter.unusedVariables false
set_option linter.unusedSimpArgs false
set_option maxRecDepth 100000
/-! ### the seats, told without the program's help -/
theorem bit_alike : ∀ m : Fin 256, ∀ k : Fin 8, decide (Go.bits .and .u8 (shr .u8 (m.val : Int) (k.val : Int)) 1 = 1) = bitB (m.val : Int) k.val := by decide +kernel
theorem has_bit {m : Int} (h0 : 0 ≤ m) (h1 : m < 256) {p : Nat} (hp : p < 8) : (Go.bits .and .u8 (shr .u8 m (p : Int)) 1 = 1) ↔ bitB m p = true := by
  have h := bit_alike ⟨m.toNat, by omega⟩ ⟨p, hp⟩
  have e : ((m.toNat : Nat) : Int) = m := by omega
  simp only [e] at h
  rw [← h, decide_eq_true_iff]
theorem has_in {l : List S61} (hl : OkRows l) {n : Nat} (hn : n < l.length) (h8 : l.length ≤ 8) : ∀ (d j : Nat) (acc : List Int) (k : Nat), j + d = 8 → acc.length + d ≤ 1000 →
    foyerlaw19_has.l1 (k + d + 1) acc (n : Int) (j : Int) l = foyerlaw19_has.l0 k (acc ++ (((List.range' j d).filter fun p : Nat => bitB (rd_T61 l (n : Int)).f1 p).map fun p : Nat => 8 * (n : Int) + (p : Int))) ((n + 1 : Nat) : Int) l
  | 0, j, acc, k, hj, ha => by
    conv => lhs; unfold foyerlaw19_has.l1
    rw [if_neg (by omega), w64 (by omega)]
    simp
  | d + 1, j, acc, k, hj, ha => by
    have hm := hl _ (List.mem_of_getElem? (rd61 hn))
    rw [show k + (d + 1) + 1 = (k + d + 1) + 1 by omega]
    conv => lhs; unfold foyerlaw19_has.l1
    rw [if_pos (by omega), if_pos (by omega), if_pos (by omega), if_pos (by omega)]
    have e1 : wrap64 (wrap64 (8 * (n : Int)) + (j : Int)) = 8 * (n : Int) + (j : Int) := by
      have h1 : wrap64 (8 * (n : Int)) = 8 * (n : Int) := by unfold wrap64; omega
      rw [h1]
      unfold wrap64
      omega
    rw [e1, w64 (by omega), List.range'_succ]
    by_cases hb : bitB (rd_T61 l (n : Int)).f1 j = true
    · rw [if_pos ((has_bit hm.1 hm.2 (by omega)).2 hb), if_pos (by omega)]
      rw [has_in hl hn h8 d (j + 1) _ k (by omega) (by rw [List.length_append, List.length_singleton]; omega)]
      simp [hb]
    · rw [if_neg (fun h => hb ((has_bit hm.1 hm.2 (by omega)).1 h)), has_in hl hn h8 d (j + 1) _ k (by omega) (by omega)]
      simp [hb]
theorem has_out {l : List S61} (hl : OkRows l) (h8 : l.length ≤ 8) : ∀ (m n : Nat) (acc : List Int) (k : Nat), n + m = l.length → acc.length + 8 * m ≤ 900 →
    foyerlaw19_has.l0 (k + 10 * m + 1) acc (n : Int) l = some (acc ++ (List.range' n m).flatMap fun i => (rs i (rd_T61 l (i : Int)) 8).map fun p => p.1)
  | 0, n, acc, k, hn, ha => by
    conv => lhs; unfold foyerlaw19_has.l0
    rw [if_neg (by omega)]
    simp
  | m + 1, n, acc, k, hn, ha => by
    rw [show k + 10 * (m + 1) + 1 = (k + 10 * m + 1 + 8 + 1) + 1 by omega]
    conv => lhs; unfold foyerlaw19_has.l0
    have hi := has_in hl (n := n) (by omega) h8 8 0 acc (k + 10 * m + 1) (by omega) (by omega)
    rw [if_pos (by omega)]
    rw [show ((0 : Nat) : Int) = 0 from rfl] at hi
    rw [hi]
    have hlen : (((List.range' 0 8).filter fun p : Nat => bitB (rd_T61 l (n : Int)).f1 p).map fun p : Nat => 8 * (n : Int) + (p : Int)).length ≤ 8 := by
      rw [List.length_map]
      exact Nat.le_trans (List.length_filter_le _ _) (by simp)
    rw [has_out hl h8 m (n + 1) _ k (by omega) (by rw [List.length_append]; omega)]
    rw [show List.range' n (m + 1) = n :: List.range' (n + 1) m from rfl, List.flatMap_cons, List.append_assoc]
    congr 3
    unfold rs
    rw [List.map_map, List.range_eq_range']
    rfl
theorem has_seats {l : List S61} (hl : OkRows l) (h8 : l.length ≤ 8) : foyerlaw19_has.f 100 l = some (seatsI l) := by
  unfold foyerlaw19_has.f
  have h := has_out hl h8 l.length 0 [] (99 - 10 * l.length) (by omega) (by simp; omega)
  rw [show 99 - 10 * l.length + 10 * l.length + 1 = 100 by omega] at h
  rw [show ((0 : Nat) : Int) = 0 from rfl] at h
  rw [h, List.nil_append]
  unfold seatsI seatsL sl
  rw [Nat.min_eq_left h8, List.map_flatMap, List.range_eq_range']
/-! ### the seats of a hall -/
theorem mem_seatsI {l : List S61} {s : Int} : s ∈ seatsI l ↔ hasB l s = true := by
  rw [seatsI_eq, List.mem_map]
  unfold hasB
  simp only [List.mem_filter, List.mem_range, Bool.and_eq_true, decide_eq_true_eq]
  constructor
  · rintro ⟨n, ⟨h1, h2⟩, rfl⟩
    exact ⟨⟨by omega, by omega⟩, by simpa using h2⟩
  · rintro ⟨⟨h1, h2⟩, h3⟩
    exact ⟨s.toNat, ⟨by omega, h3⟩, by omega⟩
theorem seat_rng {l : List S61} {s : Int} (h : s ∈ seatsI l) : 0 ≤ s ∧ s < 64 := by
  rw [mem_seatsI] at h
  unfold hasB at h
  simp only [Bool.and_eq_true, decide_eq_true_eq] at h
  exact h.1
theorem seatsI_rise (l : List S61) : (seatsI l).Pairwise (· < ·) := by
  rw [seatsI_eq, List.pairwise_map]
  exact (List.pairwise_lt_range.filter _).imp (fun h => by omega)
theorem rise_nodup {l : List Int} (h : l.Pairwise (· < ·)) : l.Nodup := by
  rw [List.nodup_iff_pairwise_ne]
  exact h.imp (fun h => by omega)
theorem hasB_ln {l : List S61} {n : Nat} (h : hasB l (n : Int) = true) : n / 8 < l.length := by
  simp only [hasB, bitAt, Bool.and_eq_true, decide_eq_true_eq] at h
  simpa using h.2.1
/-! ### right moves -/
structure Good (ra rb : List S61) (l : List S49) : Prop where
  rise : l.Pairwise fun x y => x.f0 < y.f0
  from_ : ∀ x ∈ l, x.f0 ∈ seatsI ra
  to_ : ∀ x ∈ l, x.f1 ∈ seatsI rb
  cls : ∀ x ∈ l, clsAt rb x.f1.toNat = clsAt ra x.f0.toNat
  once : (l.map S49.f1).Nodup
theorem Good.f0s {ra rb : List S61} {l : List S49} (h : Good ra rb l) : (l.map S49.f0).Nodup := by
  refine rise_nodup ?_
  rw [List.pairwise_map]
  exact h.rise
/-- the first n moves are right -/
def PreGood (ra rb : List S61) (all : List S49) (n : Nat) : Prop :=
  ∀ (j : Nat) (x : S49), j < n → all[j]? = some x → risesAt all j = true ∧ thereAt ra rb x = true ∧ alikeAt ra rb x = true ∧ 0 ≤ x.f1 ∧ x.f1 < 64 ∧ ∀ (i : Nat) (y : S49), i < j → all[i]? = some y → y.f1 ≠ x.f1
theorem chk_pass {ra rb : List S61} {all : List S49} : ∀ (n : Nat), n ≤ all.length → PreGood ra rb all n →
    ∃ f : Nat → Bool, (∀ s : Nat, f s = (all.take n).any fun x => x.f1 == (s : Int)) ∧ chk ra rb all all 0 (fun _ => false) = chk ra rb all (all.drop n) n f
  | 0, _, _ => ⟨fun _ => false, fun s => by simp, by simp⟩
  | n + 1, hn, hp => by
    obtain ⟨f, hf, hc⟩ := chk_pass n (by omega) (fun j x hj hx => hp j x (by omega) hx)
    have hx : all[n]? = some all[n] := List.getElem?_eq_getElem (by omega)
    obtain ⟨x, hxe⟩ : ∃ x, all[n] = x := ⟨_, rfl⟩
    rw [hxe] at hx
    obtain ⟨h1, h2, h3, h4, h5, h6⟩ := hp n x (by omega) hx
    refine ⟨mark f x.f1.toNat, fun s => ?_, ?_⟩
    · rw [List.take_add_one, hx]
      unfold mark
      rw [Option.toList_some, List.any_append, List.any_cons, List.any_nil, Bool.or_false, ← hf s]
      by_cases hs : s = x.f1.toNat
      · rw [if_pos hs]
        have : (x.f1 == (s : Int)) = true := by rw [beq_iff_eq]; omega
        rw [this, Bool.or_true]
      · rw [if_neg hs]
        have : (x.f1 == (s : Int)) = false := by rw [beq_eq_false_iff_ne]; omega
        rw [this, Bool.or_false]
    · rw [hc, List.drop_eq_getElem_cons (by omega), hxe]
      conv => lhs; unfold chk
      have hfx : f x.f1.toNat = false := by
        rw [hf, List.any_eq_false]
        intro y hy
        obtain ⟨i, hi⟩ := List.getElem?_of_mem hy
        rw [List.getElem?_take] at hi
        split at hi
        · have := h6 i y (by assumption) hi
          simp only [beq_iff_eq]
          omega
        · cases hi
      rw [h1, h2, h3, hfx]
      simp
theorem Good.has {ra rb : List S61} {l : List S49} (h : Good ra rb l) {x : S49} (hx : x ∈ l) : hall_Has.v ra x.f0 = true ∧ hall_Has.v rb x.f1 = true := by
  rw [has_eq, has_eq]
  exact ⟨mem_seatsI.1 (h.from_ x hx), mem_seatsI.1 (h.to_ x hx)⟩
theorem Good.class_ {ra rb : List S61} {l : List S49} (h : Good ra rb l) {x : S49} (hx : x ∈ l) : hall_Class.v ra x.f0 = hall_Class.v rb x.f1 := by
  rw [class_eq, class_eq, if_pos (mem_seatsI.1 (h.from_ x hx)), if_pos (mem_seatsI.1 (h.to_ x hx)), h.cls x hx]
theorem Good.rises {ra rb : List S61} {l : List S49} (h : Good ra rb l) {j : Nat} (hj : j < l.length) : risesAt l j = true := by
  unfold risesAt
  split
  · rfl
  · rw [decide_eq_true_iff]
    have h1 := rd49 (l := l) (i := j) hj
    have h2 := rd49 (l := l) (i := j - 1) (by omega)
    have h3 := (List.pairwise_iff_getElem.1 h.rise) (j - 1) j (by omega) hj (by omega)
    rw [(List.getElem?_eq_some_iff.1 h1).2, (List.getElem?_eq_some_iff.1 h2).2] at h3
    exact h3
theorem Good.apart {ra rb : List S61} {l : List S49} (h : Good ra rb l) {i j : Nat} {x y : S49} (hij : i < j) (hx : l[i]? = some x) (hy : l[j]? = some y) : x.f1 ≠ y.f1 := by
  have h1 := List.nodup_iff_pairwise_ne.1 h.once
  rw [List.pairwise_map] at h1
  have hi := (List.getElem?_eq_some_iff.1 hx).1
  have hj := (List.getElem?_eq_some_iff.1 hy).1
  have h2 := (List.pairwise_iff_getElem.1 h1) i j hi hj hij
  rw [(List.getElem?_eq_some_iff.1 hx).2, (List.getElem?_eq_some_iff.1 hy).2] at h2
  exact h2
theorem Good.pre {ra rb : List S61} {l : List S49} (h : Good ra rb l) : PreGood ra rb l l.length := by
  intro j x hj hx
  have hm := List.mem_of_getElem? hx
  have h1 := h.has hm
  refine ⟨h.rises hj, ?_, ?_, (seat_rng (h.to_ x hm)).1, (seat_rng (h.to_ x hm)).2, fun i y hi hy => h.apart hi hy hx⟩
  · unfold thereAt
    rw [h1.1, h1.2]
    rfl
  · unfold alikeAt
    rw [h.class_ hm, beq_self_eq_true]
theorem check_good {ra rb : List S61} {l : List S49} (h : Good ra rb l) (ha : hall_Check.v ra = 0) (hb : hall_Check.v rb = 0) : remap_Check.v ra rb l = (-1, 0) := by
  unfold remap_Check.v
  rw [if_neg (by omega)]
  obtain ⟨f, _, hc⟩ := chk_pass l.length (Nat.le_refl _) h.pre
  rw [hc, List.drop_length]
  rfl
/-! one move is otherwise -/
theorem rd_set_other {l : List S49} {n j : Nat} {y : S49} (h : j ≠ n) : rd_T49 (l.set n y) (j : Int) = rd_T49 l (j : Int) := by
  unfold rd_T49
  simp only [Int.toNat_natCast, List.getD_eq_getElem?_getD]
  rw [List.getElem?_set_ne (by omega)]
theorem rd_set_same {l : List S49} {n : Nat} {y : S49} (h : n < l.length) : rd_T49 (l.set n y) (n : Int) = y := by
  unfold rd_T49
  simp [List.getD_eq_getElem?_getD, h]
theorem Good.pre_set {ra rb : List S61} {l : List S49} (h : Good ra rb l) {n : Nat} (hn : n < l.length) (y : S49) : PreGood ra rb (l.set n y) n := by
  intro j x hj hx
  rw [List.getElem?_set_ne (by omega)] at hx
  obtain ⟨h1, h2, h3, h4, h5, h6⟩ := h.pre j x (by omega) hx
  refine ⟨?_, h2, h3, h4, h5, fun i z hi hz => ?_⟩
  · rw [← h1]
    unfold risesAt
    rw [rd_set_other (by omega), rd_set_other (by omega)]
  · rw [List.getElem?_set_ne (by omega)] at hz
    exact h6 i z hi hz
theorem check_set {ra rb : List S61} {l : List S49} (h : Good ra rb l) (ha : hall_Check.v ra = 0) (hb : hall_Check.v rb = 0) {n : Nat} (hn : n < l.length) (y : S49) :
    ∃ f : Nat → Bool, (∀ s : Nat, f s = (l.take n).any fun x => x.f1 == (s : Int)) ∧ remap_Check.v ra rb (l.set n y) = chk ra rb (l.set n y) (y :: l.drop (n + 1)) n f := by
  obtain ⟨f, hf, hc⟩ := chk_pass n (by rw [List.length_set]; omega) (h.pre_set hn y)
  refine ⟨f, fun s => ?_, ?_⟩
  · rw [hf, List.take_set_of_le (Nat.le_refl _)]
  · unfold remap_Check.v
    rw [if_neg (by omega), hc]
    congr 1
    rw [List.drop_eq_getElem_cons (by rw [List.length_set]; exact hn), List.getElem_set_self]
    rw [List.drop_set_of_lt (by omega)]
theorem rises_set {ra rb : List S61} {l : List S49} (h : Good ra rb l) {n : Nat} (hn : n < l.length) {y : S49} (hy : y.f0 = (rd_T49 l (n : Int)).f0) : risesAt (l.set n y) n = true := by
  have h1 := h.rises hn
  rw [← h1]
  unfold risesAt
  split
  · rfl
  · rw [rd_set_other (by omega), rd_set_same hn, hy]
theorem check_seat {ra rb : List S61} {l : List S49} (h : Good ra rb l) (ha : hall_Check.v ra = 0) (hb : hall_Check.v rb = 0) {n : Nat} (hn : n < l.length) {y : S49} (hy : y.f0 = (rd_T49 l (n : Int)).f0) (ho : y.f1 < 0 ∨ 64 ≤ y.f1) :
    remap_Check.v ra rb (l.set n y) = ((n : Int), 18) := by
  obtain ⟨f, _, hc⟩ := check_set h ha hb hn y
  rw [hc]
  unfold chk
  have ht : thereAt ra rb y = false := by
    unfold thereAt
    have : hall_Has.v rb y.f1 = false := by
      rw [has_eq]
      cases hh : hasB rb y.f1 with
      | false => rfl
      | true =>
        have := seat_rng (mem_seatsI.2 hh)
        omega
    rw [this, Bool.and_false]
  rw [rises_set h hn hy, ht]
  simp
theorem check_order {ra rb : List S61} {l : List S49} (h : Good ra rb l) (ha : hall_Check.v ra = 0) (hb : hall_Check.v rb = 0) {n : Nat} (hn : n < l.length) (hn0 : n ≠ 0) {y : S49} (hy : y.f0 = (rd_T49 l ((n - 1 : Nat) : Int)).f0) :
    remap_Check.v ra rb (l.set n y) = ((n : Int), 7) := by
  obtain ⟨f, _, hc⟩ := check_set h ha hb hn y
  rw [hc]
  unfold chk
  have hr : risesAt (l.set n y) n = false := by
    unfold risesAt
    rw [if_neg hn0, rd_set_other (by omega), rd_set_same hn, hy, decide_eq_false_iff_not]
    omega
  rw [hr]
  simp
theorem check_twice {ra rb : List S61} {l : List S49} (h : Good ra rb l) (ha : hall_Check.v ra = 0) (hb : hall_Check.v rb = 0) {n m : Nat} (hn : n < l.length) (hm : m < n) {y : S49} (hy : y.f0 = (rd_T49 l (n : Int)).f0) (hy1 : y.f1 = (rd_T49 l (m : Int)).f1) :
    remap_Check.v ra rb (l.set n y) = ((n : Int), 24) := by
  obtain ⟨f, hf, hc⟩ := check_set h ha hb hn y
  rw [hc]
  unfold chk
  have hxn := List.mem_of_getElem? (rd49 hn)
  have hxm := List.mem_of_getElem? (rd49 (l := l) (i := m) (by omega))
  have ht : thereAt ra rb y = true := by
    unfold thereAt
    rw [hy, hy1, (h.has hxn).1, (h.has hxm).2]
    rfl
  have hft : f y.f1.toNat = true := by
    rw [hf, List.any_eq_true]
    refine ⟨rd_T49 l (m : Int), ?_, ?_⟩
    · refine List.mem_of_getElem? (i := m) ?_
      rw [List.getElem?_take, if_pos hm]
      exact rd49 (by omega)
    · have := seat_rng (h.to_ _ hxm)
      rw [beq_iff_eq, hy1]
      omega
  rw [rises_set h hn hy, ht, hft]
  simp
/-! ### the moves back -/
theorem layIn_perm (l : List S49) (x : S49) : (layIn l x).Perm (x :: l) := by
  unfold layIn
  refine List.perm_middle.trans ?_
  rw [List.takeWhile_append_dropWhile]
theorem stab_perm : ∀ (n : Nat) (l : List S49), l.length = n → (stab l).Perm l
  | 0, l, h => by
    obtain rfl := List.length_eq_zero_iff.1 h
    exact .refl _
  | n + 1, l, h => by
    obtain ⟨r, x, rfl⟩ : ∃ r x, l = r ++ [x] := ⟨l.dropLast, l.getLast (by intro e; subst e; simp at h), (List.dropLast_concat_getLast _).symm⟩
    rw [stab_snoc]
    refine (layIn_perm _ _).trans ?_
    exact ((stab_perm n r (by simp at h; exact h)).cons x).trans (List.perm_append_singleton x r).symm
theorem back_perm (l : List S49) : (remap_Back.v l).Perm (l.map trn) := stab_perm l.length (l.map trn) (by simp)
theorem trn_trn (x : S49) : trn (trn x) = x := rfl
theorem Good.back {ra rb : List S61} {l : List S49} (h : Good ra rb l) : Good rb ra (remap_Back.v l) := by
  have hp := back_perm l
  have hmem : ∀ x ∈ remap_Back.v l, trn x ∈ l := by
    intro x hx
    obtain ⟨y, hy, rfl⟩ := List.mem_map.1 (hp.mem_iff.1 hx)
    rw [trn_trn]
    exact hy
  refine ⟨?_, fun x hx => h.to_ _ (hmem x hx), fun x hx => h.from_ _ (hmem x hx), fun x hx => (h.cls _ (hmem x hx)).symm, ?_⟩
  · have hi : Inc (remap_Back.v l) := (stab_all _).1
    have hn : ((remap_Back.v l).map S49.f0).Nodup := by
      rw [(hp.map S49.f0).nodup_iff, List.map_map]
      exact h.once
    rw [List.nodup_iff_pairwise_ne, List.pairwise_map] at hn
    exact hi.imp₂ (fun a b h1 h2 => by omega) hn
  · rw [(hp.map S49.f1).nodup_iff, List.map_map]
    exact h.f0s
theorem rise_inj {l : List S49} (h : l.Pairwise fun x y => x.f0 < y.f0) {x y : S49} (hx : x ∈ l) (hy : y ∈ l) (e : x.f0 = y.f0) : x = y := by
  obtain ⟨i, hi⟩ := List.getElem?_of_mem hx
  obtain ⟨j, hj⟩ := List.getElem?_of_mem hy
  have li := (List.getElem?_eq_some_iff.1 hi).1
  have lj := (List.getElem?_eq_some_iff.1 hj).1
  rcases Nat.lt_trichotomy i j with hlt | rfl | hgt
  · have := (List.pairwise_iff_getElem.1 h) i j li lj hlt
    rw [(List.getElem?_eq_some_iff.1 hi).2, (List.getElem?_eq_some_iff.1 hj).2] at this
    omega
  · rw [hi] at hj
    exact Option.some.inj hj
  · have := (List.pairwise_iff_getElem.1 h) j i lj li hgt
    rw [(List.getElem?_eq_some_iff.1 hi).2, (List.getElem?_eq_some_iff.1 hj).2] at this
    omega
theorem back_back {ra rb : List S61} {l : List S49} (h : Good ra rb l) : remap_Back.v (remap_Back.v l) = l := by
  have hp : (remap_Back.v (remap_Back.v l)).Perm l := by
    refine (back_perm _).trans ?_
    have := (back_perm l).map trn
    rw [List.map_map] at this
    have e : l.map (trn ∘ trn) = l := by
      rw [show (trn ∘ trn) = id from funext fun x => rfl, List.map_id]
    rw [e] at this
    exact this
  refine hp.eq_of_pairwise (le := fun x y => x.f0 ≤ y.f0) (fun a b ha hb h1 h2 => ?_) (show List.Pairwise (fun x y : S49 => x.f0 ≤ y.f0) (remap_Back.v (remap_Back.v l)) from (stab_all _).1) (h.rise.imp (fun h => by omega))
  exact rise_inj h.rise (hp.mem_iff.1 ha) hb (by omega)
/-! ### To and From -/
theorem to_some {l : List S49} {s : Int} {x : S49} (h : l.Pairwise fun x y => x.f0 < y.f0) (hx : x ∈ l) (hs : x.f0 = s) : remap_To.v l s = (x.f1, true) := by
  unfold remap_To.v
  cases hf : l.find? (p41 s) with
  | none =>
    rw [List.find?_eq_none] at hf
    exact absurd (show p41 s x = true by unfold p41; rw [beq_iff_eq]; exact hs) (hf x hx)
  | some y =>
    have h1 := List.find?_some hf
    unfold p41 at h1
    rw [beq_iff_eq] at h1
    rw [rise_inj h hx (List.mem_of_find?_eq_some hf) (hs.trans h1.symm)]
theorem to_none {l : List S49} {s : Int} (h : ∀ x ∈ l, x.f0 ≠ s) : remap_To.v l s = (-1, false) := by
  unfold remap_To.v
  have : l.find? (p41 s) = none := by
    rw [List.find?_eq_none]
    intro x hx
    unfold p41
    simpa using h x hx
  rw [this]
theorem once_inj {l : List S49} (h : (l.map S49.f1).Nodup) {x y : S49} (hx : x ∈ l) (hy : y ∈ l) (e : x.f1 = y.f1) : x = y := by
  rw [List.nodup_iff_pairwise_ne, List.pairwise_map] at h
  obtain ⟨i, hi⟩ := List.getElem?_of_mem hx
  obtain ⟨j, hj⟩ := List.getElem?_of_mem hy
  have li := (List.getElem?_eq_some_iff.1 hi).1
  have lj := (List.getElem?_eq_some_iff.1 hj).1
  rcases Nat.lt_trichotomy i j with hlt | rfl | hgt
  · have := (List.pairwise_iff_getElem.1 h) i j li lj hlt
    rw [(List.getElem?_eq_some_iff.1 hi).2, (List.getElem?_eq_some_iff.1 hj).2] at this
    exact absurd e this
  · rw [hi] at hj
    exact Option.some.inj hj
  · have := (List.pairwise_iff_getElem.1 h) j i lj li hgt
    rw [(List.getElem?_eq_some_iff.1 hi).2, (List.getElem?_eq_some_iff.1 hj).2] at this
    exact absurd e.symm this
theorem from_some {l : List S49} {s : Int} {x : S49} (h : (l.map S49.f1).Nodup) (hx : x ∈ l) (hs : x.f1 = s) : remap_From.v l s = (x.f0, true) := by
  unfold remap_From.v
  cases hf : l.find? (p42 s) with
  | none =>
    rw [List.find?_eq_none] at hf
    exact absurd (show p42 s x = true by unfold p42; rw [beq_iff_eq]; exact hs) (hf x hx)
  | some y =>
    have h1 := List.find?_some hf
    unfold p42 at h1
    rw [beq_iff_eq] at h1
    rw [once_inj h hx (List.mem_of_find?_eq_some hf) (hs.trans h1.symm)]
theorem from_none {l : List S49} {s : Int} (h : ∀ x ∈ l, x.f1 ≠ s) : remap_From.v l s = (-1, false) := by
  unfold remap_From.v
  have : l.find? (p42 s) = none := by
    rw [List.find?_eq_none]
    intro x hx
    unfold p42
    simpa using h x hx
  rw [this]
/-- where a seat goes -/
theorem Good.goes {ra rb : List S61} {l : List S49} (h : Good ra rb l) (s : Int) :
    (remap_To.v l s = (-1, false) ∧ remap_From.v (remap_Back.v l) s = (-1, false)) ∨
    ∃ x, x ∈ l ∧ x.f0 = s ∧ remap_To.v l s = (x.f1, true) ∧ remap_From.v (remap_Back.v l) s = (x.f1, true) ∧ remap_From.v l x.f1 = (s, true) ∧ hall_Has.v ra s = true ∧ hall_Has.v rb x.f1 = true ∧ hall_Class.v ra s = hall_Class.v rb x.f1 := by
  by_cases hs : ∃ x ∈ l, x.f0 = s
  · obtain ⟨x, hx, rfl⟩ := hs
    refine .inr ⟨x, hx, rfl, to_some h.rise hx rfl, ?_, from_some h.once hx rfl, (h.has hx).1, (h.has hx).2, h.class_ hx⟩
    exact from_some (x := trn x) h.back.once ((back_perm l).mem_iff.2 (List.mem_map.2 ⟨x, hx, rfl⟩)) rfl
  · refine .inl ⟨to_none fun x hx e => hs ⟨x, hx, e⟩, from_none fun x hx e => ?_⟩
    obtain ⟨y, hy, rfl⟩ := List.mem_map.1 ((back_perm l).mem_iff.1 hx)
    exact hs ⟨y, hy, e⟩
/-! ### Lost and New -/
theorem filt_len (p : Int → Bool) : ∀ S : List Int, S.length = (S.filter p).length + (S.filter fun s => !p s).length
  | [] => rfl
  | x :: r => by
    have ih := filt_len p r
    cases hx : p x with
    | true => simp [List.filter_cons, hx]; omega
    | false => simp [List.filter_cons, hx]; omega
theorem filter_count {S T : List Int} (hs : S.Nodup) (ht : T.Nodup) (hsub : ∀ x ∈ T, x ∈ S) {p : Int → Bool} (hp : ∀ x, p x = true ↔ x ∈ T) : (S.filter fun s => !p s).length + T.length = S.length := by
  have h1 : (S.filter p).Perm T := by
    rw [List.perm_ext_iff_of_nodup (hs.filter _) ht]
    intro a
    rw [List.mem_filter, hp]
    exact ⟨fun h => h.2, fun h => ⟨hsub a h, h⟩⟩
  have h2 := filt_len p S
  rw [h1.length_eq] at h2
  omega
theorem Good.lost {ra rb : List S61} {l : List S49} (h : Good ra rb l) : (remap_Lost.v ra l).length + l.length = (seatsI ra).length := by
  unfold remap_Lost.v
  have := filter_count (rise_nodup (seatsI_rise ra)) h.f0s (fun s hs => by obtain ⟨x, hx, rfl⟩ := List.mem_map.1 hs; exact h.from_ x hx) (p := fun s => l.any fun x => nm38 x == s) (fun s => by
    rw [List.any_eq_true, List.mem_map]
    simp only [nm38, beq_iff_eq])
  rwa [List.length_map] at this
theorem Good.len {ra rb : List S61} {l : List S49} (h : Good ra rb l) : l.length ≤ 64 := by
  have h1 := h.lost
  have h2 : (seatsI ra).length ≤ 64 := by
    rw [seatsI_eq, List.length_map]
    exact Nat.le_trans (List.length_filter_le _ _) (by simp)
  omega
theorem Good.new {ra rb : List S61} {l : List S49} (h : Good ra rb l) : (remap_New.v rb l).length + l.length = (seatsI rb).length := by
  unfold remap_New.v
  have := filter_count (rise_nodup (seatsI_rise rb)) h.once (fun s hs => by obtain ⟨x, hx, rfl⟩ := List.mem_map.1 hs; exact h.to_ x hx) (p := fun s => l.any fun x => nm39 x == s) (fun s => by
    rw [List.any_eq_true, List.mem_map]
    simp only [nm39, beq_iff_eq])
  rwa [List.length_map] at this
theorem lost_rise (ra : List S61) (l : List S49) : (remap_Lost.v ra l).Pairwise (· < ·) := (seatsI_rise ra).filter _
theorem lost_to {ra : List S61} {l : List S49} {s : Int} (h : s ∈ remap_Lost.v ra l) : remap_To.v l s = (-1, false) := by
  unfold remap_Lost.v at h
  rw [List.mem_filter] at h
  refine to_none fun x hx e => ?_
  have h2 := h.2
  rw [Bool.not_eq_true', List.any_eq_false] at h2
  have := h2 x hx
  unfold nm38 at this
  simp only [beq_iff_eq] at this
  exact this e
/-! ### the halls of a plan -/
theorem rowsV_ok {l : List (Int × Int)} (h : ∀ x ∈ l, 0 ≤ x.1 ∧ x.1 < 256 ∧ 0 ≤ x.2 ∧ x.2 < 256) : OkRows (rowsV l) ∧ hall_Check.v (rowsV l) = 0 := by
  have hrow : ∀ x ∈ l, 0 ≤ (rowOf x).f1 ∧ (rowOf x).f1 < 256 ∧ okRow (rowOf x) = true := by
    intro x hx
    obtain ⟨h1, h2, h3, h4⟩ := h x hx
    have e : wrap64 x.1 = x.1 := by unfold wrap64; omega
    unfold rowOf okRow
    rw [e, Int.tmod_eq_emod_of_nonneg h1]
    simp only
    refine ⟨by split <;> omega, by split <;> omega, ?_⟩
    rw [if_pos (by omega), if_pos (by omega), bne_iff_ne]
    split <;> omega
  have hv : ∀ r ∈ rowsV l, 0 ≤ r.f1 ∧ r.f1 < 256 ∧ okRow r = true := by
    intro r hr
    unfold rowsV rowsAt at hr
    split at hr
    · rw [List.mem_singleton] at hr
      subst hr
      exact ⟨by decide, by decide, by decide⟩
    · obtain ⟨x, hx, rfl⟩ := List.mem_map.1 hr
      exact hrow x (List.mem_of_mem_take hx)
  refine ⟨fun r hr => ⟨(hv r hr).1, (hv r hr).2.1⟩, ?_⟩
  have h8 := rowsV_len l
  have h0 : (rowsV l).length ≠ 0 := by
    unfold rowsV rowsAt
    split
    · simp
    · rename_i hh
      rw [List.length_map, List.length_take]
      omega
  unfold hall_Check.v
  rw [if_neg (by omega), if_pos (List.all_eq_true.2 fun r hr => (hv r hr).2.2)]
/-! ### how right moves come about -/
structure MvInv (ra rb : List S61) (all : List Int) (i : Nat) (led : Nat → Bool) (out : List S49) : Prop where
  sub : (out.map S49.f0).Sublist (all.take i)
  to_ : ∀ x ∈ out, x.f1 ∈ seatsI rb
  cls : ∀ x ∈ out, clsAt rb x.f1.toNat = clsAt ra x.f0.toNat
  once : (out.map S49.f1).Nodup
  led : ∀ x ∈ out, led x.f1.toNat = true
theorem MvInv.skip {ra rb : List S61} {all : List Int} {i : Nat} {led : Nat → Bool} {out : List S49} (h : MvInv ra rb all i led out) : MvInv ra rb all (i + 1) led out :=
  ⟨h.sub.trans (List.take_sublist_take_left (Nat.le_succ i)), h.to_, h.cls, h.once, h.led⟩
theorem MvInv.put {ra rb : List S61} {all : List Int} {i : Nat} {led : Nat → Bool} {out : List S49} (h : MvInv ra rb all i led out) {s g : Int} (hs : all[i]? = some s) (ht : g ∈ seatsI rb) (hl : led g.toNat = false) (hc : clsAt rb g.toNat = clsAt ra s.toNat) :
    MvInv ra rb all (i + 1) (mark led g.toNat) (out ++ [⟨s, g⟩]) := by
  have hr := seat_rng ht
  refine ⟨?_, ?_, ?_, ?_, ?_⟩
  · rw [List.map_append, List.map_singleton, List.take_add_one, hs]
    exact h.sub.append (List.Sublist.refl _)
  · intro x hx
    rcases List.mem_append.1 hx with hx | hx
    · exact h.to_ x hx
    · rw [List.mem_singleton.1 hx]; exact ht
  · intro x hx
    rcases List.mem_append.1 hx with hx | hx
    · exact h.cls x hx
    · rw [List.mem_singleton.1 hx]; exact hc
  · rw [List.map_append, List.map_singleton, List.nodup_append]
    refine ⟨h.once, by simp, fun a ha b hb => ?_⟩
    rw [List.mem_singleton] at hb
    obtain ⟨x, hx, rfl⟩ := List.mem_map.1 ha
    intro e
    have := h.led x hx
    rw [show x.f1 = g from e.trans hb, hl] at this
    cases this
  · intro x hx
    unfold mark
    rcases List.mem_append.1 hx with hx | hx
    · split
      · rfl
      · exact h.led x hx
    · rw [List.mem_singleton.1 hx, if_pos rfl]
theorem MvInv.good {ra rb : List S61} {i : Nat} {led : Nat → Bool} {out : List S49} (h : MvInv ra rb (seatsI ra) i led out) : Good ra rb out := by
  have hsub : (out.map S49.f0).Sublist (seatsI ra) := h.sub.trans (List.take_sublist _ _)
  refine ⟨?_, fun x hx => hsub.subset (List.mem_map.2 ⟨x, hx, rfl⟩), h.to_, h.cls, h.once⟩
  have := (seatsI_rise ra).sublist hsub
  rwa [List.pairwise_map] at this
end Go.Proofs.Yteojldbfebnccaa
