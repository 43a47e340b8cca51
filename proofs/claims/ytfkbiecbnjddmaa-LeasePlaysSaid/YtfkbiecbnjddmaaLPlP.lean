/- LeasePlays in plain words: a heap and a sorted list of the same leases answer alike; the contracts in that form. -/
import Derived.Test.YtfkbiecbnjddmaaLRefC
import Derived.Test.YtfkbiecbnjddmaaLOrder
namespace Go.Proofs.Ytfkbiecbnjddmaa
open Go.RowKit Go.MapKept Go.ChangeMaps Go.Proofs.YtfkbiecbnjddmaaW.PrintWords
set_option linter.unusedVariables false
set_option linter.unusedSimpArgs false
set_option maxRecDepth 100000
structure Twin (xs L : List Lz) : Prop where
  perm : L.Perm xs
  sorted : L.Pairwise le
  keys : (xs.map Lz.key).Nodup
theorem Twin.of_perm {xs ys L : List Lz} (h : Twin xs L) (hp : ys.Perm xs) : Twin ys L :=
  ⟨h.perm.trans hp.symm, h.sorted, (hp.map Lz.key).nodup_iff.2 h.keys⟩
def DropRel (xs : List Lz) (k : Int × Int) (p : Int) (zs : List Lz) : Prop := (k ∉ xs.map Lz.key ∧ p = 13 ∧ zs = xs) ∨ (∃ z, z ∈ xs ∧ z.key = k ∧ p = 0 ∧ zs = xs.erase z)
def RDropRel (L : List Lz) (k : Int × Int) (p : Int) (L' : List Lz) : Prop := (k ∉ L.map Lz.key ∧ p = 13 ∧ L' = L) ∨ (∃ (i : Nat) (x : Lz), L[i]? = some x ∧ x.key = k ∧ p = 0 ∧ L' = L.take i ++ L.drop (i + 1))
theorem Twin.mem_keys {xs L : List Lz} (h : Twin xs L) (k : Int × Int) : k ∈ L.map Lz.key ↔ k ∈ xs.map Lz.key := (h.perm.map Lz.key).mem_iff
theorem Twin.drop {xs L zs L' : List Lz} {k : Int × Int} {p p' : Int} (h : Twin xs L) (h1 : DropRel xs k p zs) (h2 : RDropRel L k p' L') : p = p' ∧ Twin zs L' := by
  rcases h1 with ⟨hno, rfl, rfl⟩ | ⟨z, hz, hzk, rfl, rfl⟩
  · rcases h2 with ⟨_, rfl, rfl⟩ | ⟨i, x, hx, hxk, rfl, rfl⟩
    · exact ⟨rfl, h⟩
    · exact absurd ((h.mem_keys k).1 (List.mem_map.2 ⟨x, List.mem_of_getElem? hx, hxk⟩)) hno
  · rcases h2 with ⟨hno, rfl, rfl⟩ | ⟨i, x, hx, hxk, rfl, rfl⟩
    · exact absurd ((h.mem_keys k).2 (List.mem_map.2 ⟨z, hz, hzk⟩)) hno
    · refine ⟨rfl, ?_⟩
      have hxm : x ∈ xs := h.perm.mem_iff.1 (List.mem_of_getElem? hx)
      obtain rfl : x = z := key_unique h.keys hxm hz (hxk.trans hzk.symm)
      have hi : i < L.length := (List.getElem?_eq_some_iff.1 hx).1
      have e : L = L.take i ++ x :: L.drop (i + 1) := by
        rw [← (List.getElem?_eq_some_iff.1 hx).2, ← List.drop_eq_getElem_cons hi, List.take_append_drop]
      have hp : (L.take i ++ L.drop (i + 1)).Perm (xs.erase x) := by
        have h1 : (x :: (L.take i ++ L.drop (i + 1))).Perm xs := by
          refine List.Perm.trans ?_ h.perm
          conv => rhs; rw [e]
          exact List.perm_middle.symm
        have h2 := h1.trans (List.perm_cons_erase hxm)
        exact h2.cons_inv
      refine ⟨hp, ?_, h.keys.sublist (List.Sublist.map _ (List.erase_sublist))⟩
      refine h.sorted.sublist ?_
      conv => rhs; rw [e]
      exact (List.Sublist.refl _).append (List.sublist_cons_self _ _)
theorem Twin.add {xs L : List Lz} {x : Lz} {m : Nat} (h : Twin xs L) (hno : x.key ∉ xs.map Lz.key) (hp : PlaceOf L m x) : Twin (xs ++ [x]) (L.take m ++ x :: L.drop m) := by
  obtain ⟨hm, h1, h2⟩ := hp
  have hlow : ∀ a ∈ L.take m, le a x := by
    intro a ha
    obtain ⟨j, hj⟩ := List.getElem?_of_mem ha
    rw [List.getElem?_take] at hj
    split at hj
    · exact le_of_less (h1 j a (by assumption) hj)
    · cases hj
  have hup : ∀ a ∈ L.drop m, le x a := by
    intro a ha
    rcases Nat.lt_or_ge m L.length with hlt | hge
    · have hy : L[m]? = some L[m] := List.getElem?_eq_getElem hlt
      have h3 : le x L[m] := h2 _ hy
      obtain ⟨j, hj⟩ := List.getElem?_of_mem ha
      rw [List.getElem?_drop] at hj
      rcases Nat.eq_zero_or_pos j with rfl | hj0
      · rw [Nat.add_zero, hy] at hj
        cases hj
        exact h3
      · have hjl := (List.getElem?_eq_some_iff.1 hj).1
        have h4 := (List.pairwise_iff_getElem.1 h.sorted) m (m + j) hlt hjl (by omega)
        rw [(List.getElem?_eq_some_iff.1 hj).2] at h4
        exact le_trans h3 h4
    · rw [List.drop_eq_nil_of_le hge] at ha
      cases ha
  refine ⟨?_, ?_, ?_⟩
  · refine List.Perm.trans List.perm_middle ?_
    rw [List.take_append_drop]
    exact (List.Perm.cons _ h.perm).trans (List.perm_append_singleton x xs).symm
  · rw [List.pairwise_append]
    refine ⟨h.sorted.sublist (List.take_sublist _ _), List.pairwise_cons.2 ⟨hup, h.sorted.sublist (List.drop_sublist _ _)⟩, fun a ha b hb => ?_⟩
    rcases List.mem_cons.1 hb with rfl | hb
    · exact hlow a ha
    · exact le_trans (hlow a ha) (hup b hb)
  · rw [List.map_append, List.nodup_append]
    refine ⟨h.keys, by simp, fun a ha b hb => ?_⟩
    rw [List.map_singleton, List.mem_singleton] at hb
    rintro rfl
    subst hb
    exact hno ha
theorem Twin.take {xs L out rest : List Lz} {now : Int} {m : Nat} (h : Twin xs L) (ht : Took xs out rest now) (hd : ∀ b ∈ rest, now < b.2.2) (hu : UpTo L m now) : out = L.take m ∧ Twin rest (L.drop m) := by
  obtain ⟨hm, h1, h2⟩ := hu
  have hlow : ∀ a ∈ L.take m, a.2.2 ≤ now := by
    intro a ha
    obtain ⟨j, hj⟩ := List.getElem?_of_mem ha
    rw [List.getElem?_take] at hj
    split at hj
    · exact h1 j a (by assumption) hj
    · cases hj
  have hup : ∀ a ∈ L.drop m, now < a.2.2 := by
    intro a ha
    rcases Nat.lt_or_ge m L.length with hlt | hge
    · have hy : L[m]? = some L[m] := List.getElem?_eq_getElem hlt
      have h3 := h2 _ hy
      obtain ⟨j, hj⟩ := List.getElem?_of_mem ha
      rw [List.getElem?_drop] at hj
      rcases Nat.eq_zero_or_pos j with rfl | hj0
      · rw [Nat.add_zero, hy] at hj
        cases hj
        exact h3
      · have hjl := (List.getElem?_eq_some_iff.1 hj).1
        have h4 := (List.pairwise_iff_getElem.1 h.sorted) m (m + j) hlt hjl (by omega)
        rw [(List.getElem?_eq_some_iff.1 hj).2, le_iff] at h4
        omega
    · rw [List.drop_eq_nil_of_le hge] at ha
      cases ha
  have hpp : (out ++ rest).Perm (L.take m ++ L.drop m) := by
    rw [List.take_append_drop]
    exact ht.perm.trans h.perm.symm
  have hf := hpp.filter (fun a : Lz => decide (a.2.2 ≤ now))
  rw [List.filter_append, List.filter_append] at hf
  rw [List.filter_eq_self.2 (fun a ha => decide_eq_true (ht.over a ha)), List.filter_eq_nil_iff.2 (fun a ha => by have := hd a ha; simp; omega), List.filter_eq_self.2 (fun a ha => decide_eq_true (hlow a ha)), List.filter_eq_nil_iff.2 (fun a ha => by have := hup a ha; simp; omega), List.append_nil, List.append_nil] at hf
  have e : out = L.take m := hf.eq_of_pairwise (fun a b _ _ hab hba => le_anti hab hba) ht.sorted (h.sorted.sublist (List.take_sublist _ _))
  subst e
  refine ⟨rfl, ((List.perm_append_left_iff _).1 hpp).symm, h.sorted.sublist (List.drop_sublist _ _), ?_⟩
  have hk := (ht.perm.map Lz.key).nodup_iff.2 h.keys
  exact hk.sublist (List.Sublist.map _ (List.sublist_append_right _ _))
theorem Twin.len {xs L : List Lz} (h : Twin xs L) : L.length = xs.length := h.perm.length_eq
theorem Twin.first {xs L : List Lz} (h : Twin xs L) (hh : HeapF (ix xs) xs.length) : ix L 0 = ix xs 0 := by
  have hl := h.len
  cases L with
  | nil =>
    have : xs = [] := List.eq_nil_of_length_eq_zero hl.symm
    subst this
    rfl
  | cons y t =>
    have hx0 : 0 < xs.length := by rw [← hl]; simp
    have hxm : ix xs 0 ∈ xs := List.mem_of_getElem? (ix_some hx0)
    have e : ix (y :: t) 0 = y := rfl
    rw [e]
    have hym : y ∈ xs := h.perm.mem_iff.1 (by simp)
    obtain ⟨c, hc⟩ := List.getElem?_of_mem hym
    have h1 : le (ix xs 0) y := by
      rw [← ix_get hc]
      exact hh.least c (List.getElem?_eq_some_iff.1 hc).1
    have h2 : le y (ix xs 0) := by
      rcases List.mem_cons.1 (h.perm.mem_iff.2 hxm) with h3 | h3
      · rw [h3]; exact le_refl _
      · exact (List.pairwise_cons.1 h.sorted).1 _ h3
    exact le_anti h2 h1
theorem same_true (a : Lz) : foyerlaw26_same.f a.1 a.2.1 a.2.2 a.1 a.2.1 a.2.2 = some true := by simp [foyerlaw26_same.f]
/-! the contracts -/
theorem drop_any {W : World} {r : Nat} {s : St} {xs : List Lz} (h : RowAt W r s xs) (hl : xs.length ≤ 1000) (k1 k2 : Int) (hk : okKey (k1, k2)) :
    Calls Try.prog 17 #[.pointer (some ⟨r, 0, none⟩), .int .i64 k1, .int .u32 k2] W fun e w' => ∃ p : Int, e = .returned (.int .i64 p) ∧ ∃ zs, DropRel xs (k1, k2) p zs ∧ RowOut W w' r s zs :=
  (drop_calls h hl hk).mono fun e w' hh => by
    rcases hh with ⟨h1, rfl, h2⟩ | ⟨x, hx, hxk, rfl, h2⟩
    · exact ⟨_, rfl, _, .inl ⟨h1, rfl, rfl⟩, h2⟩
    · exact ⟨_, rfl, _, .inr ⟨x, hx, hxk, rfl, rfl⟩, h2⟩
theorem rdrop_any {W : World} {q : Nat} {A : Option Addr} {c : Nat} {L : List Lz} (h : RefAt W q A c L) (k1 k2 : Int) :
    Calls Try.prog 18 #[.pointer (some ⟨q, 0, none⟩), .int .i64 k1, .int .u32 k2] W fun e w' => ∃ p : Int, e = .returned (.int .i64 p) ∧ ∃ L' A' c', RDropRel L (k1, k2) p L' ∧ RefAt w' q A' c' L' ∧ Off (fun i => i = q) W w' :=
  (rdrop_calls h (k1, k2)).mono fun e w' hh => by
    obtain ⟨hh, ho⟩ := hh
    rcases hh with ⟨h1, rfl, h2⟩ | ⟨i, x, hx, hxk, rfl, A', c', h2⟩
    · exact ⟨_, rfl, _, _, _, .inl ⟨h1, rfl, rfl⟩, h2, ho⟩
    · exact ⟨_, rfl, _, _, _, .inr ⟨i, x, hx, hxk, rfl, rfl⟩, h2, ho⟩
def AddRel (xs : List Lz) (x : Lz) (p : Int) (zs : List Lz) : Prop := (x.key ∈ xs.map Lz.key ∧ p = 14 ∧ zs = xs) ∨ (x.key ∉ xs.map Lz.key ∧ p = 0 ∧ zs = xs ++ [x])
def RAddRel (L : List Lz) (x : Lz) (p : Int) (L' : List Lz) : Prop := (x.key ∈ L.map Lz.key ∧ p = 14 ∧ L' = L) ∨ (x.key ∉ L.map Lz.key ∧ p = 0 ∧ ∃ m, PlaceOf L m x ∧ L' = L.take m ++ x :: L.drop m)
theorem Twin.added {xs L zs L' : List Lz} {x : Lz} {p p' : Int} (h : Twin xs L) (h1 : AddRel xs x p zs) (h2 : RAddRel L x p' L') : p = p' ∧ Twin zs L' := by
  have hk := h.mem_keys x.key
  rcases h1 with ⟨hin, rfl, rfl⟩ | ⟨hno, rfl, rfl⟩
  · rcases h2 with ⟨_, rfl, rfl⟩ | ⟨hc, _⟩
    · exact ⟨rfl, h⟩
    · exact absurd (hk.2 hin) hc
  · rcases h2 with ⟨hc, _⟩ | ⟨_, rfl, m, hp, rfl⟩
    · exact absurd (hk.1 hc) hno
    · exact ⟨rfl, h.add hno hp⟩
theorem add_any {W : World} {r : Nat} {s : St} {xs : List Lz} (h : RowAt W r s xs) (hl : xs.length < 1000) (k1 k2 k3 : Int) (hx : okLz (k1, k2, k3)) :
    Calls Try.prog 22 #[.pointer (some ⟨r, 0, none⟩), .agg #[.int .i64 k1, .int .u32 k2, .int .u64 k3]] W fun e w' => ∃ p : Int, e = .returned (.int .i64 p) ∧ ∃ zs, AddRel xs (k1, k2, k3) p zs ∧ RowOut W w' r s zs :=
  (add_calls h hl hx).mono fun e w' hh => by
    rcases hh with ⟨h1, rfl, h2⟩ | ⟨h1, rfl, h2⟩
    · exact ⟨_, rfl, _, .inl ⟨h1, rfl, rfl⟩, h2⟩
    · exact ⟨_, rfl, _, .inr ⟨h1, rfl, rfl⟩, h2⟩
theorem radd_any {W : World} {q : Nat} {A : Option Addr} {c : Nat} {L : List Lz} (h : RefAt W q A c L) (hl : L.length ≤ 900) (k1 k2 k3 : Int) :
    Calls Try.prog 23 #[.pointer (some ⟨q, 0, none⟩), .agg #[.int .i64 k1, .int .u32 k2, .int .u64 k3]] W fun e w' => ∃ p : Int, e = .returned (.int .i64 p) ∧ ∃ L' A' c', RAddRel L (k1, k2, k3) p L' ∧ RefAt w' q A' c' L' ∧ Off (fun i => i = q) W w' :=
  (radd_calls h hl (k1, k2, k3)).mono fun e w' hh => by
    obtain ⟨hh, ho⟩ := hh
    rcases hh with ⟨h1, rfl, h2⟩ | ⟨h1, rfl, m, A', c', h2, h3⟩
    · exact ⟨_, rfl, _, _, _, .inl ⟨h1, rfl, rfl⟩, h2, ho⟩
    · exact ⟨_, rfl, _, _, _, .inr ⟨h1, rfl, m, h2, rfl⟩, h3, ho⟩
/-- a state of both rows -/
structure PlAt (W0 W : World) (r q : Nat) (s : St) (xs L : List Lz) (A : Option Addr) (c i : Nat) : Prop where
  row : RowAt W r s xs
  ref : RefAt W q A c L
  foot : ∀ k, s.foot k → W0.heap.size ≤ k
  newQ : W0.heap.size ≤ q
  b : Below W0.heap.size W0 W
  len : xs.length ≤ i
  twin : Twin xs L
theorem PlAt.below {W0 W W' : World} {r q : Nat} {s : St} {xs L : List Lz} {A : Option Addr} {c i : Nat} (h : PlAt W0 W r q s xs L A c i) (hb : Below W.heap.size W W') : PlAt W0 W' r q s xs L A c i :=
  ⟨h.row.below hb, h.ref.below hb, h.foot, h.newQ, below_then h.b h.b.size hb, h.len, h.twin⟩
theorem PlAt.more {W0 W : World} {r q : Nat} {s : St} {xs L : List Lz} {A : Option Addr} {c i : Nat} (h : PlAt W0 W r q s xs L A c i) : PlAt W0 W r q s xs L A c (i + 1) :=
  ⟨h.row, h.ref, h.foot, h.newQ, h.b, Nat.le_succ_of_le h.len, h.twin⟩
theorem below_off {W0 W W' : World} {S : Nat → Prop} (hb : Below W0.heap.size W0 W) (ho : Off S W W') (hS : ∀ k, S k → W0.heap.size ≤ k) : Below W0.heap.size W0 W' :=
  ⟨ho.os.trans hb.os, ho.tape.trans hb.tape, ho.output.trans hb.output, Nat.le_trans hb.size ho.size, fun i hi => (ho.block i (Nat.lt_of_lt_of_le hi hb.size) (fun hc => by have := hS i hc; omega)).trans (hb.block i hi)⟩
/-- between the two calls: the program's row has turned, the reference's not yet -/
structure MidAt (W0 W : World) (r q : Nat) (s : St) (ys L : List Lz) (A : Option Addr) (c : Nat) : Prop where
  row : RowAt W r s ys
  ref : RefAt W q A c L
  foot : ∀ k, s.foot k → W0.heap.size ≤ k
  newQ : W0.heap.size ≤ q
  b : Below W0.heap.size W0 W
theorem PlAt.mid {W0 W W' : World} {r q : Nat} {s : St} {xs L zs : List Lz} {A : Option Addr} {c i : Nat} (h : PlAt W0 W r q s xs L A c i) (o : RowOut W W' r s zs) : ∃ s' ys, ys.Perm zs ∧ MidAt W0 W' r q s' ys L A c := by
  obtain ⟨off, s', ys, h1, h2, h3⟩ := o
  exact ⟨s', ys, h2, h1, h.ref.off h.row.is off, fun k hk => (h3 k hk).elim (h.foot k) (Nat.le_trans h.b.size), h.newQ, below_off h.b off h.foot⟩
theorem MidAt.done {W0 W W' : World} {r q : Nat} {s : St} {ys L L' : List Lz} {A A' : Option Addr} {c c' i : Nat} (h : MidAt W0 W r q s ys L A c) (hr : RefAt W' q A' c' L') (ho : Off (fun i => i = q) W W') (ht : Twin ys L') (hl : ys.length ≤ i) : PlAt W0 W' r q s ys L' A' c' i :=
  ⟨h.row.offRef h.ref.box ho, hr, h.foot, h.newQ, below_off h.b ho (fun k hk => hk ▸ h.newQ), hl, ht⟩
/-- a block of another type stays -/
theorem PlAt.keeps {W0 W W' : World} {r q : Nat} {s : St} {xs L : List Lz} {A : Option Addr} {c i : Nat} (h : PlAt W0 W r q s xs L A c i) (ho : Off s.foot W W') {P : Nat} {cs : Array Value} {t : TypeId} (hP : W.heap[P]? = some (.cells cs t (0, 0))) (h1 : t ≠ 76) (h2 : t ≠ 55) : W'.heap[P]? = some (.cells cs t (0, 0)) :=
  (ho.block P (blk_lt hP) (h.row.is.foot_ne hP h1 h2)).trans hP
theorem off_keeps {W W' : World} {q : Nat} {cq : Array Value} (hq : W.heap[q]? = some (.cells cq 45 (0, 0))) (ho : Off (fun i => i = q) W W') {P : Nat} {cs : Array Value} {t : TypeId} (hP : W.heap[P]? = some (.cells cs t (0, 0))) (h1 : t ≠ 45) : W'.heap[P]? = some (.cells cs t (0, 0)) := by
  refine (ho.block P (blk_lt hP) ?_).trans hP
  rintro rfl
  rw [hq] at hP
  simp at hP
  exact h1 hP.2.symm
theorem DropRel.len {xs zs : List Lz} {k : Int × Int} {p : Int} (h : DropRel xs k p zs) : zs.length ≤ xs.length := by
  rcases h with ⟨_, _, rfl⟩ | ⟨z, _, _, _, rfl⟩
  · exact Nat.le_refl _
  · exact List.length_erase_le
theorem AddRel.len {xs zs : List Lz} {x : Lz} {p : Int} (h : AddRel xs x p zs) : zs.length ≤ xs.length + 1 := by
  rcases h with ⟨_, _, rfl⟩ | ⟨_, _, rfl⟩
  · omega
  · simp
theorem cells_own {t : TypeId} {W : World} {B n : Nat} {A : Option Addr} {c : Nat} {out : List Lz} {j : Nat} {x : Lz} (h : W.ownsRow B t 3 (.slice A n c) out.length (flat out)) (hx : out[j]? = some x) :
    ∃ g, A = some ⟨g, 0, none⟩ ∧ W.cell? ⟨g, j * 3, none⟩ = some (.int .i64 x.1) ∧ W.cell? ⟨g, j * 3 + 1, none⟩ = some (.int .u32 x.2.1) ∧ W.cell? ⟨g, j * 3 + 2, none⟩ = some (.int .u64 x.2.2) := by
  have hi : j < out.length := (List.getElem?_eq_some_iff.1 hx).1
  rcases h.2 with ⟨hv, hn⟩ | ⟨g, cap, cur, hv, _, hg, hle, _, _, _⟩
  · omega
  · obtain ⟨a, b, d⟩ := flat_get out j x hx
    have ho := h
    rw [hv] at ho
    simp only [Value.slice.injEq] at hv
    refine ⟨g, hv.1, ?_, ?_, ?_⟩
    · rw [ho.cellAt (j * 3) (by omega)]; exact a
    · rw [ho.cellAt (j * 3 + 1) (by omega)]; exact b
    · rw [ho.cellAt (j * 3 + 2) (by omega)]; exact d
theorem first_m {W : World} {r : Nat} {s : St} {xs : List Lz} (h : RowAt W r s xs) (hl : xs.length ≤ 1000) {z : Lz} {b : Bool} (hz : ix xs 0 = z) (hb : decide (0 < xs.length) = b) :
    Calls Try.prog 24 #[.pointer (some ⟨r, 0, none⟩)] W fun e w' => e = .returned (.tuple #[.agg #[.int .i64 z.1, .int .u32 z.2.1, .int .u64 z.2.2], .bool b]) ∧ Below W.heap.size W w' := by
  subst hz hb
  exact first_calls h hl
theorem rfirst_m {W : World} {q : Nat} {A : Option Addr} {c : Nat} {L : List Lz} (h : RefAt W q A c L) {z : Lz} {b : Bool} (hz : ix L 0 = z) (hb : decide (0 < L.length) = b) :
    Calls Try.prog 25 #[.pointer (some ⟨q, 0, none⟩)] W fun e w' => e = .returned (.tuple #[.agg #[.int .i64 z.1, .int .u32 z.2.1, .int .u64 z.2.2], .bool b]) ∧ Below W.heap.size W w' := by
  subst hz hb
  exact rfirst_calls h
theorem rlen_m {W : World} {r : Nat} {s : St} {xs : List Lz} (h : RowAt W r s xs) (hl : xs.length ≤ 1000) {m : Nat} (hm : xs.length = m) :
    Calls Try.prog 26 #[.pointer (some ⟨r, 0, none⟩)] W fun e w' => e = .returned (.int .i64 m) ∧ Below W.heap.size W w' := by
  subst hm
  exact rlen_calls h hl
theorem same_calls (z : Lz) (w : World) :
    Calls Try.prog 21 #[.agg #[.int .i64 z.1, .int .u32 z.2.1, .int .u64 z.2.2], .agg #[.int .i64 z.1, .int .u32 z.2.1, .int .u64 z.2.2]] w fun e w' => e = .returned (.bool true) ∧ Below w.heap.size w w' :=
  foyerlaw26_same.calls z.1 z.2.1 z.2.2 z.1 z.2.1 z.2.2 true w (same_true z)
theorem PlAt.midTake {W0 W W' : World} {r q : Nat} {s : St} {xs L out rest : List Lz} {A : Option Addr} {c i : Nat} {now : Int} {v : Value} (h : PlAt W0 W r q s xs L A c i) (o : TakeOut W W' r s xs now v out rest) : ∃ s', MidAt W0 W' r q s' rest L A c := by
  obtain ⟨s', h1, h2, _⟩ := o.here
  exact ⟨s', h1, h.ref.off h.row.is o.off, fun k hk => (h2 k hk).elim (h.foot k) (Nat.le_trans h.b.size), h.newQ, below_off h.b o.off h.foot⟩
/-- what both Takes gave -/
structure GotAt (W : World) (v v2 : Value) (out : List Lz) : Prop where
  a : W.ownsRow 0 55 3 v out.length (flat out)
  b : W.ownsRow 0 56 3 v2 out.length (flat out)
theorem GotAt.below {W W' : World} {v v2 : Value} {out : List Lz} (h : GotAt W v v2 out) (hb : Below W.heap.size W W') : GotAt W' v v2 out := ⟨pw_own_below h.a hb, pw_own_below h.b hb⟩
theorem PlAt.tookBoth {W0 W W1 W2 : World} {r q : Nat} {s s' : St} {xs L out rest : List Lz} {A A' : Option Addr} {c c' i m : Nat} {now : Int} {v v2 : Value} (h : PlAt W0 W r q s xs L A c i) (o : TakeOut W W1 r s xs now v out rest)
    (hm : MidAt W0 W1 r q s' rest L A c) (hu : UpTo L m now) (hown : W2.ownsRow W1.heap.size 56 3 v2 m (flat (L.take m))) (hr : RefAt W2 q A' c' (L.drop m)) (ho : Off (fun i => i = q) W1 W2) :
    PlAt W0 W2 r q s' rest (L.drop m) A' c' (i + 1) ∧ GotAt W2 v v2 out ∧ out.length ≤ 1000 := by
  obtain ⟨e, ht⟩ := h.twin.take o.took o.done hu
  have hpl := o.took.perm.length_eq
  rw [List.length_append] at hpl
  have hel : out.length = m := by rw [e, List.length_take]; exact Nat.min_eq_left hu.1
  refine ⟨hm.done hr ho ht (by have := h.len; omega), ⟨?_, ?_⟩, ?_⟩
  · refine own_move (own_weaken o.own (Nat.zero_le _)) fun k hk => ho.block k (own_lt o.own k hk) ?_
    rintro rfl
    exact own_ne o.own hm.ref.box (by decide) hk.symm
  · rw [← e, ← hel] at hown
    exact own_weaken hown (Nat.zero_le _)
  · have := h.ref.len
    rw [hel]
    exact Nat.le_trans hu.1 this
end Go.Proofs.Ytfkbiecbnjddmaa
