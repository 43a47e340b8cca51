import Derived.Test.YtfkbiecbnjddmaaLLess
import Derived.Test.YtfkbiecbnjddmaaLPart
namespace Go.Proofs.Ytfkbiecbnjddmaa
open Go.RowKit Go.MapKept Go.ChangeMaps Go.Proofs.YtfkbiecbnjddmaaW.PrintWords
set_option linter.unusedVariables false

theorem who_eq (x : Lz) : lease_Lease_who.f x.1 x.2.1 x.2.2 = some (x.1, x.2.1) := rfl
/-- between the stores into the map: all but the two keys are as they were -/
structure SwapS (s : St) (xs ys : List Lz) (k1 k2 : Int × Int) (W0 W : World) : Prop where
  off : Off s.foot W0 W
  here : ∃ R, Is' W s ys R ∧ (∀ k p, k ≠ k1 → k ≠ k2 → (R k p ↔ Pos xs k p)) ∧ (∃ p, R k1 p) ∧ (∃ p, R k2 p)
theorem SwapS.start {s : St} {xs ys : List Lz} {W0 W : World} {i k : Nat} {x y : Lz} (hx : xs[i]? = some x) (hy : xs[k]? = some y) (h : Is' W s ys (Pos xs)) (ho : Off s.foot W0 W) : SwapS s xs ys y.key x.key W0 W :=
  ⟨ho, Pos xs, h, fun _ _ _ _ => Iff.rfl, ⟨k, k, y, hy, rfl, rfl⟩, ⟨i, i, x, hx, rfl, rfl⟩⟩
theorem Is'.below {W W' : World} {s : St} {xs : List Lz} {R : Int × Int → Int → Prop} (h : Is' W s xs R) (hb : Below W.heap.size W W') : Is' W' s xs R := by
  obtain ⟨n, hm⟩ := h.map
  exact ⟨blk_below h.list hb, pw_own_below h.own hb, n, hm.congr (hb.block _ hm.lt) (fun _ _ => Iff.rfl)⟩
theorem SwapS.below {s : St} {xs ys : List Lz} {k1 k2 : Int × Int} {W0 W W' : World} (h : SwapS s xs ys k1 k2 W0 W) (hb : Below W.heap.size W W') : SwapS s xs ys k1 k2 W0 W' := by
  obtain ⟨ho, R, hi, h1, h2, h3⟩ := h
  exact ⟨ho.of_below hb, R, hi.below hb, h1, h2, h3⟩
/-- the first key's place is stored -/
structure SwapT (s : St) (xs ys : List Lz) (k1 k2 : Int × Int) (i : Nat) (W0 W : World) : Prop where
  off : Off s.foot W0 W
  here : ∃ R, Is' W s ys R ∧ (∀ k p, k ≠ k1 → k ≠ k2 → (R k p ↔ Pos xs k p)) ∧ (∀ p, R k1 p ↔ p = (i : Int)) ∧ (∃ p, R k2 p)
structure SwapE (s : St) (ys : List Lz) (W0 W : World) : Prop where
  off : Off s.foot W0 W
  here : Is' W s ys (Pos ys)
/-- a stamp of the map -/
def Stamp (M : Nat) (W : World) (k : Int × Int) (v : Value) : Prop := ∃ st : Nat, v = goInt st ∧ ∀ es clock, W.heap[M]? = some (.map es clock) → EntryAt es k st

theorem zero3 (w : World) : (zeroValue 3).run Try.prog w = .ok (.int .i64 0) w := by kernel_rfl

theorem SwapS.entry {s : St} {xs ys : List Lz} {k1 k2 k : Int × Int} {W0 W : World} (h : SwapS s xs ys k1 k2 W0 W) (hk : okKey k) (hkk : k = k1 ∨ k = k2) :
    ∃ (p : Int) (v : Value), (Instr.mapEntry 74 (.map (some s.M)) (keyV k)).run Try.prog W = .ok (.tuple #[.int .i64 p, v]) W ∧ Hid (Stamp s.M W k v) := by
  obtain ⟨ho, R, hi, h1, ⟨p1, h2⟩, ⟨p2, h3⟩⟩ := h
  obtain ⟨n, hm⟩ := hi.map
  rcases hkk with rfl | rfl
  · obtain ⟨st, hr, hs⟩ := hm.entry key87 Try.underlying74 hk h2
    exact ⟨_, _, hr, Lib.hid ⟨st, rfl, hs⟩⟩
  · obtain ⟨st, hr, hs⟩ := hm.entry key87 Try.underlying74 hk h3
    exact ⟨_, _, hr, Lib.hid ⟨st, rfl, hs⟩⟩

theorem Is'.setM {W : World} {s : St} {xs : List Lz} {R R' : Int × Int → Int → Prop} {n : Nat} {o : Obj} (h : Is' W s xs R) (hm : MapIs (setBlock W s.M o) s.M .i64 R' n) : Is' (setBlock W s.M o) s xs R' := by
  obtain ⟨n0, hm0⟩ := h.map
  have hne : s.M ≠ s.L := hm0.block_ne h.list
  have hb : ∀ i, s.M ≠ i → (setBlock W s.M o).heap[i]? = W.heap[i]? := fun i hi => by simp [setBlock, hi]
  refine ⟨(hb _ hne).trans h.list, own_move h.own (fun k hk => hb k ?_), n, hm⟩
  obtain ⟨cells, hc⟩ := own_typed h.own k hk
  exact hm0.block_ne hc

theorem SwapS.store {s : St} {xs ys : List Lz} {k1 k2 : Int × Int} {W0 W : World} (h : SwapS s xs ys k1 k2 W0 W) (hk : okKey k1) {v : Value} (hv : Hid (Stamp s.M W k1 v)) (i : Nat) :
    ∃ w', (Instr.entryStore 74 (.map (some s.M)) v (.int .i64 i)).run Try.prog W = .ok () w' ∧ Hid (SwapS s xs ys k1 k2 W0 w') ∧ Hid (SwapT s xs ys k1 k2 i W0 w') ∧ ∀ j, j ≠ s.M → w'.heap[j]? = W.heap[j]? := by
  obtain ⟨ho, R, hi, h1, ⟨p1, h2⟩, ⟨p2, h3⟩⟩ := h
  obtain ⟨n, hm⟩ := hi.map
  obtain ⟨st, rfl, hst⟩ := hv.out
  obtain ⟨es, cl, hr, hm', _⟩ := hm.entryStore (t := 74) hk hst (i : Int)
  have hi' := hi.setM hm'
  have ho' := ho.setB (b := s.M) (.inr (.inl rfl)) (.map es cl)
  have c1 : ∀ k p, k ≠ k1 → k ≠ k2 → (putR R k1 i k p ↔ Pos xs k p) := fun k p n1 n2 => by
    rw [← h1 k p n1 n2]
    simp [putR, n1]
  have c2 : ∃ p, putR R k1 i k2 p := by
    by_cases e : k2 = k1
    · exact ⟨i, .inl ⟨e, rfl⟩⟩
    · exact ⟨p2, .inr ⟨e, h3⟩⟩
  refine ⟨_, hr, Lib.hid ⟨ho', _, hi', c1, ⟨i, .inl ⟨rfl, rfl⟩⟩, c2⟩, Lib.hid ⟨ho', _, hi', c1, fun p => ?_, c2⟩, fun j hj => by simp [setBlock, Ne.symm hj]⟩
  simp [putR]

theorem Pos_swap {xs : List Lz} (hn : (xs.map Lz.key).Nodup) {i k : Nat} {x y : Lz} (hx : xs[i]? = some x) (hy : xs[k]? = some y) {ys : List Lz} (hys : (xs.set i y).set k x = ys) {R : Int × Int → Int → Prop}
    (h1 : ∀ q p, q ≠ y.key → q ≠ x.key → (R q p ↔ Pos xs q p)) (h2 : ∀ p, R y.key p ↔ p = (i : Int)) (q : Int × Int) (p : Int) : Pos ys q p ↔ putR R x.key k q p := by
  have hil : i < xs.length := (List.getElem?_eq_some_iff.1 hx).1
  have hkl : k < xs.length := (List.getElem?_eq_some_iff.1 hy).1
  have inj : ∀ (a b : Nat) (u v : Lz), xs[a]? = some u → xs[b]? = some v → u.key = v.key → a = b := by
    intro a b u v ha hb hk
    obtain ⟨ha1, ha2⟩ := List.getElem?_eq_some_iff.1 ha
    obtain ⟨hb1, hb2⟩ := List.getElem?_eq_some_iff.1 hb
    have := (List.nodup_iff_pairwise_ne.1 hn)
    rw [List.pairwise_iff_getElem] at this
    rcases Nat.lt_trichotomy a b with h | h | h
    · exact absurd (by rw [List.getElem_map, List.getElem_map, ha2, hb2, hk]) (this a b (by simpa using ha1) (by simpa using hb1) h)
    · exact h
    · exact absurd (by rw [List.getElem_map, List.getElem_map, ha2, hb2, hk]) (this b a (by simpa using hb1) (by simpa using ha1) h)
  have gk : ys[k]? = some x := by rw [← hys, List.getElem?_set_self (by rw [List.length_set]; exact hkl)]
  have gi : i ≠ k → ys[i]? = some y := fun e => by rw [← hys, List.getElem?_set_ne (Ne.symm e), List.getElem?_set_self hil]
  have go : ∀ j, j ≠ i → j ≠ k → ys[j]? = xs[j]? := fun j e1 e2 => by rw [← hys, List.getElem?_set_ne (Ne.symm e2), List.getElem?_set_ne (Ne.symm e1)]
  constructor
  · rintro ⟨j, z, hj, rfl, rfl⟩
    by_cases e : j = k
    · subst e
      rw [gk] at hj
      cases hj
      exact .inl ⟨rfl, rfl⟩
    · by_cases e2 : j = i
      · subst e2
        rw [gi e] at hj
        cases hj
        exact .inr ⟨fun hh => e (inj _ _ _ _ hy hx hh).symm, (h2 _).2 rfl⟩
      · rw [go j e2 e] at hj
        have n1 : z.key ≠ y.key := fun hh => e (inj _ _ _ _ hj hy hh)
        have n2 : z.key ≠ x.key := fun hh => e2 (inj _ _ _ _ hj hx hh)
        exact .inr ⟨n2, (h1 _ _ n1 n2).2 ⟨j, z, hj, rfl, rfl⟩⟩
  · rintro (⟨rfl, rfl⟩ | ⟨hne, hr⟩)
    · exact ⟨k, x, gk, rfl, rfl⟩
    · by_cases e : q = y.key
      · subst e
        rw [(h2 p).1 hr]
        have : i ≠ k := fun e => by
          subst e
          rw [hx] at hy
          cases hy
          exact hne rfl
        exact ⟨i, y, gi this, rfl, rfl⟩
      · obtain ⟨j, z, hj, rfl, rfl⟩ := (h1 q p e hne).1 hr
        have e1 : j ≠ i := fun hh => by subst hh; rw [hx] at hj; cases hj; exact hne rfl
        have e2 : j ≠ k := fun hh => by subst hh; rw [hy] at hj; cases hj; exact e rfl
        exact ⟨j, z, (go j e1 e2).trans hj, rfl, rfl⟩

theorem SwapT.store {s : St} {xs ys : List Lz} {W0 W : World} {i k : Nat} {x y : Lz} (h : SwapT s xs ys y.key x.key i W0 W) (hk : okKey x.key) (hn : (xs.map Lz.key).Nodup) (hx : xs[i]? = some x) (hy : xs[k]? = some y) (hys : (xs.set i y).set k x = ys)
    {v : Value} (hv : Hid (Stamp s.M W x.key v)) :
    ∃ w', (Instr.entryStore 74 (.map (some s.M)) v (.int .i64 k)).run Try.prog W = .ok () w' ∧ Hid (SwapE s ys W0 w') ∧ Hid (SwapS s xs ys y.key x.key W0 w') ∧ ∀ j, j ≠ s.M → w'.heap[j]? = W.heap[j]? := by
  obtain ⟨ho, R, hi, h1, h2, p2, h3⟩ := h
  obtain ⟨n, hm⟩ := hi.map
  obtain ⟨st, rfl, hst⟩ := hv.out
  obtain ⟨es, cl, hr, hm', _⟩ := hm.entryStore (t := 74) hk hst (k : Int)
  have hi' := hi.setM hm'
  have ho' := ho.setB (b := s.M) (.inr (.inl rfl)) (.map es cl)
  have hiff := Pos_swap hn hx hy hys h1 h2
  refine ⟨_, hr, Lib.hid ⟨ho', hi'.list, hi'.own, n, hm'.congr rfl hiff⟩, Lib.hid ⟨ho', _, hi', fun q p n1 n2 => ?_, ?_, ⟨k, .inl ⟨rfl, rfl⟩⟩⟩, fun j hj => by simp [setBlock, Ne.symm hj]⟩
  · rw [← h1 q p n1 n2]; simp [putR, n2]
  · by_cases e : y.key = x.key
    · exact ⟨k, .inl ⟨e, rfl⟩⟩
    · exact ⟨i, .inr ⟨e, (h2 _).2 rfl⟩⟩

end Go.Proofs.Ytfkbiecbnjddmaa
