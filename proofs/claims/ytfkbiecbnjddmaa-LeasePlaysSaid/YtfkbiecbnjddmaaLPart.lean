/- The footprint of a row of leases, and what stays. -/
import Derived.Test.YtfkbiecbnjddmaaLRow
namespace Go.Proofs.Ytfkbiecbnjddmaa
open Go.RowKit Go.MapKept Go.ChangeMaps Go.Proofs.YtfkbiecbnjddmaaW.PrintWords
set_option linter.unusedSimpArgs false
/-- a row whose map is as it may be -/
structure Is' (W : World) (s : St) (xs : List Lz) (R : Int × Int → Int → Prop) : Prop where
  list : W.heap[s.L]? = some (.cells #[s.v, .map (some s.M)] 76 (0, 0))
  own : W.ownsRow 0 55 3 s.v xs.length (flat xs)
  map : ∃ n, MapIs W s.M .i64 R n
theorem Is.to' {W : World} {s : St} {xs : List Lz} (h : Is W s xs) : Is' W s xs (Pos xs) := ⟨h.list, h.own, h.map⟩
theorem Is'.cells {W : World} {s : St} {xs : List Lz} {R : Int × Int → Int → Prop} (h : Is' W s xs R) {i : Nat} {x : Lz} (hx : xs[i]? = some x) {g n cap : Nat} (hv : s.v = .slice (some ⟨g, 0, none⟩) n cap) :
    W.cell? ⟨g, i * 3, none⟩ = some (.int .i64 x.1) ∧ W.cell? ⟨g, i * 3 + 1, none⟩ = some (.int .u32 x.2.1) ∧ W.cell? ⟨g, i * 3 + 2, none⟩ = some (.int .u64 x.2.2) := by
  have hi : i < xs.length := (List.getElem?_eq_some_iff.1 hx).1
  rcases h.own.2 with ⟨hv', hn⟩ | ⟨g', cap', cur, hv', _, hg, hle, _, _, _⟩
  · omega
  · have ho := h.own
    rw [hv] at hv'
    simp only [Value.slice.injEq, Option.some.injEq, Addr.mk.injEq, and_true, true_and] at hv'
    obtain ⟨rfl, rfl, rfl⟩ := hv'
    rw [hv] at ho
    obtain ⟨a, b, c⟩ := flat_get xs i x hx
    refine ⟨?_, ?_, ?_⟩
    · rw [ho.cellAt (i * 3) (by omega)]; exact a
    · rw [ho.cellAt (i * 3 + 1) (by omega)]; exact b
    · rw [ho.cellAt (i * 3 + 2) (by omega)]; exact c
theorem Off.refl (S : Nat → Prop) (w : World) : Off S w w := ⟨rfl, rfl, rfl, Nat.le_refl _, fun _ _ _ => rfl⟩
theorem Off.of_below {S : Nat → Prop} {w w1 w2 : World} (h : Off S w w1) (k : Below w1.heap.size w1 w2) : Off S w w2 :=
  ⟨k.os.trans h.os, k.tape.trans h.tape, k.output.trans h.output, Nat.le_trans h.size k.size, fun i hi hs => (k.block i (Nat.lt_of_lt_of_le hi h.size)).trans (h.block i hi hs)⟩
theorem Off.below {S : Nat → Prop} {w w1 : World} (k : Below w.heap.size w w1) : Off S w w1 := Off.of_below (Off.refl S w) k
theorem Off.trans {S T : Nat → Prop} {w w1 w2 : World} (h : Off S w w1) (k : Off T w1 w2) (hT : ∀ i, T i → S i ∨ w.heap.size ≤ i) : Off S w w2 :=
  ⟨k.os.trans h.os, k.tape.trans h.tape, k.output.trans h.output, Nat.le_trans h.size k.size, fun i hi hs => (k.block i (Nat.lt_of_lt_of_le hi h.size) (fun ht => (hT i ht).elim hs (fun h => by omega))).trans (h.block i hi hs)⟩
theorem Off.set {S : Nat → Prop} {w w1 : World} (h : Off S w w1) {p : Addr} (hp : S p.block) (u : Value) : Off S w (w1.setCell p u) := by
  refine ⟨?_, ?_, ?_, ?_, fun i hi hs => ?_⟩
  · rw [← h.os]; unfold World.setCell; split <;> rfl
  · rw [← h.tape]; unfold World.setCell; split <;> rfl
  · rw [← h.output]; unfold World.setCell; split <;> rfl
  · have : (w1.setCell p u).heap.size = w1.heap.size := by simp [World.setCell]
    rw [this]; exact h.size
  · rw [Below.heap_setCell w1 p u i (fun e => hs (e ▸ hp))]; exact h.block i hi hs
theorem Off.setB {S : Nat → Prop} {w w1 : World} (h : Off S w w1) {b : Nat} (hp : S b) (o : Obj) : Off S w (setBlock w1 b o) := by
  refine ⟨h.os, h.tape, h.output, by simpa [setBlock] using h.size, fun i hi hs => ?_⟩
  have hne : b ≠ i := fun e => hs (e ▸ hp)
  have : (setBlock w1 b o).heap[i]? = w1.heap[i]? := by simp [setBlock, Array.getElem?_setIfInBounds, hne]
  exact this.trans (h.block i hi hs)
theorem Off.drew {S : Nat → Prop} {w w1 : World} (h : Off S w w1) : Off S w w1.drew := ⟨h.os, h.tape, h.output, h.size, h.block⟩

theorem MapIs.block_ne {W : World} {M : Nat} {kd : IntKind} {R : Int × Int → Int → Prop} {n g : Nat} (h : MapIs W M kd R n) {cs : Array Value} {t : TypeId} {fr : Nat × Nat} (hg : W.heap[g]? = some (.cells cs t fr)) : M ≠ g := by
  rintro rfl
  obtain ⟨es, cl, h1⟩ := h.block
  rw [hg] at h1
  cases h1
theorem Is'.ne {W : World} {s : St} {xs : List Lz} {R : Int × Int → Int → Prop} (h : Is' W s xs R) {g n cap : Nat} (hv : s.v = .slice (some ⟨g, 0, none⟩) n cap) : s.L ≠ g ∧ s.M ≠ g ∧ s.M ≠ s.L := by
  obtain ⟨n', hm⟩ := h.map
  rcases h.own.2 with ⟨hv', _⟩ | ⟨g', cap', cur, hv', _, hg, _⟩
  · rw [hv] at hv'; simp at hv'
  · rw [hv] at hv'
    simp only [Value.slice.injEq, Option.some.injEq, Addr.mk.injEq, and_true, true_and] at hv'
    obtain ⟨rfl, rfl, rfl⟩ := hv'
    refine ⟨fun e => ?_, hm.block_ne hg, hm.block_ne h.list⟩
    rw [← e, h.list] at hg
    simp at hg

/-- a lease is stored over another -/
theorem Is'.store3 {W : World} {s : St} {xs : List Lz} {R : Int × Int → Int → Prop} (h : Is' W s xs R) {g n cap : Nat} (hv : s.v = .slice (some ⟨g, 0, none⟩) n cap) {i : Nat} (hi : i < xs.length) (z : Lz) :
    Is' (((W.setCell ⟨g, i * 3, none⟩ (.int .i64 z.1)).setCell ⟨g, i * 3 + 1, none⟩ (.int .u32 z.2.1)).setCell ⟨g, i * 3 + 2, none⟩ (.int .u64 z.2.2)) s (xs.set i z) R := by
  obtain ⟨n1, n2, _⟩ := h.ne hv
  obtain ⟨m, hm⟩ := h.map
  have ho := h.own
  rw [hv] at ho
  have hn : n = xs.length := by
    rcases ho.2 with ⟨hv', _⟩ | ⟨g', cap', cur, hv', _⟩
    · simp at hv'
    · simp only [Value.slice.injEq] at hv'; exact hv'.2.1
  subst hn
  have hlen : (xs.set i z).length = xs.length := List.length_set
  refine ⟨?_, ?_, m, hm.congr ?_ (fun _ _ => Iff.rfl)⟩
  · rw [Below.heap_setCell _ _ _ _ n1, Below.heap_setCell _ _ _ _ n1, Below.heap_setCell _ _ _ _ n1]; exact h.list
  · rw [hlen, hv, flat_set xs i z hi]
    exact ((ho.stored _ _).1.stored _ _).1.stored _ _ |>.1
  · rw [Below.heap_setCell _ _ _ _ n2, Below.heap_setCell _ _ _ _ n2, Below.heap_setCell _ _ _ _ n2]
end Go.Proofs.Ytfkbiecbnjddmaa
