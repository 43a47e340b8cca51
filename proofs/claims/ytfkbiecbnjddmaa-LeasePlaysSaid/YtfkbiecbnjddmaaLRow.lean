/- A row of leases in memory: the list's block, its slice, its map; and the plain words of its order. -/
import Derived.Test.YtfkbiecbnjddmaaLMap
import Derived.StillTailTactics
import Derived.Lib.Hide
namespace Go.Proofs.Ytfkbiecbnjddmaa
open Go.RowKit Go.MapKept Go.ChangeMaps Go.Proofs.YtfkbiecbnjddmaaW.PrintWords

/-- a lease: event, id, until -/
abbrev Lz := Int × Int × Int
def Lz.key (x : Lz) : Int × Int := (x.1, x.2.1)
def Lz.cs (x : Lz) : List Value := [.int .i64 x.1, .int .u32 x.2.1, .int .u64 x.2.2]
def Lz.val (x : Lz) : Value := .agg #[.int .i64 x.1, .int .u32 x.2.1, .int .u64 x.2.2]
def flat (xs : List Lz) : List Value := xs.flatMap Lz.cs
def okLz (x : Lz) : Prop := (Lit.int .i64 x.1).wf = true ∧ (Lit.int .u32 x.2.1).wf = true ∧ (Lit.int .u64 x.2.2).wf = true
def less (a b : Lz) : Bool := if a.2.2 = b.2.2 then (if a.1 = b.1 then decide (a.2.1 < b.2.1) else decide (a.1 < b.1)) else decide (a.2.2 < b.2.2)

theorem flat_length (xs : List Lz) : (flat xs).length = xs.length * 3 := by
  induction xs with
  | nil => rfl
  | cons a r ih => simp [flat, Lz.cs] at ih ⊢; omega
theorem flat_append (xs ys : List Lz) : flat (xs ++ ys) = flat xs ++ flat ys := by simp [flat]
theorem flat_get : ∀ (xs : List Lz) (i : Nat) (x : Lz), xs[i]? = some x → (flat xs)[i * 3]? = some (.int .i64 x.1) ∧ (flat xs)[i * 3 + 1]? = some (.int .u32 x.2.1) ∧ (flat xs)[i * 3 + 2]? = some (.int .u64 x.2.2)
  | [], i, x, h => by simp at h
  | a :: r, 0, x, h => by simp at h; subst h; simp [flat, Lz.cs]
  | a :: r, i + 1, x, h => by
    have ih := flat_get r i x (by simpa using h)
    have e : flat (a :: r) = Lz.cs a ++ flat r := by simp [flat]
    rw [e]
    have hl : (Lz.cs a).length = 3 := rfl
    refine ⟨?_, ?_, ?_⟩
    · rw [List.getElem?_append_right (by rw [hl]; omega), hl, show (i + 1) * 3 - 3 = i * 3 by omega]; exact ih.1
    · rw [List.getElem?_append_right (by rw [hl]; omega), hl, show (i + 1) * 3 + 1 - 3 = i * 3 + 1 by omega]; exact ih.2.1
    · rw [List.getElem?_append_right (by rw [hl]; omega), hl, show (i + 1) * 3 + 2 - 3 = i * 3 + 2 by omega]; exact ih.2.2
theorem flat_set : ∀ (xs : List Lz) (i : Nat) (x : Lz), i < xs.length → flat (xs.set i x) = (((flat xs).set (i * 3) (.int .i64 x.1)).set (i * 3 + 1) (.int .u32 x.2.1)).set (i * 3 + 2) (.int .u64 x.2.2)
  | [], i, x, h => by simp at h
  | a :: r, 0, x, h => by simp [flat, Lz.cs]
  | a :: r, i + 1, x, h => by
    have ih := flat_set r i x (by simpa using h)
    have e : ∀ (b : Lz) (t : List Lz), flat (b :: t) = .int .i64 b.1 :: .int .u32 b.2.1 :: .int .u64 b.2.2 :: flat t := fun b t => by simp [flat, Lz.cs]
    rw [List.set_cons_succ, e, e, ih]
    rw [show (i + 1) * 3 = i * 3 + 3 by omega, show i * 3 + 3 + 1 = (i * 3 + 1) + 3 by omega, show i * 3 + 3 + 2 = (i * 3 + 2) + 3 by omega]
    simp only [List.set_cons_succ]

/-- where each key stands -/
def Pos (xs : List Lz) (k : Int × Int) (p : Int) : Prop := ∃ (j : Nat) (x : Lz), xs[j]? = some x ∧ x.key = k ∧ p = (j : Int)

structure St where
  L : Nat
  M : Nat
  v : Value
def St.foot (s : St) (i : Nat) : Prop := i = s.L ∨ i = s.M ∨ s.v.ownBlock = some i

structure Is (W : World) (s : St) (xs : List Lz) : Prop where
  list : W.heap[s.L]? = some (.cells #[s.v, .map (some s.M)] 76 (0, 0))
  own : W.ownsRow 0 55 3 s.v xs.length (flat xs)
  map : ∃ n, MapIs W s.M .i64 (Pos xs) n
  okays : ∀ x ∈ xs, okLz x
  keys : (xs.map Lz.key).Nodup

/-- What is not of the footprint stays. -/
structure Off (S : Nat → Prop) (w w' : World) : Prop where
  os : w'.os = w.os
  tape : w'.tape = w.tape
  output : w'.output = w.output
  size : w.heap.size ≤ w'.heap.size
  block : ∀ i, i < w.heap.size → ¬ S i → w'.heap[i]? = w.heap[i]?

def rowPtr (s : St) : Value := .pointer (some ⟨s.L, 0, none⟩)
def hv (s : St) : Value := .iface 78 (.agg #[rowPtr s])

/-- the slice of a row that is not empty, and its cells -/
theorem Is.cells {W : World} {s : St} {xs : List Lz} (h : Is W s xs) {i : Nat} {x : Lz} (hx : xs[i]? = some x) :
    ∃ g cap, s.v = .slice (some ⟨g, 0, none⟩) xs.length cap ∧ xs.length ≤ cap ∧ W.cell? ⟨g, i * 3, none⟩ = some (.int .i64 x.1) ∧ W.cell? ⟨g, i * 3 + 1, none⟩ = some (.int .u32 x.2.1) ∧ W.cell? ⟨g, i * 3 + 2, none⟩ = some (.int .u64 x.2.2) := by
  have hi : i < xs.length := (List.getElem?_eq_some_iff.1 hx).1
  rcases h.own.2 with ⟨hv, hn⟩ | ⟨g, cap, cur, hv, _, hg, hle, _, _, _⟩
  · omega
  · refine ⟨g, cap, hv, hle, ?_⟩
    have ho := h.own
    rw [hv] at ho
    obtain ⟨a, b, c⟩ := flat_get xs i x hx
    refine ⟨?_, ?_, ?_⟩
    · rw [ho.cellAt (i * 3) (by omega)]; exact a
    · rw [ho.cellAt (i * 3 + 1) (by omega)]; exact b
    · rw [ho.cellAt (i * 3 + 2) (by omega)]; exact c
end Go.Proofs.Ytfkbiecbnjddmaa
