/- A slice of acts that came in: its cells, in their kinds. -/
import Derived.Test.YtfkbiecbnjddmaaLRecs
namespace Go.Proofs.Ytfkbiecbnjddmaa
open Go.RowKit Go.Proofs.YtfkbiecbnjddmaaW.PrintWords Go.ChangeShapes Go.WideShapes Go.Deep
set_option linter.unusedVariables false
set_option linter.unusedSimpArgs false
set_option maxRecDepth 100000
/-- what, event, id, time -/
abbrev Ac := Int × Int × Int × Int
def okAc (a : Ac) : Prop := (Lit.int .u8 a.1).wf = true ∧ (Lit.int .i8 a.2.1).wf = true ∧ (Lit.int .u32 a.2.2.1).wf = true ∧ (Lit.int .u64 a.2.2.2).wf = true
/-- A slice of acts is read. -/
def ActsAt (W : World) (a : Option Addr) (xs : List Ac) : Prop :=
  ∀ i x, xs[i]? = some x → okAc x ∧ ∃ ad, a = some ad ∧ W.cell? (ad.add (i * 4)) = some (.int .u8 x.1) ∧ W.cell? ⟨(ad.add (i * 4)).block, (ad.add (i * 4)).off + 1, none⟩ = some (.int .i8 x.2.1) ∧
    W.cell? ⟨(ad.add (i * 4)).block, (ad.add (i * 4)).off + 2, none⟩ = some (.int .u32 x.2.2.1) ∧ W.cell? ⟨(ad.add (i * 4)).block, (ad.add (i * 4)).off + 3, none⟩ = some (.int .u64 x.2.2.2)
theorem ActsAt.below {W W' : World} {a : Option Addr} {xs : List Ac} (h : ActsAt W a xs) (hb : Below W.heap.size W W') : ActsAt W' a xs := by
  intro i x hx
  obtain ⟨h0, ad, h1, c0, c1, c2, c3⟩ := h i x hx
  exact ⟨h0, ad, h1, pw_cell_below hb c0, pw_cell_below hb c1, pw_cell_below hb c2, pw_cell_below hb c3⟩
section
variable {H : Type} {enc : TypeId × Value → H} {W : World} {base : Nat} {spare : Nat → Bool} {held : Bool}
theorem act_cells {fuel : Nat} {cs : List Value} {x : DataW H × List MemPlace} (h : DataW.trod enc Try.prog W base spare held fuel 48 cs = some x) :
    ∃ r : Ac, okAc r ∧ cs = [.int .u8 r.1, .int .i8 r.2.1, .int .u32 r.2.2.1, .int .u64 r.2.2.2] := by
  obtain ⟨xs, n, rfl, _, hl, hxl, hf⟩ := DataW.trod_struct Try.underlying48 h
  have h48 : Try.prog.cellsOf 48 = 4 := by kernel_rfl
  rw [h48] at hl
  match cs, hl with
  | [c0, c1, c2, c3], _ =>
    have g : ∀ (i : Nat), i < 4 → ∃ y, xs[i]? = some y := fun i hi => ⟨_, List.getElem?_eq_getElem (by rw [hxl]; exact hi)⟩
    obtain ⟨y0, g0⟩ := g 0 (by omega)
    obtain ⟨y1, g1⟩ := g 1 (by omega)
    obtain ⟨y2, g2⟩ := g 2 (by omega)
    obtain ⟨y3, g3⟩ := g 3 (by omega)
    have e0 := (hf 0 _ rfl).trans g0
    have e1 := (hf 1 _ rfl).trans g1
    have e2 := (hf 2 _ rfl).trans g2
    have e3 := (hf 3 _ rfl).trans g3
    obtain ⟨b0, k0, _, w0⟩ := DataW.trod_int (k := .u8) (by kernel_rfl) e0
    obtain ⟨b1, k1, _, w1⟩ := DataW.trod_int (k := .i8) (by kernel_rfl) e1
    obtain ⟨b2, k2, _, w2⟩ := DataW.trod_int (k := .u32) (by kernel_rfl) e2
    obtain ⟨b3, k3, _, w3⟩ := DataW.trod_int (k := .u64) (by kernel_rfl) e3
    have one : ∀ t : TypeId, Try.prog.cellsOf t = 1 → ∀ (l : List Value), l.take (Try.prog.cellsOf t) = l.take 1 := fun t ht l => by rw [ht]
    rw [one _ (by kernel_rfl)] at k0 k1 k2 k3
    simp at k0 k1 k2 k3
    subst k0 k1 k2 k3
    exact ⟨(b0, b1, b2, b3), ⟨w0, w1, w2, w3⟩, rfl⟩
theorem acts_C {a : Option Addr} {len cap : Nat} {d : DataW H} {ps : List MemPlace} (h : DataW.Trod enc Try.prog W base spare held 39 (.slice a len cap) d ps) :
    ∃ xs : List Ac, xs.length = len ∧ len ≤ cap ∧ ActsAt W a xs := by
  obtain ⟨fuel, hf⟩ := h
  rcases open_slice Try.underlying39 hf with ⟨hcs, _⟩ | ⟨x, l, c, m, n, D, Pl, hcs, _, hl, hm, hmm, _, hel⟩
  · simp [Value.cells] at hcs
    obtain ⟨rfl, rfl, rfl⟩ := hcs
    exact ⟨[], rfl, Nat.le_refl _, fun i x hx => by simp at hx⟩
  · simp [Value.cells] at hcs
    obtain ⟨rfl, rfl, rfl⟩ := hcs
    have hlm : len ≤ m := by rw [hmm]; split <;> omega
    have h48 : Try.prog.cellsOf 48 = 4 := by kernel_rfl
    have hR : ∀ i : Nat, ∃ r : Ac, i < len → okAc r ∧ ∀ j u, [Value.int .u8 r.1, .int .i8 r.2.1, .int .u32 r.2.2.1, .int .u64 r.2.2.2][j]? = some u → W.cell? (x.add (i * 4 + j)) = some u := by
      intro i
      by_cases hi : i < len
      · obtain ⟨cs', h1, h2⟩ := hel i (by omega)
        obtain ⟨r, hok, rfl⟩ := act_cells h2
        refine ⟨r, fun _ => ⟨hok, fun j u hj => ?_⟩⟩
        obtain ⟨_, h3, h4⟩ := World.cells?_some h1
        have hj7 : j < 4 := (List.getElem?_eq_some_iff.1 hj).1
        have := h4 j (by rw [h48]; exact hj7)
        rw [h48] at this
        rw [← hj, ← this]
        congr 1
        unfold Addr.add
        by_cases q1 : i * 4 = 0 <;> by_cases q2 : j = 0 <;> simp [q1, q2, Nat.add_assoc]
      · exact ⟨(0, 0, 0, 0), fun h => absurd h hi⟩
    obtain ⟨R, hR'⟩ := Classical.axiomOfChoice hR
    have hlen : ((List.range len).map R).length = len := by simp
    refine ⟨(List.range len).map R, hlen, hl, fun i p hj => ?_⟩
    have hjl : i < len := by
      have := (List.getElem?_eq_some_iff.1 hj).1
      rwa [hlen] at this
    have hp : R i = p := by
      rw [List.getElem?_map, List.getElem?_range hjl] at hj
      simpa using hj
    subst hp
    obtain ⟨hok, hc⟩ := hR' i hjl
    exact ⟨hok, x, rfl, hc 0 _ rfl, by rw [← add_field _ _ 1 (by omega)]; exact hc 1 _ rfl, by rw [← add_field _ _ 2 (by omega)]; exact hc 2 _ rfl, by rw [← add_field _ _ 3 (by omega)]; exact hc 3 _ rfl⟩
end
end Go.Proofs.Ytfkbiecbnjddmaa
