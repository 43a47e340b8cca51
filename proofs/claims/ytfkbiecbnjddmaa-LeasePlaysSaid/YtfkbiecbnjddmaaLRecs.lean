/- A slice of records that came in, in the printed form. -/
import Derived.Test.YtfkbiecbnjddmaaBasex
import Derived.Deep.Slices
import Derived.ChangeArms
import Derived.KernelRfl
namespace Go.Proofs.Ytfkbiecbnjddmaa
open Go.RowKit Go.Proofs.YtfkbiecbnjddmaaW.PrintWords Go.ChangeShapes Go.WideShapes Go.Deep
set_option linter.unusedVariables false
set_option linter.unusedSimpArgs false
set_option maxRecDepth 100000
section
variable {H : Type} {enc : TypeId × Value → H} {W : World} {base : Nat} {spare : Nat → Bool} {held : Bool}
theorem rec_cells {fuel : Nat} {cs : List Value} {x : DataW H × List MemPlace} (h : DataW.trod enc Try.prog W base spare held fuel 34 cs = some x) :
    ∃ r : S34, cs = [.bool r.f0, .int .u32 r.f1, .string r.f2, .int .i64 r.f3, .int .i64 r.f4, .int .i64 r.f5, .int .u64 r.f6] := by
  obtain ⟨xs, n, rfl, _, hl, hxl, hf⟩ := DataW.trod_struct Try.underlying34 h
  have h34 : Try.prog.cellsOf 34 = 7 := by kernel_rfl
  rw [h34] at hl
  match cs, hl with
  | [c0, c1, c2, c3, c4, c5, c6], _ =>
    have g : ∀ (i : Nat), i < 7 → ∃ y, xs[i]? = some y := fun i hi => ⟨_, List.getElem?_eq_getElem (by rw [hxl]; exact hi)⟩
    obtain ⟨y0, g0⟩ := g 0 (by omega)
    obtain ⟨y1, g1⟩ := g 1 (by omega)
    obtain ⟨y2, g2⟩ := g 2 (by omega)
    obtain ⟨y3, g3⟩ := g 3 (by omega)
    obtain ⟨y4, g4⟩ := g 4 (by omega)
    obtain ⟨y5, g5⟩ := g 5 (by omega)
    obtain ⟨y6, g6⟩ := g 6 (by omega)
    have e0 := (hf 0 _ rfl).trans g0
    have e1 := (hf 1 _ rfl).trans g1
    have e2 := (hf 2 _ rfl).trans g2
    have e3 := (hf 3 _ rfl).trans g3
    have e4 := (hf 4 _ rfl).trans g4
    have e5 := (hf 5 _ rfl).trans g5
    have e6 := (hf 6 _ rfl).trans g6
    obtain ⟨b0, k0, _⟩ := DataW.trod_bool (by kernel_rfl) e0
    obtain ⟨b1, k1, _⟩ := DataW.trod_int (k := .u32) (by kernel_rfl) e1
    obtain ⟨b2, k2, _⟩ := DataW.trod_string (by kernel_rfl) e2
    obtain ⟨b3, k3, _⟩ := DataW.trod_int (k := .i64) (by kernel_rfl) e3
    obtain ⟨b4, k4, _⟩ := DataW.trod_int (k := .i64) (by kernel_rfl) e4
    obtain ⟨b5, k5, _⟩ := DataW.trod_int (k := .i64) (by kernel_rfl) e5
    obtain ⟨b6, k6, _⟩ := DataW.trod_int (k := .u64) (by kernel_rfl) e6
    have one : ∀ t : TypeId, Try.prog.cellsOf t = 1 → ∀ (l : List Value), l.take (Try.prog.cellsOf t) = l.take 1 := fun t ht l => by rw [ht]
    rw [one _ (by kernel_rfl)] at k0 k1 k2 k3 k4 k5 k6
    simp at k0 k1 k2 k3 k4 k5 k6
    subst k0 k1 k2 k3 k4 k5 k6
    exact ⟨⟨b0, b1, b2, b3, b4, b5, b6⟩, rfl⟩
theorem recs_C {a : Option Addr} {len cap : Nat} {d : DataW H} {ps : List MemPlace} (h : DataW.Trod enc Try.prog W base spare held 23 (.slice a len cap) d ps) :
    ∃ xs : List S34, xs.length = len ∧ len ≤ cap ∧ Kd.C k34 W a xs.length xs := by
  obtain ⟨fuel, hf⟩ := h
  rcases open_slice Try.underlying23 hf with ⟨hcs, _⟩ | ⟨x, l, c, m, n, D, Pl, hcs, _, hl, hm, hmm, _, hel⟩
  · simp [Value.cells] at hcs
    obtain ⟨rfl, rfl, rfl⟩ := hcs
    exact ⟨[], rfl, Nat.le_refl _, rfl, by simp, fun h => absurd h (by simp)⟩
  · simp [Value.cells] at hcs
    obtain ⟨rfl, rfl, rfl⟩ := hcs
    have hlm : len ≤ m := by rw [hmm]; split <;> omega
    have h34 : Try.prog.cellsOf 34 = 7 := by kernel_rfl
    have hR : ∀ i : Nat, ∃ r : S34, i < len → ∀ j u, [Value.bool r.f0, .int .u32 r.f1, .string r.f2, .int .i64 r.f3, .int .i64 r.f4, .int .i64 r.f5, .int .u64 r.f6][j]? = some u → W.cell? (x.add (i * 7 + j)) = some u := by
      intro i
      by_cases hi : i < len
      · obtain ⟨cs', h1, h2⟩ := hel i (by omega)
        obtain ⟨r, rfl⟩ := rec_cells h2
        refine ⟨r, fun _ j u hj => ?_⟩
        obtain ⟨_, h3, h4⟩ := World.cells?_some h1
        have hj7 : j < 7 := (List.getElem?_eq_some_iff.1 hj).1
        have := h4 j (by rw [h34]; exact hj7)
        rw [h34] at this
        rw [← hj, ← this]
        congr 1
        unfold Addr.add
        by_cases q1 : i * 7 = 0 <;> by_cases q2 : j = 0 <;> simp [q1, q2, Nat.add_assoc]
      · exact ⟨z34, fun h => absurd h hi⟩
    obtain ⟨R, hR'⟩ := Classical.axiomOfChoice hR
    have hlen : ((List.range len).map R).length = len := by simp
    refine ⟨(List.range len).map R, hlen, hl, rfl, ?_, fun _ => ⟨x, rfl, fun j p hj => ?_⟩⟩
    · rw [hlen]; unfold maxLen at hm; omega
    · have hjl : j < len := by
        have := (List.getElem?_eq_some_iff.1 hj).1
        rwa [hlen] at this
      have hp : R j = p := by
        rw [List.getElem?_map, List.getElem?_range hjl] at hj
        simpa using hj
      subst hp
      exact ⟨_, rfl, k34_mk W (R j), fun i u hi => hR' j hjl i u hi⟩
end
end Go.Proofs.Ytfkbiecbnjddmaa
