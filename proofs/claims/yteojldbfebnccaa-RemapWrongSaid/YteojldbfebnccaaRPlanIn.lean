/- A plan and a touch that came in, opened. -/
import Derived.Test.YteojldbfebnccaaRHls
import Derived.WalkKit
import Derived.ProofKit
import Derived.OpenShut
import Derived.ShutString
import Derived.ChangeOld
import Derived.Below
import Derived.SizedLaws
import Derived.Carry
import Derived.Deep.Slices
import Derived.ChangeArms
import Derived.ChangeSame
import Derived.WideShapes
import Derived.KernelRfl
namespace Go.Proofs.Yteojldbfebnccaa
open Go.RowKit Go.Proofs.YteojldbfebnccaaW.PrintWords Go.ChangeShapes Go.WideShapes Go.Deep
set_option linter.unusedVariables false
set_option linter.unusedSimpArgs false
set_option maxRecDepth 100000
theorem u8_wf {x : Int} (h : (Lit.int .u8 x).wf = true) : 0 ≤ x ∧ x < 256 := by
  simp [Lit.wf] at h
  have e1 : IntKind.u8.min = 0 := by kernel_rfl
  have e2 : IntKind.u8.max = 255 := by kernel_rfl
  omega
section
variable {H : Type} {enc : TypeId × Value → H} {W : World} {base : Nat} {spare : Nat → Bool} {held : Bool}
theorem pair_cells {fuel : Nat} {cs : List Value} {x : DataW H × List MemPlace} (h : DataW.trod enc Try.prog W base spare held fuel 79 cs = some x) :
    ∃ r : Int × Int, (0 ≤ r.1 ∧ r.1 < 256 ∧ 0 ≤ r.2 ∧ r.2 < 256) ∧ cs = [.int .u8 r.1, .int .u8 r.2] := by
  obtain ⟨xs, n, rfl, _, hl, hxl, hf⟩ := DataW.trod_array Try.underlying79 h
  have h79 : Try.prog.cellsOf 79 = 2 := by kernel_rfl
  have h5 : Try.prog.cellsOf 5 = 1 := by kernel_rfl
  rw [h79] at hl
  rw [h5] at hf
  match cs, hl with
  | [c0, c1], _ =>
    have g : ∀ (i : Nat), i < 2 → ∃ y, xs[i]? = some y := fun i hi => ⟨_, List.getElem?_eq_getElem (by rw [hxl]; exact hi)⟩
    obtain ⟨y0, g0⟩ := g 0 (by omega)
    obtain ⟨y1, g1⟩ := g 1 (by omega)
    have e0 := (hf 0 (by omega)).trans g0
    have e1 := (hf 1 (by omega)).trans g1
    obtain ⟨b0, k0, _, w0⟩ := DataW.trod_int (k := .u8) (by kernel_rfl) e0
    obtain ⟨b1, k1, _, w1⟩ := DataW.trod_int (k := .u8) (by kernel_rfl) e1
    simp at k0 k1
    subst k0 k1
    exact ⟨(b0, b1), ⟨(u8_wf w0).1, (u8_wf w0).2, (u8_wf w1).1, (u8_wf w1).2⟩, rfl⟩
theorem pairs_cs {fuel : Nat} {cs : List Value} {y : DataW H × List MemPlace} (hf : DataW.trod enc Try.prog W base spare held fuel 22 cs = some y) :
    ∃ (a : Option Addr) (len cap : Nat) (xs : List (Int × Int)), cs = [.slice a len cap] ∧ xs.length = len ∧ len ≤ cap ∧ PrAt W a xs ∧ ∀ x ∈ xs, 0 ≤ x.1 ∧ x.1 < 256 ∧ 0 ≤ x.2 ∧ x.2 < 256 := by
  rcases open_slice Try.underlying22 hf with ⟨hcs, _⟩ | ⟨x, len, cap, m, n, D, Pl, hcs, _, hl, hm, hmm, _, hel⟩
  · exact ⟨none, 0, 0, [], hcs, rfl, Nat.le_refl _, fun i x hx => by simp at hx, by simp⟩
  · refine ⟨some x, len, cap, ?_⟩
    have hlm : len ≤ m := by rw [hmm]; split <;> omega
    have h79 : Try.prog.cellsOf 79 = 2 := by kernel_rfl
    have hR : ∀ i : Nat, ∃ r : Int × Int, i < len → (0 ≤ r.1 ∧ r.1 < 256 ∧ 0 ≤ r.2 ∧ r.2 < 256) ∧ ∀ j u, [Value.int .u8 r.1, .int .u8 r.2][j]? = some u → W.cell? (x.add (i * 2 + j)) = some u := by
      intro i
      by_cases hi : i < len
      · obtain ⟨cs', h1, h2⟩ := hel i (by omega)
        obtain ⟨r, hw, rfl⟩ := pair_cells h2
        refine ⟨r, fun _ => ⟨hw, fun j u hj => ?_⟩⟩
        obtain ⟨_, h3, h4⟩ := World.cells?_some h1
        have hj7 : j < 2 := (List.getElem?_eq_some_iff.1 hj).1
        have := h4 j (by rw [h79]; exact hj7)
        rw [h79] at this
        rw [← hj, ← this]
        congr 1
        unfold Addr.add
        by_cases q1 : i * 2 = 0 <;> by_cases q2 : j = 0 <;> simp [q1, q2, Nat.add_assoc]
      · exact ⟨(0, 0), fun h => absurd h hi⟩
    obtain ⟨R, hR'⟩ := Classical.axiomOfChoice hR
    have hlen : ((List.range len).map R).length = len := by simp
    refine ⟨(List.range len).map R, hcs, hlen, hl, fun j p hj => ?_, ?_⟩
    · have hjl : j < len := by
        have := (List.getElem?_eq_some_iff.1 hj).1
        rwa [hlen] at this
      have hp : R j = p := by
        rw [List.getElem?_map, List.getElem?_range hjl] at hj
        simpa using hj
      subst hp
      obtain ⟨hb, hc⟩ := hR' j hjl
      exact ⟨hb, x, rfl, by simpa using hc 0 _ rfl, by rw [← add_field _ _ 1 (by omega)]; exact hc 1 _ rfl⟩
    · intro y hy
      obtain ⟨j, hj, rfl⟩ := List.mem_map.1 hy
      rw [List.mem_range] at hj
      exact (hR' j hj).1
theorem bytes_cs {fuel : Nat} {cs : List Value} {y : DataW H × List MemPlace} (hf : DataW.trod enc Try.prog W base spare held fuel 23 cs = some y) :
    ∃ (a : Option Addr) (len cap : Nat) (xs : List Int), cs = [.slice a len cap] ∧ xs.length = len ∧ len ≤ cap ∧ len ≤ 9223372036854775807 ∧ (∀ (i : Nat) (x : Int), xs[i]? = some x → ∃ ad, a = some ad ∧ W.cell? (ad.add i) = some (.int .u8 x)) ∧ ∀ x ∈ xs, 0 ≤ x ∧ x < 256 := by
  rcases open_slice1 Try.underlying23 (by kernel_rfl) hf with ⟨hcs, _⟩ | ⟨x, len, cap, m, n, V, D, Pl, hcs, _, hl, hm, hmm, _, hel⟩
  · exact ⟨none, 0, 0, [], hcs, rfl, Nat.le_refl _, by omega, fun i x hx => by simp at hx, by simp⟩
  · refine ⟨some x, len, cap, ?_⟩
    have hlm : len ≤ m := by rw [hmm]; split <;> omega
    have hR : ∀ i : Nat, ∃ r : Int, i < len → (0 ≤ r ∧ r < 256) ∧ W.cell? (x.add i) = some (.int .u8 r) := by
      intro i
      by_cases hi : i < len
      · obtain ⟨h1, h2⟩ := hel i (by omega)
        obtain ⟨r, k0, _, w0⟩ := DataW.trod_int (k := .u8) (by kernel_rfl) h2
        simp at k0
        exact ⟨r, fun _ => ⟨u8_wf w0, by rw [h1, k0]⟩⟩
      · exact ⟨0, fun h => absurd h hi⟩
    obtain ⟨R, hR'⟩ := Classical.axiomOfChoice hR
    have hlen : ((List.range len).map R).length = len := by simp
    refine ⟨(List.range len).map R, hcs, hlen, hl, by unfold maxLen at hm; omega, fun j p hj => ?_, ?_⟩
    · have hjl : j < len := by
        have := (List.getElem?_eq_some_iff.1 hj).1
        rwa [hlen] at this
      have hp : R j = p := by
        rw [List.getElem?_map, List.getElem?_range hjl] at hj
        simpa using hj
      subst hp
      exact ⟨x, rfl, (hR' j hjl).2⟩
    · intro y hy
      obtain ⟨j, hj, rfl⟩ := List.mem_map.1 hy
      rw [List.mem_range] at hj
      exact (hR' j hj).1
theorem plan_C {v : Value} {d : DataW H} {ps : List MemPlace} (hv : Value.okWide Try.prog W .any 0 25 v) (h : DataW.Trod enc Try.prog W base spare held 25 v d ps) : ∃ a b ch, PlanIn W v a b ch := by
  obtain ⟨cs, rfl, hcs⟩ := okWide_struct Try.underlying25 hv
  obtain ⟨fuel, hf⟩ := h
  obtain ⟨xs, n, _, _, hl, hxl, hfl⟩ := DataW.trod_struct Try.underlying25 hf
  have h25 : Try.prog.cellsOf 25 = 3 := by kernel_rfl
  have h22 : Try.prog.cellsOf 22 = 1 := by kernel_rfl
  have h23 : Try.prog.cellsOf 23 = 1 := by kernel_rfl
  rw [h25] at hcs
  have hg : ∀ (i : Nat), i < 3 → ∃ y, xs[i]? = some y := fun i hi => ⟨_, List.getElem?_eq_getElem (by rw [hxl]; exact hi)⟩
  obtain ⟨y0, g0⟩ := hg 0 (by omega)
  obtain ⟨y1, g1⟩ := hg 1 (by omega)
  obtain ⟨y2, g2⟩ := hg 2 (by omega)
  have e0 := (hfl 0 _ rfl).trans g0
  have e1 := (hfl 1 _ rfl).trans g1
  have e2 := (hfl 2 _ rfl).trans g2
  obtain ⟨c0, c1, c2, rfl⟩ : ∃ c0 c1 c2, cs = #[c0, c1, c2] := by
    obtain ⟨l⟩ := cs
    match l, hcs with
    | [c0, c1, c2], _ => exact ⟨c0, c1, c2, rfl⟩
  obtain ⟨A1, n1, k1, a, q1, r1, s1, t1, o1⟩ := pairs_cs e0
  obtain ⟨A2, n2, k2, b, q2, r2, s2, t2, o2⟩ := pairs_cs e1
  obtain ⟨A3, n3, k3, ch, q3, r3, s3, u3, t3, o3⟩ := bytes_cs e2
  change List.take (Try.prog.cellsOf 22) _ = _ at q1
  change List.take (Try.prog.cellsOf 22) _ = _ at q2
  change List.take (Try.prog.cellsOf 23) _ = _ at q3
  rw [h22] at q1 q2
  rw [h23] at q3
  have z1 : c0 = .slice A1 n1 k1 := by simpa [Value.cells] using q1
  have z2 : c1 = .slice A2 n2 k2 := by simpa [Value.cells] using q2
  have z3 : c2 = .slice A3 n3 k3 := by simpa [Value.cells] using q3
  subst z1 z2 z3 r1 r2 r3
  exact ⟨a, b, ch, o1, o2, o3, u3, A1, k1, A2, k2, A3, k3, rfl, t1, t2, t3, s1, s2, s3⟩
theorem touch_C {v : Value} {d : DataW H} {ps : List MemPlace} (hv : Value.okWide Try.prog W .any 0 52 v) (h : DataW.Trod enc Try.prog W base spare held 52 v d ps) :
    ∃ tw ta tb : Nat, tw < 256 ∧ ta < 256 ∧ tb < 256 ∧ v = .agg #[.int .u8 tw, .int .u8 ta, .int .u8 tb] := by
  obtain ⟨cs, rfl, hcs⟩ := okWide_struct Try.underlying52 hv
  obtain ⟨fuel, hf⟩ := h
  obtain ⟨xs, n, _, _, hl, hxl, hfl⟩ := DataW.trod_struct Try.underlying52 hf
  have h52 : Try.prog.cellsOf 52 = 3 := by kernel_rfl
  have h5 : Try.prog.cellsOf 5 = 1 := by kernel_rfl
  rw [h52] at hcs
  have hg : ∀ (i : Nat), i < 3 → ∃ y, xs[i]? = some y := fun i hi => ⟨_, List.getElem?_eq_getElem (by rw [hxl]; exact hi)⟩
  obtain ⟨y0, g0⟩ := hg 0 (by omega)
  obtain ⟨y1, g1⟩ := hg 1 (by omega)
  obtain ⟨y2, g2⟩ := hg 2 (by omega)
  have e0 := (hfl 0 _ rfl).trans g0
  have e1 := (hfl 1 _ rfl).trans g1
  have e2 := (hfl 2 _ rfl).trans g2
  obtain ⟨c0, c1, c2, rfl⟩ : ∃ c0 c1 c2, cs = #[c0, c1, c2] := by
    obtain ⟨l⟩ := cs
    match l, hcs with
    | [c0, c1, c2], _ => exact ⟨c0, c1, c2, rfl⟩
  obtain ⟨b0, k0, _, w0⟩ := DataW.trod_int (k := .u8) (by kernel_rfl) e0
  obtain ⟨b1, k1, _, w1⟩ := DataW.trod_int (k := .u8) (by kernel_rfl) e1
  obtain ⟨b2, k2, _, w2⟩ := DataW.trod_int (k := .u8) (by kernel_rfl) e2
  change List.take (Try.prog.cellsOf 5) _ = _ at k0
  change List.take (Try.prog.cellsOf 5) _ = _ at k1
  change List.take (Try.prog.cellsOf 5) _ = _ at k2
  rw [h5] at k0 k1 k2
  have z0 : c0 = .int .u8 b0 := by simpa [Value.cells] using k0
  have z1 : c1 = .int .u8 b1 := by simpa [Value.cells] using k1
  have z2 : c2 = .int .u8 b2 := by simpa [Value.cells] using k2
  subst z0 z1 z2
  have o0 := u8_wf w0
  have o1 := u8_wf w1
  have o2 := u8_wf w2
  obtain ⟨x0, rfl⟩ := Int.eq_ofNat_of_zero_le o0.1
  obtain ⟨x1, rfl⟩ := Int.eq_ofNat_of_zero_le o1.1
  obtain ⟨x2, rfl⟩ := Int.eq_ofNat_of_zero_le o2.1
  exact ⟨x0, x1, x2, by omega, by omega, by omega, rfl⟩
end
end Go.Proofs.Yteojldbfebnccaa
