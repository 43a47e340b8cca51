/- The state of the laws' walks behind halls and moves. (Printed by gen_top.py.) -/
import Derived.Test.YteojldbfebnccaaRMov
import Derived.Test.YteojldbfebnccaaRWorks
namespace Go.Proofs.Yteojldbfebnccaa
open Go.RowKit Go.Proofs.YteojldbfebnccaaW.PrintWords Go.Proofs.YteojldbfebnccaaW.PrintLast Go.Proofs.YteojldbfebnccaaW.PrintMore
set_option linter.unusedVariables false
set_option linter.unusedSimpArgs false
set_option maxRecDepth 100000
theorem flat2_set0 {l : List S49} {i : Nat} {x : S49} (hx : l[i]? = some x) (u : Int) : (flat2 l).set (i * 2) (.int .i64 u) = flat2 (l.set i ⟨u, x.f1⟩) := by
  have hi := (List.getElem?_eq_some_iff.1 hx).1
  refine flat2_ext (by rw [List.length_set, flat2_length, List.length_set]) fun j y hy => ?_
  rw [List.getElem?_set] at hy
  split at hy
  · rename_i hij
    subst hij
    cases hy
    obtain ⟨a, b⟩ := flat2_get l i x hx
    refine ⟨?_, ?_⟩
    · rw [List.getElem?_set_self (by rw [flat2_length]; omega)]
    · rw [List.getElem?_set_ne (by omega)]; exact b
  · rename_i hij
    obtain ⟨a, b⟩ := flat2_get l j y hy
    rw [List.getElem?_set_ne (by omega), List.getElem?_set_ne (by omega)]
    exact ⟨a, b⟩
theorem flat2_set1 {l : List S49} {i : Nat} {x : S49} (hx : l[i]? = some x) (u : Int) : (flat2 l).set (i * 2 + 1) (.int .i64 u) = flat2 (l.set i ⟨x.f0, u⟩) := by
  have hi := (List.getElem?_eq_some_iff.1 hx).1
  refine flat2_ext (by rw [List.length_set, flat2_length, List.length_set]) fun j y hy => ?_
  rw [List.getElem?_set] at hy
  split at hy
  · rename_i hij
    subst hij
    cases hy
    obtain ⟨a, b⟩ := flat2_get l i x hx
    refine ⟨?_, ?_⟩
    · rw [List.getElem?_set_ne (by omega)]; exact a
    · rw [List.getElem?_set_self (by rw [flat2_length]; omega)]
  · rename_i hij
    obtain ⟨a, b⟩ := flat2_get l j y hy
    rw [List.getElem?_set_ne (by omega), List.getElem?_set_ne (by omega)]
    exact ⟨a, b⟩
theorem reps_flat2 {R : S49 → List Value → Prop} (hR : ∀ x c, R x c → c = [.int .i64 x.f0, .int .i64 x.f1]) : ∀ (xs : List S49) (cs : List Value), Reps R 2 xs cs → cs = flat2 xs := by
  intro xs cs h
  refine flat2_ext h.1 fun i x hx => ?_
  have h0 := hR _ _ (h.2 i x hx)
  have hi := (List.getElem?_eq_some_iff.1 hx).1
  have hl := h.1
  have g : ∀ j, j < 2 → cs[i * 2 + j]? = ([.int .i64 x.f0, .int .i64 x.f1] : List Value)[j]? := by
    intro j hj
    rw [← h0, List.getElem?_take, if_pos hj, List.getElem?_drop]
  exact ⟨by simpa using g 0 (by omega), by simpa using g 1 (by omega)⟩
theorem own_of_r49 {W : World} {base : Nat} {ok : Nat → Prop} {v : Value} {l : List S49} (h : Kd.R k49 49 W base ok v l) : W.ownsRow base 49 2 v l.length (flat2 l) := by
  obtain ⟨_, inner, ho, hr⟩ := h
  have : inner = flat2 l := reps_flat2 (fun x c hx => k49_openM hx) l inner hr
  subst this
  exact ho
structure TopAt (w W : World) (HA HB : Nat) (RA : Option Addr) (ca : Nat) (RB : Option Addr) (cb : Nat) (ra rb : List S61) (v : Value) (l : List S49) : Prop where
  bA : W.heap[HA]? = some (.cells #[.slice RA ra.length ca] 29 (0, 0))
  bB : W.heap[HB]? = some (.cells #[.slice RB rb.length cb] 29 (0, 0))
  rra : Kd.R k61 61 W w.heap.size (fun _ => True) (.slice RA ra.length ca) ra
  rrb : Kd.R k61 61 W w.heap.size (fun _ => True) (.slice RB rb.length cb) rb
  own : W.ownsRow w.heap.size 49 2 v l.length (flat2 l)
  b : Below w.heap.size w W
section
variable {w W W' : World} {HA HB ca cb : Nat} {RA RB : Option Addr} {ra rb : List S61} {v : Value} {l : List S49}
theorem TopAt.below (h : TopAt w W HA HB RA ca RB cb ra rb v l) (hb : Below W.heap.size W W') : TopAt w W' HA HB RA ca RB cb ra rb v l :=
  ⟨blk_below h.bA hb, blk_below h.bB hb, Kd.R_below h.rra hb, Kd.R_below h.rrb hb, pw_own_below h.own hb, below_then h.b h.b.size hb⟩
theorem C61_of_R {base : Nat} {A : Option Addr} {c n : Nat} {r : List S61} (hh : Kd.R k61 61 W base (fun _ => True) (.slice A n c) r) : Kd.C k61 W A r.length r ∧ r.length ≤ c := by
  obtain ⟨A', c', e, hl, hC⟩ := Kd.R_reads hh
  simp only [Value.slice.injEq] at e
  rw [e.1, e.2.2]
  exact ⟨hC, hl⟩
theorem C49_of_own {base : Nat} {A : Option Addr} {c n : Nat} {r : List S49} (hh : W.ownsRow base 49 2 (.slice A n c) r.length (flat2 r)) : Kd.C k49 W A r.length r ∧ r.length ≤ c := by
  obtain ⟨A', c', e, hl, hC⟩ := Kd.R_reads (r49_of_own hh)
  simp only [Value.slice.injEq] at e
  rw [e.1, e.2.2]
  exact ⟨hC, hl⟩
/-- a move is written -/
theorem TopAt.stored {g n cap : Nat} (h : TopAt w W HA HB RA ca RB cb ra rb (.slice (some ⟨g, 0, none⟩) n cap) l) (j : Nat) (u : Value) {l' : List S49} (hl : (flat2 l).set j u = flat2 l') (hll : l'.length = l.length) :
    TopAt w (W.setCell ⟨g, j, none⟩ u) HA HB RA ca RB cb ra rb (.slice (some ⟨g, 0, none⟩) n cap) l' := by
  have hn : n = l.length := by
    rcases h.own.2 with ⟨e, _⟩ | ⟨g', cap', cur, e, _⟩
    · simp at e
    · simp at e; exact e.2.1
  subst hn
  have hg : ∀ k, (.slice (some ⟨g, 0, none⟩) l.length cap : Value).ownBlock = some k → k = g := fun k hk => by simpa [Value.ownBlock] using hk.symm
  obtain ⟨cg, hcg⟩ := own_typed h.own g rfl
  have hbase := own_base h.own g rfl
  have hne : ∀ (k : Nat) (cs : Array Value) (t : TypeId), W.heap[k]? = some (.cells cs t (0, 0)) → t ≠ 49 → (W.setCell ⟨g, j, none⟩ u).heap[k]? = W.heap[k]? := by
    intro k cs t hk ht
    refine Below.heap_setCell _ _ _ _ ?_
    rintro rfl
    rw [hk] at hcg
    simp at hcg
    exact ht hcg.2
  refine ⟨(hne _ _ _ h.bA (by decide)).trans h.bA, (hne _ _ _ h.bB (by decide)).trans h.bB, R61_keep h.rra (fun k cs hk => hne k cs 61 hk (by decide)), R61_keep h.rrb (fun k cs hk => hne k cs 61 hk (by decide)), ?_, h.b.setCell hbase _⟩
  have := (h.own.stored j u).1
  rw [hl] at this
  rw [hll]
  exact this
theorem chk_m {n : Nat} {A : Option Addr} {c : Nat} (h : TopAt w W HA HB RA ca RB cb ra rb (.slice A n c) l) (hn : l.length = n) {r1 r2 : Int} (hv : remap_Check.v ra rb l = (r1, r2)) :
    Calls Try.prog 11 #[.agg #[.slice RA ra.length ca], .agg #[.slice RB rb.length cb], .slice A n c] W fun e w' => e = .returned (.tuple #[.int .i64 r1, .int .i64 r2]) ∧ Below W.heap.size W w' := by
  subst hn
  exact remap_Check.calls RA ca ra RB cb rb A c l r1 r2 W (C61_of_R h.rra).1 (C61_of_R h.rra).2 (C61_of_R h.rrb).1 (C61_of_R h.rrb).2 (C49_of_own h.own).1 (C49_of_own h.own).2 (by unfold remap_Check.f; rw [hv])
/-- a move's cells -/
theorem own49_cells {base g n c : Nat} {i : Nat} {x : S49} (h : W.ownsRow base 49 2 (.slice (some ⟨g, 0, none⟩) n c) l.length (flat2 l)) (hx : l[i]? = some x) :
    W.cell? ⟨g, i * 2, none⟩ = some (.int .i64 x.f0) ∧ W.cell? ⟨g, i * 2 + 1, none⟩ = some (.int .i64 x.f1) ∧ W.frozen? ⟨g, i * 2, none⟩ = false ∧ W.frozen? ⟨g, i * 2 + 1, none⟩ = false := by
  have hi := (List.getElem?_eq_some_iff.1 hx).1
  obtain ⟨a, b⟩ := flat2_get l i x hx
  have hn : n = l.length := by
    rcases h.2 with ⟨e, _⟩ | ⟨g', cap', cur, e, _⟩
    · simp at e
    · simp at e; exact e.2.1
  subst hn
  obtain ⟨cs, hcs⟩ := own_typed h g rfl
  refine ⟨?_, ?_, blk_free hcs _, blk_free hcs _⟩
  · rw [h.cellAt (i * 2) (by omega)]; exact a
  · rw [h.cellAt (i * 2 + 1) (by omega)]; exact b
end
end Go.Proofs.Yteojldbfebnccaa
