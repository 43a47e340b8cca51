/- The row that is sorted, in memory; ranges are exchanged. -/
import Derived.Test.YteojldbfebnccaaRSortQ
import Derived.Test.YteojldbfebnccaaRIdx
import Derived.BigRegion
import Derived.IntWalk
import Derived.Deep.LoopGhost
import Derived.RangeFuncOwn
namespace Go.Proofs.Yteojldbfebnccaa
open Go.RowKit Go.Proofs.YteojldbfebnccaaW Go.Proofs.YteojldbfebnccaaW.PrintWords
set_option linter.unusedVariables false
set_option linter.unusedSimpArgs false
set_option maxRecDepth 100000
/-- n moves at block B -/
def MRow (SZ : Nat) (W : World) (B n : Nat) (g : Nat → S49) : Prop := ∃ cs, W.heap[B]? = some (.cells cs 49 (0, 0)) ∧ cs.size = SZ ∧ ∀ p, p < n → cs[p * 2]? = some (.int .i64 (g p).f0) ∧ cs[p * 2 + 1]? = some (.int .i64 (g p).f1)
section
variable {SZ : Nat} {W : World} {B n : Nat} {g : Nat → S49}
theorem MRow.c0 (h : MRow SZ W B n g) {p : Nat} (hp : p < n) : W.cell? ⟨B, p * 2, none⟩ = some (.int .i64 (g p).f0) := by
  obtain ⟨cs, h1, h0, h2⟩ := h
  exact (cell_of_row _ _ _ _ _ _ h1).trans (h2 p hp).1
theorem MRow.c1 (h : MRow SZ W B n g) {p : Nat} (hp : p < n) : W.cell? ⟨B, p * 2 + 1, none⟩ = some (.int .i64 (g p).f1) := by
  obtain ⟨cs, h1, h0, h2⟩ := h
  exact (cell_of_row _ _ _ _ _ _ h1).trans (h2 p hp).2
theorem MRow.fr (h : MRow SZ W B n g) (j : Nat) : W.frozen? ⟨B, j, none⟩ = false := by
  obtain ⟨cs, h1, h0, h2⟩ := h
  simp [World.frozen?, h1]
theorem MRow.lt (h : MRow SZ W B n g) : B < W.heap.size := by
  obtain ⟨cs, h1, h0, h2⟩ := h
  exact blk_lt h1
theorem MRow.below {W' : World} (h : MRow SZ W B n g) (hb : Below W.heap.size W W') : MRow SZ W' B n g := by
  obtain ⟨cs, h1, h0, h2⟩ := h
  exact ⟨cs, blk_below h1 hb, h0, h2⟩
theorem MRow.block {W' : World} (h : MRow SZ W B n g) (hb : W'.heap[B]? = W.heap[B]?) : MRow SZ W' B n g := by
  obtain ⟨cs, h1, h0, h2⟩ := h
  exact ⟨cs, hb.trans h1, h0, h2⟩
theorem MRow.set (h : MRow SZ W B n g) {p : Nat} (hp : p < n) (x : S49) : MRow SZ ((W.setCell ⟨B, p * 2, none⟩ (.int .i64 x.f0)).setCell ⟨B, p * 2 + 1, none⟩ (.int .i64 x.f1)) B n (fun c => if c = p then x else g c) := by
  obtain ⟨cs, h1, h0, h2⟩ := h
  refine ⟨_, blk_set (blk_set h1 _ _) _ _, by rw [Array.size_setIfInBounds, Array.size_setIfInBounds]; exact h0, fun q hq => ?_⟩
  obtain ⟨a1, a2⟩ := h2 q hq
  obtain ⟨b1, b2⟩ := h2 p hp
  have l0 : p * 2 < cs.size := (Array.getElem?_eq_some_iff.1 b1).1
  have l1 : p * 2 + 1 < cs.size := (Array.getElem?_eq_some_iff.1 b2).1
  by_cases e : q = p
  · subst e
    show _ = some (Value.int .i64 (if q = q then x else g q).f0) ∧ _ = some (Value.int .i64 (if q = q then x else g q).f1)
    rw [if_pos rfl]
    constructor
    · rw [Array.getElem?_setIfInBounds_ne (by omega), Array.getElem?_setIfInBounds_self_of_lt l0]
    · rw [Array.getElem?_setIfInBounds_self_of_lt (by rw [Array.size_setIfInBounds]; exact l1)]
  · show _ = some (Value.int .i64 (if q = p then x else g q).f0) ∧ _ = some (Value.int .i64 (if q = p then x else g q).f1)
    rw [if_neg e]
    constructor
    · rw [Array.getElem?_setIfInBounds_ne (by omega), Array.getElem?_setIfInBounds_ne (by omega)]; exact a1
    · rw [Array.getElem?_setIfInBounds_ne (by omega), Array.getElem?_setIfInBounds_ne (by omega)]; exact a2
/-- the exchange of two places -/
def swpW (W : World) (B i k : Nat) (x y : S49) : World := (((W.setCell ⟨B, i * 2, none⟩ (.int .i64 y.f0)).setCell ⟨B, i * 2 + 1, none⟩ (.int .i64 y.f1)).setCell ⟨B, k * 2, none⟩ (.int .i64 x.f0)).setCell ⟨B, k * 2 + 1, none⟩ (.int .i64 x.f1)
theorem MRow.exch (h : MRow SZ W B n g) {i k : Nat} (hi : i < n) (hk : k < n) (hne : i ≠ k) : MRow SZ (swpW W B i k (g i) (g k)) B n (swp g i k) := by
  have := (h.set hi (g k)).set hk (g i)
  have e : (fun c => if c = k then g i else if c = i then g k else g c) = swp g i k := by
    funext c
    unfold swp
    by_cases h1 : c = k
    · rw [if_pos h1]
      by_cases h2 : c = i
      · omega
      · rw [if_neg h2, if_pos h1]
    · rw [if_neg h1]
      by_cases h2 : c = i
      · rw [if_pos h2, if_pos h2]
      · rw [if_neg h2, if_neg h2, if_neg h1]
  rw [← e]
  exact this
end
theorem grownT {a b c : World} {r : Option Nat} (h : a.grownBy b r) (k : b.grownBy c r) : a.grownBy c r :=
  ⟨k.os.trans h.os, k.tape.trans h.tape, k.output.trans h.output, Nat.le_trans h.size k.size, fun i hi hr => (k.block i (Nat.lt_of_lt_of_le hi h.size) hr).trans (h.block i hi hr)⟩
theorem grownR (a : World) (r : Option Nat) : a.grownBy a r := ⟨rfl, rfl, rfl, Nat.le_refl _, fun _ _ _ => rfl⟩
theorem grownS (W : World) (b j : Nat) (v : Value) : W.grownBy (W.setCell ⟨b, j, none⟩ v) (some b) :=
  ⟨rfl, rfl, rfl, (KeepsWalks.setCell W _ v).size, fun k _ hk => Below.heap_setCell _ _ _ k (fun e => hk (by rw [e]))⟩
theorem grownB {a b : World} (h : Below a.heap.size a b) (r : Option Nat) : a.grownBy b r := ⟨h.os, h.tape, h.output, h.size, fun k hk _ => h.block k hk⟩
theorem grownW (W : World) (B i k : Nat) (x y : S49) : W.grownBy (swpW W B i k x y) (some B) := grownT (grownT (grownT (grownS _ _ _ _) (grownS _ _ _ _)) (grownS _ _ _ _)) (grownS _ _ _ _)
variable {SZ : Nat}
set_option maxHeartbeats 4000000 in
theorem swr_calls {W : World} {B n cap : Nat} {g : Nat → S49} (h : MRow SZ W B n g) (hn : n ≤ 100000) {a b k : Nat} (h1 : a + k ≤ b) (h2 : b + k ≤ n) (fv : Value) :
    Calls Try.prog 63 #[.slice (some ⟨B, 0, none⟩) n cap, .int .i64 a, .int .i64 b, .int .i64 k, fv] W fun e w' => (∃ v, e = .returned v) ∧ MRow SZ w' B n (swr g a b k) ∧ W.grownBy w' (some B) := by
  have HM := Lib.hid h
  clear h
  go_enter Try.func63, Try.ntmps63
  go_wp2_with fail
  go_loopg [10] k (fun kq v10 wr => ∃ i : Nat, kq = k - i ∧ v10 = .int .i64 i ∧ i ≤ k ∧ Hid (MRow SZ wr B n (swr g a b i)) ∧ Hid (W.grownBy wr (some B)))
  case atStart => exact ⟨0, rfl, rfl, Nat.zero_le _, by rw [swr_zero]; exact HM, Lib.hid (grownR _ _)⟩
  case round =>
    clear HM
    obtain ⟨i, hkq, rfl, hi, HM, HG⟩ := hrel
    by_cases hlt : i < k
    · have d0 : decide ((i : Int) < (k : Int)) = true := decide_eq_true (by omega)
      obtain ⟨x, hx⟩ : ∃ x, swr g a b i (a + i) = x := ⟨_, rfl⟩
      obtain ⟨y, hy⟩ : ∃ y, swr g a b i (b + i) = y := ⟨_, rfl⟩
      have x0 := HM.out.c0 (p := a + i) (by omega)
      have x1 := HM.out.c1 (p := a + i) (by omega)
      have y0 := HM.out.c0 (p := b + i) (by omega)
      have y1 := HM.out.c1 (p := b + i) (by omega)
      rw [hx] at x0 x1
      rw [hy] at y0 y1
      have H2 := Lib.hid (show MRow SZ (swpW wr B (a + i) (b + i) x y) B n (swr g a b (i + 1)) by
        rw [← swr_succ g (n := k) hlt h1, ← hx, ← hy]
        exact HM.out.exch (by omega) (by omega) (by omega))
      have HG2 := Lib.hid (grownT HG.out (grownW wr B (a + i) (b + i) x y))
      have f := HM.out.fr
      obtain ⟨p, hp⟩ : ∃ p, a + i = p := ⟨_, rfl⟩
      obtain ⟨q, hq⟩ : ∃ q, b + i = q := ⟨_, rfl⟩
      rw [hp] at x0 x1 H2 HG2
      rw [hq] at y0 y1 H2 HG2
      have s0 : IntKind.i64.wrap ((a : Int) + (i : Int)) = (p : Int) := by rw [IntWalk.i64_in _ (by omega)]; omega
      have s1 : IntKind.i64.wrap ((b : Int) + (i : Int)) = (q : Int) := by rw [IntWalk.i64_in _ (by omega)]; omega
      have s2 : (0 : Int) ≤ (p : Int) := by omega
      have s3 : (0 : Int) ≤ (q : Int) := by omega
      have s4 : (p : Int) < (n : Int) := by omega
      have s5 : (q : Int) < (n : Int) := by omega
      have n0 : ¬ q = p := by omega
      have n1 : ¬ p = q := by omega
      have n2 : ¬ q * 2 = p * 2 := by omega
      have n3 : ¬ q * 2 = p * 2 + 1 := by omega
      have n4 : ¬ q * 2 + 1 = p * 2 := by omega
      have n5 : ¬ q * 2 + 1 = p * 2 + 1 := by omega
      clear hx hy hp hq
      go_wp2_with fail
      go_region
      go_wp2_with fail
      go_roundg (k - (i + 1))
      case measure => omega
      case rel => exact ⟨i + 1, rfl, by go_num, by omega, Lib.hid (H2.out.block rfl), Lib.hid (grownT HG2.out (grownB (Below.drew (Below.refl _ _)) _))⟩
    · have d0 : decide ((i : Int) < (k : Int)) = false := decide_eq_false (by omega)
      obtain rfl : k = i := by omega
      go_wp2_with fail
      go_end0
      exact ⟨⟨_, rfl⟩, HM.out, HG.out⟩
end Go.Proofs.Yteojldbfebnccaa
