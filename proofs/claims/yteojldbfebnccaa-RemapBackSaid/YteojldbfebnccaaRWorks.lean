/- works(): the chapter's examples. -/
import Derived.Test.YteojldbfebnccaaMorex1
import Derived.Test.YteojldbfebnccaaRAll
namespace Go.Proofs.Yteojldbfebnccaa
open Go.RowKit Go.Proofs.YteojldbfebnccaaW Go.Proofs.YteojldbfebnccaaW.PrintWords
set_option linter.unusedVariables false
set_option linter.unusedSimpArgs false
set_option maxRecDepth 100000
theorem seatsA : seatsL [⟨1, 7⟩] = [(0, 1), (1, 1), (2, 1)] := by kernel_rfl
theorem seatsB : seatsL [⟨1, 129⟩, ⟨0, 1⟩] = [(0, 1), (7, 1), (8, 0)] := by kernel_rfl
theorem lostW : remap_Lost.v [⟨1, 7⟩] [⟨0, 7⟩, ⟨2, 0⟩] = [1] := by kernel_rfl
theorem newW : remap_New.v [⟨1, 129⟩, ⟨0, 1⟩] [⟨0, 7⟩, ⟨2, 0⟩] = [8] := by kernel_rfl
theorem backW : remap_Back.v [⟨0, 7⟩, ⟨2, 0⟩] = [⟨0, 2⟩, ⟨7, 0⟩] := by kernel_rfl
theorem fails1 : more.foyerlaw19_fails.f (-1) 0 [⟨0, 7⟩, ⟨2, 0⟩] = some true := by kernel_rfl
theorem fails2 : more.foyerlaw19_fails.f 1 7 [⟨2, 0⟩, ⟨0, 7⟩] = some true := by kernel_rfl
theorem fails3 : more.foyerlaw19_fails.f 0 18 [⟨3, 0⟩] = some true := by kernel_rfl
theorem fails4 : more.foyerlaw19_fails.f 0 18 [⟨0, 1⟩] = some true := by kernel_rfl
theorem fails5 : more.foyerlaw19_fails.f 1 24 [⟨0, 7⟩, ⟨1, 7⟩] = some true := by kernel_rfl
theorem fails6 : more.foyerlaw19_fails.f 0 20 [⟨0, 8⟩] = some true := by kernel_rfl
theorem ints1 (x : Int) : foyerlaw19_ints.f 3 [x] [x] = some true := by
  simp [foyerlaw19_ints.f, foyerlaw19_ints.l0, rd, wrap64]
theorem moves2 (x y : S49) : foyerlaw19_moves.f 4 [x, y] [x, y] = some true := by
  simp [foyerlaw19_moves.f, foyerlaw19_moves.l0, rd_T49, wrap64]
theorem c49_blk {W : World} {g : Nat} {xs : List S49} (h : W.heap[g]? = some (.cells (flat2 xs).toArray 49 (0, 0))) (hl : xs.length ≤ 1000) : Kd.C k49 W (some ⟨g, 0, none⟩) xs.length xs := by
  have ho : W.ownsRow 0 49 2 (.slice (some ⟨g, 0, none⟩) xs.length xs.length) xs.length (flat2 xs) :=
    ⟨flat2_length xs, .inr ⟨g, xs.length, _, rfl, Nat.zero_le _, h, Nat.le_refl _, by unfold maxLen; omega, by simp [flat2_length], by simp [flat2_length, List.take_of_length_le]⟩⟩
  obtain ⟨A, c, e, _, hc⟩ := Kd.R_reads (r49_of_own ho)
  simp only [Value.slice.injEq] at e
  rw [e.1]
  exact hc
theorem cint_blk {W : World} {g : Nat} {x : Int} (h : W.heap[g]? = some (.cells #[.int .i64 x] 3 (0, 0))) : Kd.C (Kd.int .i64) W (some ⟨g, 0, none⟩) 1 [x] := by
  have ho : W.ownsRow 0 3 1 (.slice (some ⟨g, 0, none⟩) 1 1) [x].length (encs (fun x : Int => Value.int .i64 x) [x]) :=
    ⟨by simp [encs], .inr ⟨g, 1, _, rfl, Nat.zero_le _, h, Nat.le_refl _, by unfold maxLen; omega, by simp, by simp [encs]⟩⟩
  obtain ⟨A, c, e, _, hc⟩ := Kd.R_reads (Kd.R_of_own (enc := fun x : Int => Value.int .i64 x) (h1 := fun _ => rfl) (ok := fun _ => True) ho (fun _ _ => trivial))
  simp only [Value.slice.injEq] at e
  rw [e.1]
  exact hc
theorem below_ad (W : World) (o : Obj) : Below W.drew.heap.size W.drew (W.alloc o).drew := ⟨rfl, rfl, rfl, by simp, fun k hk => Below.heap_alloc W o k hk⟩
theorem failsC (a0 a1 : Int) {xs : List S49} (hl : xs.length ≤ 1000) (hf : more.foyerlaw19_fails.f a0 a1 xs = some true) (W : World) (g : Nat) (hg : W.heap[g]? = some (.cells (flat2 xs).toArray 49 (0, 0))) :
    Calls Try.prog 27 #[.int .i64 a0, .int .i64 a1, .slice (some ⟨g, 0, none⟩) xs.length xs.length] W fun e w' => e = .returned (.bool true) ∧ Below W.heap.size W w' :=
  more.foyerlaw19_fails.calls a0 a1 (some ⟨g, 0, none⟩) xs.length xs true W (c49_blk hg hl) (Nat.le_refl _) hf
theorem f1 (W : World) (g : Nat) (hg : W.heap[g]? = some (.cells #[.int .i64 0, .int .i64 7, .int .i64 2, .int .i64 0] 49 (0, 0))) : Calls Try.prog 27 #[.int .i64 (-1), .int .i64 0, .slice (some ⟨g, 0, none⟩) 2 2] W fun e w' => e = .returned (.bool true) ∧ Below W.heap.size W w' := failsC _ _ (by simp) fails1 W g hg
theorem f2 (W : World) (g : Nat) (hg : W.heap[g]? = some (.cells #[.int .i64 2, .int .i64 0, .int .i64 0, .int .i64 7] 49 (0, 0))) : Calls Try.prog 27 #[.int .i64 1, .int .i64 7, .slice (some ⟨g, 0, none⟩) 2 2] W fun e w' => e = .returned (.bool true) ∧ Below W.heap.size W w' := failsC _ _ (by simp) fails2 W g hg
theorem f3 (W : World) (g : Nat) (hg : W.heap[g]? = some (.cells #[.int .i64 3, .int .i64 0] 49 (0, 0))) : Calls Try.prog 27 #[.int .i64 0, .int .i64 18, .slice (some ⟨g, 0, none⟩) 1 1] W fun e w' => e = .returned (.bool true) ∧ Below W.heap.size W w' := failsC _ _ (by simp) fails3 W g hg
theorem f4 (W : World) (g : Nat) (hg : W.heap[g]? = some (.cells #[.int .i64 0, .int .i64 1] 49 (0, 0))) : Calls Try.prog 27 #[.int .i64 0, .int .i64 18, .slice (some ⟨g, 0, none⟩) 1 1] W fun e w' => e = .returned (.bool true) ∧ Below W.heap.size W w' := failsC _ _ (by simp) fails4 W g hg
theorem f5 (W : World) (g : Nat) (hg : W.heap[g]? = some (.cells #[.int .i64 0, .int .i64 7, .int .i64 1, .int .i64 7] 49 (0, 0))) : Calls Try.prog 27 #[.int .i64 1, .int .i64 24, .slice (some ⟨g, 0, none⟩) 2 2] W fun e w' => e = .returned (.bool true) ∧ Below W.heap.size W w' := failsC _ _ (by simp) fails5 W g hg
theorem f6 (W : World) (g : Nat) (hg : W.heap[g]? = some (.cells #[.int .i64 0, .int .i64 8] 49 (0, 0))) : Calls Try.prog 27 #[.int .i64 0, .int .i64 20, .slice (some ⟨g, 0, none⟩) 1 1] W fun e w' => e = .returned (.bool true) ∧ Below W.heap.size W w' := failsC _ _ (by simp) fails6 W g hg
theorem intsC (x : Int) (W : World) (A : Option Addr) (c : Nat) (g : Nat) (hA : Kd.C (Kd.int .i64) W A 1 [x]) (hc : 1 ≤ c) (hg : W.heap[g]? = some (.cells #[.int .i64 x] 3 (0, 0))) :
    Calls Try.prog 23 #[.slice A 1 c, .slice (some ⟨g, 0, none⟩) 1 1] W fun e w' => e = .returned (.bool true) ∧ Below W.heap.size W w' :=
  (foyerlaw19_ints.calls 3 A c [x] (some ⟨g, 0, none⟩) 1 [x] true W hA hc (cint_blk hg) (Nat.le_refl _) (ints1 x)).mono fun e w' ⟨h1, h2⟩ => ⟨h1, h2.below⟩
theorem backC (W : World) (A : Option Addr) (hA : Kd.C k49 W A 2 [⟨0, 7⟩, ⟨2, 0⟩]) :
    Calls Try.prog 12 #[.slice A 2 2] W fun e w' => ∃ A' c', e = .returned (.slice A' 2 c') ∧ 2 ≤ c' ∧ Kd.C k49 w' A' 2 [⟨0, 2⟩, ⟨7, 0⟩] ∧ Below W.heap.size W w' :=
  (remap_Back.calls A 2 [⟨0, 7⟩, ⟨2, 0⟩] [⟨0, 2⟩, ⟨7, 0⟩] W hA (Nat.le_refl _) (by unfold remap_Back.f; rw [if_pos (by simp), backW])).mono fun e w' ⟨v, h1, h2, h3⟩ => by
    obtain ⟨A', c', rfl, h4, h5⟩ := Kd.R_reads h2
    exact ⟨A', c', h1, h4, h5, h3⟩
theorem movesC (W : World) (A : Option Addr) (c g : Nat) (hA : Kd.C k49 W A 2 [⟨0, 2⟩, ⟨7, 0⟩]) (hc : 2 ≤ c) (hg : W.heap[g]? = some (.cells #[.int .i64 0, .int .i64 2, .int .i64 7, .int .i64 0] 49 (0, 0))) :
    Calls Try.prog 13 #[.slice A 2 c, .slice (some ⟨g, 0, none⟩) 2 2] W fun e w' => e = .returned (.bool true) ∧ Below W.heap.size W w' :=
  (foyerlaw19_moves.calls 4 A c [⟨0, 2⟩, ⟨7, 0⟩] (some ⟨g, 0, none⟩) 2 [⟨0, 2⟩, ⟨7, 0⟩] true W hA hc (c49_blk (xs := [⟨0, 2⟩, ⟨7, 0⟩]) hg (by simp)) (Nat.le_refl _) (moves2 _ _)).mono fun e w' ⟨h1, h2⟩ => ⟨h1, h2.below⟩
set_option maxHeartbeats 64000000 in
theorem works_calls (w : World) : Calls Try.prog 8 #[] w fun e w' => e = .returned (.bool true) ∧ Below w.heap.size w w' := by
  obtain ⟨w1, hw1⟩ : ∃ w1, w.alloc (.cells #[.int .i64 0, .int .i64 7, .int .i64 2, .int .i64 0] 49) = w1 := ⟨_, rfl⟩
  have HG1 := Lib.hid (show w1.heap[w.heap.size]? = some (.cells #[.int .i64 0, .int .i64 7, .int .i64 2, .int .i64 0] 49 (0, 0)) by rw [← hw1]; exact blk_new w _)
  have HB1 := Lib.hid (show Below w.heap.size w w1 by rw [← hw1]; exact below_alloc (Below.refl _ _) _)
  go_enter Try.func8, Try.ntmps8
  go_wp2_with fail
  clear hw1
  obtain ⟨G, hG⟩ : ∃ G, w.heap.size = G := ⟨_, rfl⟩
  rw [hG] at HG1
  rw [hG]
  clear hG
  have HC1 := Lib.hid (show Kd.C k49 w1 (some ⟨G, 0, none⟩) 2 [⟨0, 7⟩, ⟨2, 0⟩] from c49_blk (xs := [⟨0, 7⟩, ⟨2, 0⟩]) HG1.out (by simp))
  refine (foyerlaw19_first.calls [⟨1, 7⟩] w1 rfl).mono ?_
  rintro e w2 ⟨v2, rfl, hr2, hb2⟩
  obtain ⟨A2, c2, rfl, hc2, hC2⟩ := Kd.R_reads hr2
  have HF2 := Lib.hid hC2
  have HFC := Lib.hid hc2
  have HC2 := Lib.hid (Kd.C_below HC1.out hb2)
  have HG2 := Lib.hid (blk_below HG1.out hb2)
  have HB2 := Lib.hid (below_then HB1.out HB1.out.size hb2)
  clear hr2 hb2 hc2 hC2 HC1 HG1 HB1
  simp only [List.length_cons, List.length_nil, Nat.zero_add]
  go_wp2_with fail
  refine (remap_Lost.calls A2 c2 [⟨1, 7⟩] (some ⟨G, 0, none⟩) 2 [⟨0, 7⟩, ⟨2, 0⟩] [1] w2 HF2.out HFC.out HC2.out (Nat.le_refl _) (by unfold remap_Lost.f; rw [lostW])).mono ?_
  rintro e w3 ⟨v3, rfl, hr3, hb3⟩
  obtain ⟨Aa, ca, rfl, hca, hCa⟩ := Kd.R_reads hr3
  have HA3 := Lib.hid hCa
  have HCA := Lib.hid hca
  have HC3 := Lib.hid (Kd.C_below HC2.out hb3)
  have HG3 := Lib.hid (blk_below HG2.out hb3)
  have HB3 := Lib.hid (below_then HB2.out HB2.out.size hb3)
  clear hr3 hb3 hca hCa HC2 HG2 HB2 HF2 HFC
  simp only [List.length_cons, List.length_nil, Nat.zero_add]
  go_wp2_with fail
  refine (foyerlaw19_second.calls [⟨1, 129⟩, ⟨0, 1⟩] w3 rfl).mono ?_
  rintro e w4 ⟨v4, rfl, hr4, hb4⟩
  obtain ⟨A4, c4, rfl, hc4, hC4⟩ := Kd.R_reads hr4
  have HF4 := Lib.hid hC4
  have HFC := Lib.hid hc4
  have HC4 := Lib.hid (Kd.C_below HC3.out hb4)
  have HA4 := Lib.hid (Kd.C_below HA3.out hb4)
  have HG4 := Lib.hid (blk_below HG3.out hb4)
  have HB4 := Lib.hid (below_then HB3.out HB3.out.size hb4)
  clear hr4 hb4 hc4 hC4 HC3 HG3 HB3 HA3
  simp only [List.length_cons, List.length_nil, Nat.zero_add, Nat.reduceAdd]
  go_wp2_with fail
  refine (remap_New.calls A4 c4 [⟨1, 129⟩, ⟨0, 1⟩] (some ⟨G, 0, none⟩) 2 [⟨0, 7⟩, ⟨2, 0⟩] [8] w4 HF4.out HFC.out HC4.out (Nat.le_refl _) (by unfold remap_New.f; rw [newW])).mono ?_
  rintro e w5 ⟨v5, rfl, hr5, hb5⟩
  obtain ⟨Ab, cb, rfl, hcb, hCb⟩ := Kd.R_reads hr5
  have HB5' := Lib.hid hCb
  have HCB := Lib.hid hcb
  have HC5 := Lib.hid (Kd.C_below HC4.out hb5)
  have HA5 := Lib.hid (Kd.C_below HA4.out hb5)
  have HG5 := Lib.hid (blk_below HG4.out hb5)
  have HB5 := Lib.hid (below_then HB4.out HB4.out.size hb5)
  clear hr5 hb5 hcb hCb HC4 HG4 HB4 HA4 HF4 HFC
  simp only [List.length_cons, List.length_nil, Nat.zero_add]
  have KB := Lib.hid (show ∀ w0 w', Below w0.heap.size w0 w' → (fun W' => W'.cell? ⟨G, 0, none⟩ = some (.int .i64 0) ∧ W'.cell? ⟨G, 1, none⟩ = some (.int .i64 7) ∧ W'.cell? ⟨G, 2, none⟩ = some (.int .i64 2) ∧ W'.cell? ⟨G, 3, none⟩ = some (.int .i64 0) ∧ Hid (Kd.C (Kd.int .i64) W' Aa 1 [1] ∧ Kd.C (Kd.int .i64) W' Ab 1 [8] ∧ Kd.C k49 W' (some ⟨G, 0, none⟩) 2 [⟨0, 7⟩, ⟨2, 0⟩] ∧ Below w.heap.size w W')) w0 → (fun W' => W'.cell? ⟨G, 0, none⟩ = some (.int .i64 0) ∧ W'.cell? ⟨G, 1, none⟩ = some (.int .i64 7) ∧ W'.cell? ⟨G, 2, none⟩ = some (.int .i64 2) ∧ W'.cell? ⟨G, 3, none⟩ = some (.int .i64 0) ∧ Hid (Kd.C (Kd.int .i64) W' Aa 1 [1] ∧ Kd.C (Kd.int .i64) W' Ab 1 [8] ∧ Kd.C k49 W' (some ⟨G, 0, none⟩) 2 [⟨0, 7⟩, ⟨2, 0⟩] ∧ Below w.heap.size w W')) w' from by
    rintro w0 w' hb ⟨a1, a2, a3, a4, a5⟩
    exact ⟨pw_cell_below hb a1, pw_cell_below hb a2, pw_cell_below hb a3, pw_cell_below hb a4, Lib.hid ⟨Kd.C_below a5.out.1 hb, Kd.C_below a5.out.2.1 hb, Kd.C_below a5.out.2.2.1 hb, below_then a5.out.2.2.2 a5.out.2.2.2.size hb⟩⟩)
  have SH := KB.out w5 w5.drew (Below.drew (Below.refl _ _)) ⟨cell_of_row _ _ 0 _ _ _ HG5.out, cell_of_row _ _ 1 _ _ _ HG5.out, cell_of_row _ _ 2 _ _ _ HG5.out, cell_of_row _ _ 3 _ _ _ HG5.out, Lib.hid ⟨HA5.out, HB5'.out, HC5.out, HB5.out⟩⟩
  have HIA := Lib.hid (show ∀ W, (fun W' => W'.cell? ⟨G, 0, none⟩ = some (.int .i64 0) ∧ W'.cell? ⟨G, 1, none⟩ = some (.int .i64 7) ∧ W'.cell? ⟨G, 2, none⟩ = some (.int .i64 2) ∧ W'.cell? ⟨G, 3, none⟩ = some (.int .i64 0) ∧ Hid (Kd.C (Kd.int .i64) W' Aa 1 [1] ∧ Kd.C (Kd.int .i64) W' Ab 1 [8] ∧ Kd.C k49 W' (some ⟨G, 0, none⟩) 2 [⟨0, 7⟩, ⟨2, 0⟩] ∧ Below w.heap.size w W')) W → ∀ g, W.heap[g]? = some (.cells #[.int .i64 1] 3 (0, 0)) → Calls Try.prog 23 #[.slice Aa 1 ca, .slice (some ⟨g, 0, none⟩) 1 1] W fun e w' => e = .returned (.bool true) ∧ Below W.heap.size W w' from
    fun W h g hg => intsC 1 W Aa ca g h.2.2.2.2.out.1 HCA.out hg)
  have HIB := Lib.hid (show ∀ W, (fun W' => W'.cell? ⟨G, 0, none⟩ = some (.int .i64 0) ∧ W'.cell? ⟨G, 1, none⟩ = some (.int .i64 7) ∧ W'.cell? ⟨G, 2, none⟩ = some (.int .i64 2) ∧ W'.cell? ⟨G, 3, none⟩ = some (.int .i64 0) ∧ Hid (Kd.C (Kd.int .i64) W' Aa 1 [1] ∧ Kd.C (Kd.int .i64) W' Ab 1 [8] ∧ Kd.C k49 W' (some ⟨G, 0, none⟩) 2 [⟨0, 7⟩, ⟨2, 0⟩] ∧ Below w.heap.size w W')) W → ∀ g, W.heap[g]? = some (.cells #[.int .i64 8] 3 (0, 0)) → Calls Try.prog 23 #[.slice Ab 1 cb, .slice (some ⟨g, 0, none⟩) 1 1] W fun e w' => e = .returned (.bool true) ∧ Below W.heap.size W w' from
    fun W h g hg => intsC 8 W Ab cb g h.2.2.2.2.out.2.1 HCB.out hg)
  have HBK := Lib.hid (show ∀ W, (fun W' => W'.cell? ⟨G, 0, none⟩ = some (.int .i64 0) ∧ W'.cell? ⟨G, 1, none⟩ = some (.int .i64 7) ∧ W'.cell? ⟨G, 2, none⟩ = some (.int .i64 2) ∧ W'.cell? ⟨G, 3, none⟩ = some (.int .i64 0) ∧ Hid (Kd.C (Kd.int .i64) W' Aa 1 [1] ∧ Kd.C (Kd.int .i64) W' Ab 1 [8] ∧ Kd.C k49 W' (some ⟨G, 0, none⟩) 2 [⟨0, 7⟩, ⟨2, 0⟩] ∧ Below w.heap.size w W')) W → Calls Try.prog 12 #[.slice (some ⟨G, 0, none⟩) 2 2] W fun e w' => ∃ A' c', e = .returned (.slice A' 2 c') ∧ 2 ≤ c' ∧ Kd.C k49 w' A' 2 [⟨0, 2⟩, ⟨7, 0⟩] ∧ Below W.heap.size W w' from
    fun W h => backC W _ h.2.2.2.2.out.2.2.1)
  clear HA5 HB5' HC5 HG5 HB5
  go_wp2_with fail
  go_region_held3 (fun W' => W'.cell? ⟨G, 0, none⟩ = some (.int .i64 0) ∧ W'.cell? ⟨G, 1, none⟩ = some (.int .i64 7) ∧ W'.cell? ⟨G, 2, none⟩ = some (.int .i64 2) ∧ W'.cell? ⟨G, 3, none⟩ = some (.int .i64 0) ∧ Hid (Kd.C (Kd.int .i64) W' Aa 1 [1] ∧ Kd.C (Kd.int .i64) W' Ab 1 [8] ∧ Kd.C k49 W' (some ⟨G, 0, none⟩) 2 [⟨0, 7⟩, ⟨2, 0⟩] ∧ Below w.heap.size w W')) (first | assumption | exact KB.out _ _ (by assumption) (by assumption) | exact KB.out _ _ (below_ad _ _) (by assumption) | exact KB.out _ _ (below_alloc (Below.refl _ _) _) (by assumption))
    (first
      | (go_at_call 27; first | ((with_reducible refine (f1 _ _ (by first | exact blk_new _ _ | exact blk_drew (blk_new _ _) | exact blk_below (blk_new _ _) (by assumption))).mono ?_); rintro e w' ⟨rfl, hd⟩) | ((with_reducible refine (f2 _ _ (by first | exact blk_new _ _ | exact blk_drew (blk_new _ _) | exact blk_below (blk_new _ _) (by assumption))).mono ?_); rintro e w' ⟨rfl, hd⟩) | ((with_reducible refine (f3 _ _ (by first | exact blk_new _ _ | exact blk_drew (blk_new _ _) | exact blk_below (blk_new _ _) (by assumption))).mono ?_); rintro e w' ⟨rfl, hd⟩) | ((with_reducible refine (f4 _ _ (by first | exact blk_new _ _ | exact blk_drew (blk_new _ _) | exact blk_below (blk_new _ _) (by assumption))).mono ?_); rintro e w' ⟨rfl, hd⟩) | ((with_reducible refine (f5 _ _ (by first | exact blk_new _ _ | exact blk_drew (blk_new _ _) | exact blk_below (blk_new _ _) (by assumption))).mono ?_); rintro e w' ⟨rfl, hd⟩) | ((with_reducible refine (f6 _ _ (by first | exact blk_new _ _ | exact blk_drew (blk_new _ _) | exact blk_below (blk_new _ _) (by assumption))).mono ?_); rintro e w' ⟨rfl, hd⟩))
      | (go_at_call 23; first | ((with_reducible refine (HIA.out _ (by assumption) _ (by first | exact blk_new _ _ | exact blk_drew (blk_new _ _) | exact blk_below (blk_new _ _) (by assumption))).mono ?_); rintro e w' ⟨rfl, hd⟩) | ((with_reducible refine (HIB.out _ (by assumption) _ (by first | exact blk_new _ _ | exact blk_drew (blk_new _ _) | exact blk_below (blk_new _ _) (by assumption))).mono ?_); rintro e w' ⟨rfl, hd⟩))
      | (go_at_call 12; (with_reducible refine (HBK.out _ (by assumption)).mono ?_); rintro e w' ⟨A6, c6, rfl, hc6, hC6, hd⟩)
      | (go_at_call 13; (with_reducible refine (movesC _ _ _ _ (by first | assumption | exact Kd.C_alloc (by assumption) _) (by assumption) (by first | exact blk_new _ _ | exact blk_drew (blk_new _ _) | exact blk_below (blk_new _ _) (by assumption))).mono ?_); rintro e w' ⟨rfl, hd⟩))
  all_goals
    rename_i hH
    obtain ⟨_, _, _, _, HH⟩ := hH
    go_wp2_with fail
    go_ret
    exact ⟨rfl, HH.out.2.2.2⟩
end Go.Proofs.Yteojldbfebnccaa
