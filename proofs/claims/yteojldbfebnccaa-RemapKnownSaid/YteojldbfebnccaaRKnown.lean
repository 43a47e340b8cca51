/- RemapKnown: the walk. (Printed by gen_known19.py.) -/
import Derived.Test.YteojldbfebnccaaRWorks
namespace Go.Proofs.Yteojldbfebnccaa
open Go.RowKit Go.Proofs.YteojldbfebnccaaW Go.Proofs.YteojldbfebnccaaW.PrintWords
set_option linter.unusedVariables false
set_option linter.unusedSimpArgs false
set_option maxRecDepth 100000
theorem firstC (W : World) : Calls Try.prog 22 #[] W fun e w' => ∃ A c, e = .returned (.agg #[.slice A 1 c]) ∧ 1 ≤ c ∧ Kd.C k61 w' A 1 [⟨1, 7⟩] ∧ Below W.heap.size W w' :=
  (foyerlaw19_first.calls [⟨1, 7⟩] W rfl).mono fun e w' ⟨v, h1, h2, h3⟩ => by
    obtain ⟨A, c, rfl, h4, h5⟩ := Kd.R_reads h2
    exact ⟨A, c, h1, h4, h5, h3⟩
theorem secondC (W : World) : Calls Try.prog 21 #[] W fun e w' => ∃ A c, e = .returned (.agg #[.slice A 2 c]) ∧ 2 ≤ c ∧ Kd.C k61 w' A 2 [⟨1, 129⟩, ⟨0, 1⟩] ∧ Below W.heap.size W w' :=
  (foyerlaw19_second.calls [⟨1, 129⟩, ⟨0, 1⟩] W rfl).mono fun e w' ⟨v, h1, h2, h3⟩ => by
    obtain ⟨A, c, rfl, h4, h5⟩ := Kd.R_reads h2
    exact ⟨A, c, h1, h4, h5, h3⟩
theorem nil61 (W : World) : Kd.C k61 W none 0 [] := Kd.C_nil _ _
theorem nil49 (W : World) : Kd.C k49 W none 0 [] := Kd.C_nil _ _
theorem chk1 : remap_Check.v [] [⟨1, 129⟩, ⟨0, 1⟩] [] = (-1, 23) := by kernel_rfl
theorem chk2 : remap_Check.v [⟨1, 7⟩] [] [⟨99, 0⟩] = (-1, 23) := by kernel_rfl
theorem chk3 : remap_Check.v [⟨1, 7⟩] [⟨1, 129⟩, ⟨0, 1⟩] [] = (-1, 0) := by kernel_rfl
theorem to1 : remap_To.v [] 3 = (-1, false) := by kernel_rfl
theorem from1 : remap_From.v [⟨4, 3⟩, ⟨5, 3⟩] 3 = (4, true) := by kernel_rfl
theorem back1 : remap_Back.v [⟨4, 3⟩, ⟨5, 3⟩, ⟨9, -2⟩] = [⟨-2, 9⟩, ⟨3, 4⟩, ⟨3, 5⟩] := by kernel_rfl
theorem back2 : remap_Back.v [] = [] := by kernel_rfl
theorem lost1 : remap_Lost.v [] [] = [] := by kernel_rfl
theorem new1 : remap_New.v [⟨1, 129⟩, ⟨0, 1⟩] [⟨0, 99⟩, ⟨0, 8⟩] = [0, 7] := by kernel_rfl
theorem moves3 (x y z : S49) : foyerlaw19_moves.f 5 [x, y, z] [x, y, z] = some true := by
  simp [foyerlaw19_moves.f, foyerlaw19_moves.l0, rd_T49, wrap64]
theorem ints2 (x y : Int) : foyerlaw19_ints.f 4 [x, y] [x, y] = some true := by
  simp [foyerlaw19_ints.f, foyerlaw19_ints.l0, rd, wrap64]
theorem check1C (W : World) (A : Option Addr) (c : Nat) (h : Kd.C k61 W A 2 [⟨1, 129⟩, ⟨0, 1⟩]) (hc : 2 ≤ c) : Calls Try.prog 11 #[.agg #[.slice none 0 0], .agg #[.slice A 2 c], .slice none 0 0] W fun e w' => e = .returned (.tuple #[.int .i64 (-1), .int .i64 23]) ∧ Below W.heap.size W w' :=
  remap_Check.calls none 0 [] A c [⟨1, 129⟩, ⟨0, 1⟩] none 0 [] (-1) 23 W (nil61 W) (Nat.le_refl _) h hc (nil49 W) (Nat.le_refl _) (by unfold remap_Check.f; rw [chk1])
theorem check2C (W : World) (A : Option Addr) (c g : Nat) (h : Kd.C k61 W A 1 [⟨1, 7⟩]) (hc : 1 ≤ c) (hg : W.heap[g]? = some (.cells #[.int .i64 99, .int .i64 0] 49 (0, 0))) : Calls Try.prog 11 #[.agg #[.slice A 1 c], .agg #[.slice none 0 0], .slice (some ⟨g, 0, none⟩) 1 1] W fun e w' => e = .returned (.tuple #[.int .i64 (-1), .int .i64 23]) ∧ Below W.heap.size W w' :=
  remap_Check.calls A c [⟨1, 7⟩] none 0 [] (some ⟨g, 0, none⟩) 1 [⟨99, 0⟩] (-1) 23 W h hc (nil61 W) (Nat.le_refl _) (c49_blk (xs := [⟨99, 0⟩]) hg (by simp)) (Nat.le_refl _) (by unfold remap_Check.f; rw [chk2])
theorem check3C (W : World) (A : Option Addr) (c : Nat) (B : Option Addr) (d : Nat) (h : Kd.C k61 W A 1 [⟨1, 7⟩]) (hc : 1 ≤ c) (h' : Kd.C k61 W B 2 [⟨1, 129⟩, ⟨0, 1⟩]) (hd : 2 ≤ d) : Calls Try.prog 11 #[.agg #[.slice A 1 c], .agg #[.slice B 2 d], .slice none 0 0] W fun e w' => e = .returned (.tuple #[.int .i64 (-1), .int .i64 0]) ∧ Below W.heap.size W w' :=
  remap_Check.calls A c [⟨1, 7⟩] B d [⟨1, 129⟩, ⟨0, 1⟩] none 0 [] (-1) 0 W h hc h' hd (nil49 W) (Nat.le_refl _) (by unfold remap_Check.f; rw [chk3])
theorem back1C (W : World) (g : Nat) (hg : W.heap[g]? = some (.cells #[.int .i64 4, .int .i64 3, .int .i64 5, .int .i64 3, .int .i64 9, .int .i64 (-2)] 49 (0, 0))) :
    Calls Try.prog 12 #[.slice (some ⟨g, 0, none⟩) 3 3] W fun e w' => ∃ A' c', e = .returned (.slice A' 3 c') ∧ 3 ≤ c' ∧ Kd.C k49 w' A' 3 [⟨-2, 9⟩, ⟨3, 4⟩, ⟨3, 5⟩] ∧ Below W.heap.size W w' :=
  (remap_Back.calls (some ⟨g, 0, none⟩) 3 [⟨4, 3⟩, ⟨5, 3⟩, ⟨9, -2⟩] [⟨-2, 9⟩, ⟨3, 4⟩, ⟨3, 5⟩] W (c49_blk (xs := [⟨4, 3⟩, ⟨5, 3⟩, ⟨9, -2⟩]) hg (by simp)) (Nat.le_refl _) (by unfold remap_Back.f; rw [if_pos (by simp), back1])).mono fun e w' ⟨v, h1, h2, h3⟩ => by
    obtain ⟨A', c', rfl, h4, h5⟩ := Kd.R_reads h2
    exact ⟨A', c', h1, h4, h5, h3⟩
theorem back2C (W : World) : Calls Try.prog 12 #[.slice none 0 0] W fun e w' => ∃ A' c', e = .returned (.slice A' 0 c') ∧ Below W.heap.size W w' :=
  (remap_Back.calls none 0 [] [] W (nil49 W) (Nat.le_refl _) (by unfold remap_Back.f; rw [if_pos (by simp), back2])).mono fun e w' ⟨v, h1, h2, h3⟩ => by
    obtain ⟨A', c', rfl, h4, h5⟩ := Kd.R_reads h2
    exact ⟨A', c', h1, h3⟩
theorem lost1C (W : World) : Calls Try.prog 14 #[.agg #[.slice none 0 0], .slice none 0 0] W fun e w' => ∃ A' c', e = .returned (.slice A' 0 c') ∧ Below W.heap.size W w' :=
  (remap_Lost.calls none 0 [] none 0 [] [] W (nil61 W) (Nat.le_refl _) (nil49 W) (Nat.le_refl _) (by unfold remap_Lost.f; rw [lost1])).mono fun e w' ⟨v, h1, h2, h3⟩ => by
    obtain ⟨A', c', rfl, h4, h5⟩ := Kd.R_reads h2
    exact ⟨A', c', h1, h3⟩
theorem new1C (W : World) (A : Option Addr) (c g : Nat) (h : Kd.C k61 W A 2 [⟨1, 129⟩, ⟨0, 1⟩]) (hc : 2 ≤ c) (hg : W.heap[g]? = some (.cells #[.int .i64 0, .int .i64 99, .int .i64 0, .int .i64 8] 49 (0, 0))) :
    Calls Try.prog 15 #[.agg #[.slice A 2 c], .slice (some ⟨g, 0, none⟩) 2 2] W fun e w' => ∃ A' c', e = .returned (.slice A' 2 c') ∧ 2 ≤ c' ∧ Kd.C (Kd.int .i64) w' A' 2 [0, 7] ∧ Below W.heap.size W w' :=
  (remap_New.calls A c [⟨1, 129⟩, ⟨0, 1⟩] (some ⟨g, 0, none⟩) 2 [⟨0, 99⟩, ⟨0, 8⟩] [0, 7] W h hc (c49_blk (xs := [⟨0, 99⟩, ⟨0, 8⟩]) hg (by simp)) (Nat.le_refl _) (by unfold remap_New.f; rw [new1])).mono fun e w' ⟨v, h1, h2, h3⟩ => by
    obtain ⟨A', c', rfl, h4, h5⟩ := Kd.R_reads h2
    exact ⟨A', c', h1, h4, h5, h3⟩
theorem moves3C (W : World) (A : Option Addr) (c g : Nat) (hA : Kd.C k49 W A 3 [⟨-2, 9⟩, ⟨3, 4⟩, ⟨3, 5⟩]) (hc : 3 ≤ c) (hg : W.heap[g]? = some (.cells #[.int .i64 (-2), .int .i64 9, .int .i64 3, .int .i64 4, .int .i64 3, .int .i64 5] 49 (0, 0))) :
    Calls Try.prog 13 #[.slice A 3 c, .slice (some ⟨g, 0, none⟩) 3 3] W fun e w' => e = .returned (.bool true) ∧ Below W.heap.size W w' :=
  (foyerlaw19_moves.calls 5 A c [⟨-2, 9⟩, ⟨3, 4⟩, ⟨3, 5⟩] (some ⟨g, 0, none⟩) 3 [⟨-2, 9⟩, ⟨3, 4⟩, ⟨3, 5⟩] true W hA hc (c49_blk (xs := [⟨-2, 9⟩, ⟨3, 4⟩, ⟨3, 5⟩]) hg (by simp)) (Nat.le_refl _) (moves3 _ _ _)).mono fun e w' ⟨h1, h2⟩ => ⟨h1, h2.below⟩
theorem cint2_blk {W : World} {g : Nat} {x y : Int} (h : W.heap[g]? = some (.cells #[.int .i64 x, .int .i64 y] 3 (0, 0))) : Kd.C (Kd.int .i64) W (some ⟨g, 0, none⟩) 2 [x, y] := by
  have ho : W.ownsRow 0 3 1 (.slice (some ⟨g, 0, none⟩) 2 2) [x, y].length (encs (fun x : Int => Value.int .i64 x) [x, y]) :=
    ⟨by simp [encs], .inr ⟨g, 2, _, rfl, Nat.zero_le _, h, Nat.le_refl _, by unfold maxLen; omega, by simp, by simp [encs]⟩⟩
  obtain ⟨A, c, e, _, hc⟩ := Kd.R_reads (Kd.R_of_own (enc := fun x : Int => Value.int .i64 x) (h1 := fun _ => rfl) (ok := fun _ => True) ho (fun _ _ => trivial))
  simp only [Value.slice.injEq] at e
  rw [e.1]
  exact hc
theorem ints2C (W : World) (A : Option Addr) (c g : Nat) (hA : Kd.C (Kd.int .i64) W A 2 [0, 7]) (hc : 2 ≤ c) (hg : W.heap[g]? = some (.cells #[.int .i64 0, .int .i64 7] 3 (0, 0))) :
    Calls Try.prog 23 #[.slice A 2 c, .slice (some ⟨g, 0, none⟩) 2 2] W fun e w' => e = .returned (.bool true) ∧ Below W.heap.size W w' :=
  (foyerlaw19_ints.calls 4 A c [0, 7] (some ⟨g, 0, none⟩) 2 [0, 7] true W hA hc (cint2_blk hg) (Nat.le_refl _) (ints2 _ _)).mono fun e w' ⟨h1, h2⟩ => ⟨h1, h2.below⟩
theorem to1C (W : World) : Calls Try.prog 17 #[.slice none 0 0, .int .i64 3] W fun e w' => e = .returned (.tuple #[.int .i64 (-1), .bool false]) ∧ Below W.heap.size W w' :=
  remap_To.calls none 0 [] 3 (-1) false W (nil49 W) (Nat.le_refl _) (by unfold remap_To.f; rw [to1])
theorem from1C (W : World) (g : Nat) (hg : W.heap[g]? = some (.cells #[.int .i64 4, .int .i64 3, .int .i64 5, .int .i64 3] 49 (0, 0))) : Calls Try.prog 18 #[.slice (some ⟨g, 0, none⟩) 2 2, .int .i64 3] W fun e w' => e = .returned (.tuple #[.int .i64 4, .bool true]) ∧ Below W.heap.size W w' :=
  remap_From.calls (some ⟨g, 0, none⟩) 2 [⟨4, 3⟩, ⟨5, 3⟩] 3 4 true W (c49_blk (xs := [⟨4, 3⟩, ⟨5, 3⟩]) hg (by simp)) (Nat.le_refl _) (by unfold remap_From.f; rw [from1])
set_option maxHeartbeats 64000000 in
theorem known_calls (w : World) : Calls Try.prog 4 #[] w fun e w' => e = .returned (.bool true) ∧ Below w.heap.size w w' := by
  go_enter Try.func4, Try.ntmps4
  go_wp2_with fail
  have HG1 := Lib.hid (show (w.alloc (.cells #[.slice none 0 0] 29)).heap[w.heap.size]? = some (.cells #[.slice none 0 0] 29 (0, 0)) from blk_new w _)
  have HB1 := Lib.hid (show Below w.heap.size w (w.alloc (.cells #[.slice none 0 0] 29)) from below_alloc (Below.refl _ _) _)
  obtain ⟨w1, hw1⟩ : ∃ w1, w.alloc (.cells #[.slice none 0 0] 29) = w1 := ⟨_, rfl⟩
  rw [hw1] at HG1 HB1
  rw [hw1]
  clear hw1
  obtain ⟨G, hG⟩ : ∃ G, w.heap.size = G := ⟨_, rfl⟩
  rw [hG] at HG1
  rw [hG]
  clear hG
  have KB := Lib.hid (show ∀ w0 w', Below w0.heap.size w0 w' → (fun W' => W'.cell? ⟨G, 0, none⟩ = some (.slice none 0 0) ∧ Hid (Below w.heap.size w W')) w0 → (fun W' => W'.cell? ⟨G, 0, none⟩ = some (.slice none 0 0) ∧ Hid (Below w.heap.size w W')) w' from by
    rintro w0 w' hb ⟨a1, a2⟩
    exact ⟨pw_cell_below hb a1, Lib.hid (below_then a2.out a2.out.size hb)⟩)
  have SH := KB.out w1 w1.drew (Below.drew (Below.refl _ _)) ⟨cell_of_row _ _ 0 _ _ _ HG1.out, HB1⟩
  clear HG1 HB1
  go_region_held3 (fun W' => W'.cell? ⟨G, 0, none⟩ = some (.slice none 0 0) ∧ Hid (Below w.heap.size w W')) (first | assumption | exact KB.out _ _ (by assumption) (by assumption))
    (first
      | (go_at_call 21; (with_reducible refine (secondC _).mono ?_); rintro e w' ⟨A2, c2, rfl, hc2, hC2, hd⟩)
      | (go_at_call 11; (with_reducible refine (check1C _ _ _ (by assumption) (by assumption)).mono ?_); rintro e w' ⟨rfl, hd⟩))
  rename_i hH
  clear SH hd hC2 hc2
  obtain ⟨w2, hw2⟩ : ∃ w2, w' = w2 := ⟨_, rfl⟩
  rw [hw2] at hH
  rw [hw2]
  clear hw2
  have SH := KB.out w2 w2.drew (Below.drew (Below.refl _ _)) hH
  clear hH
  go_wp2_with fail
  go_region_held3 (fun W' => W'.cell? ⟨G, 0, none⟩ = some (.slice none 0 0) ∧ Hid (Below w.heap.size w W')) (first | assumption | exact KB.out _ _ (by assumption) (by assumption) | exact KB.out _ _ (below_ad _ _) (by assumption) | exact KB.out _ _ (below_alloc (Below.refl _ _) _) (by assumption))
    (first
      | (go_at_call 22; (with_reducible refine (firstC _).mono ?_); rintro e w' ⟨A3, c3, rfl, hc3, hC3, hd⟩)
      | (go_at_call 11; (with_reducible refine (check2C _ _ _ _ (by first | assumption | exact Kd.C_alloc (by assumption) _ | exact Kd.C_drew (by assumption) | exact Kd.C_drew (Kd.C_alloc (by assumption) _)) (by assumption) (by first | exact blk_new _ _ | exact blk_drew (blk_new _ _) | exact blk_below (blk_new _ _) (by assumption) | exact blk_below (blk_drew (blk_new _ _)) (by assumption))).mono ?_); rintro e w' ⟨rfl, hd⟩))
  all_goals
    rename_i hH
    go_wp2_with fail
    refine (firstC _).mono ?_
    rintro e w3 ⟨A4, c4, rfl, hc4, hC4, hd4⟩
    have hK3 := KB.out _ _ hd4 hH
    clear hd4 hH
    go_wp2_with fail
    refine (secondC _).mono ?_
    rintro e w4 ⟨A5, c5, rfl, hc5, hC5, hd5⟩
    have hC4' := Kd.C_below hC4 hd5
    have hK4 := KB.out _ _ hd5 hK3
    clear hd5 hK3 hC4
    go_wp2_with fail
    refine (check3C _ _ _ _ _ hC4' hc4 hC5 hc5).mono ?_
    rintro e w5 ⟨rfl, hd6⟩
    have hK5 := KB.out _ _ hd6 hK4
    clear hd6 hK4 hC5 hC4' hc4 hc5
    go_wp2_with fail
    refine (to1C _).mono ?_
    rintro e w6 ⟨rfl, hd7⟩
    have hK6 := KB.out _ _ hd7 hK5
    clear hd7 hK5
    go_wp2_with fail
    refine (from1C _ _ (by first | exact blk_new _ _ | exact blk_drew (blk_new _ _))).mono ?_
    rintro e w7 ⟨rfl, hd8⟩
    have hK7 := KB.out _ _ hd8 (KB.out _ _ (below_alloc (Below.refl _ _) _) hK6)
    clear hd8 hK6
    go_wp2_with fail
    refine (back1C _ _ (by first | exact blk_new _ _ | exact blk_drew (blk_new _ _))).mono ?_
    rintro e w8 ⟨A6, c6, rfl, hc6, hC6, hd9⟩
    have hK8 := KB.out _ _ hd9 (KB.out _ _ (below_alloc (Below.refl _ _) _) hK7)
    clear hd9 hK7
    go_wp2_with fail
    refine (works_calls _).mono ?_
    rintro e w9 ⟨rfl, hd10⟩
    have hC6' := Kd.C_below hC6 hd10
    have hK9 := KB.out _ _ hd10 hK8
    clear hd10 hK8 hC6
    go_wp2_with fail
    refine (moves3C _ _ _ _ (Kd.C_alloc hC6' _) hc6 (by first | exact blk_new _ _ | exact blk_drew (blk_new _ _))).mono ?_
    rintro e w10 ⟨rfl, hd11⟩
    have hK10 := KB.out _ _ hd11 (KB.out _ _ (below_alloc (Below.refl _ _) _) hK9)
    clear hd11 hK9 hC6' hc6
    go_wp2_with fail
    refine (back2C _).mono ?_
    rintro e w11 ⟨A7, c7, rfl, hd12⟩
    have hK11 := KB.out _ _ hd12 hK10
    clear hd12 hK10
    have hcell := hK11.1
    go_wp2_with fail
    clear hcell
    refine (lost1C _).mono ?_
    rintro e w12 ⟨A8, c8, rfl, hd13⟩
    have hK12 := KB.out _ _ hd13 hK11
    clear hd13 hK11
    go_wp2_with fail
    refine (secondC _).mono ?_
    rintro e w13 ⟨A9, c9, rfl, hc9, hC9, hd14⟩
    have hK13 := KB.out _ _ hd14 hK12
    clear hd14 hK12
    go_wp2_with fail
    refine (new1C _ _ _ _ (Kd.C_alloc hC9 _) hc9 (by first | exact blk_new _ _ | exact blk_drew (blk_new _ _))).mono ?_
    rintro e w14 ⟨Aa, ca, rfl, hca, hCa, hd15⟩
    have hK14 := KB.out _ _ hd15 (KB.out _ _ (below_alloc (Below.refl _ _) _) hK13)
    clear hd15 hK13 hC9
    go_wp2_with fail
    refine (ints2C _ _ _ _ (Kd.C_alloc hCa _) hca (by first | exact blk_new _ _ | exact blk_drew (blk_new _ _))).mono ?_
    rintro e w15 ⟨rfl, hd16⟩
    have hK15 := KB.out _ _ hd16 (KB.out _ _ (below_alloc (Below.refl _ _) _) hK14)
    clear hd16 hK14
    go_wp2_with fail
    go_ret
    exact ⟨rfl, hK15.2.out⟩
end Go.Proofs.Yteojldbfebnccaa
