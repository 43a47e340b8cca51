/- rows (28): a hall out of pairs of bytes. (Printed by gen_rows.py over the kit's regions.py.) -/
import Derived.Test.YteojldbfebnccaaBasex0
import Derived.WalkKit
import Derived.Lib.Hide
namespace Go.Proofs.Yteojldbfebnccaa
open Go.RowKit Go.Proofs.YteojldbfebnccaaW.PrintWords Go.Proofs.YteojldbfebnccaaW.PrintLast Go.Proofs.YteojldbfebnccaaW.PrintMore
attribute [local go_sem] max2_int min2_int max_two min_two
set_option linter.unusedVariables false
set_option linter.unusedSimpArgs false
set_option maxRecDepth 100000
/-- Pairs of bytes are read. -/
def PrAt (W : World) (A : Option Addr) (xs : List (Int × Int)) : Prop :=
  ∀ (i : Nat) (x : Int × Int), xs[i]? = some x → (0 ≤ x.1 ∧ x.1 < 256 ∧ 0 ≤ x.2 ∧ x.2 < 256) ∧ ∃ ad, A = some ad ∧ W.cell? (ad.add (i * 2)) = some (.int .u8 x.1) ∧ W.cell? ⟨(ad.add (i * 2)).block, (ad.add (i * 2)).off + 1, none⟩ = some (.int .u8 x.2)
theorem PrAt.below {W W' : World} {A : Option Addr} {xs : List (Int × Int)} (h : PrAt W A xs) (hb : Below W.heap.size W W') : PrAt W' A xs := by
  intro i x hx
  obtain ⟨h0, ad, h1, c0, c1⟩ := h i x hx
  exact ⟨h0, ad, h1, pw_cell_below hb c0, pw_cell_below hb c1⟩
def rowOf (x : Int × Int) : S61 := ⟨Int.tmod (wrap64 x.1) 3, if 1 < x.2 then x.2 else 1⟩
def rowsAt (l : List (Int × Int)) (i : Nat) : List S61 := if i = 0 then [⟨1, 21⟩] else (l.take i).map rowOf
def rowsV (l : List (Int × Int)) : List S61 := rowsAt l (min l.length 8)
theorem R61_set {w0 : World} {base : Nat} {v : Value} {xs : List S61} (h : Kd.R k61 61 w0 base (fun _ => True) v xs) {g t : Nat} {cells : Array Value} (hb : w0.heap[g]? = some (.cells cells t (0, 0))) (ht : 61 ≠ t) (j : Nat) (u : Value) : Kd.R k61 61 (w0.setCell ⟨g, j, none⟩ u) base (fun _ => True) v xs := by
  obtain ⟨_, inner, ho, hr⟩ := h
  exact ⟨fun _ _ => trivial, inner, own_setCell ho (own_ne ho hb ht) u, hr⟩
structure RowsAt (w W : World) (P : Nat) (r : List S61) (v : Value) : Prop where
  hp : W.heap[P]? = some (.cells #[v] 29 (0, 0))
  hh : W.heap[w.heap.size]? = some (.cells #[.slice none 0 0] 29 (0, 0))
  own : Kd.R k61 61 W w.heap.size (fun _ => True) v r
  b : Below w.heap.size w W
set_option maxHeartbeats 16000000 in
theorem rows_calls (A : Option Addr) (c : Nat) (l : List (Int × Int)) (w : World) (hl : PrAt w A l) (hc : l.length ≤ c) :
    Calls Try.prog 28 #[.slice A l.length c] w fun e w' => ∃ v, e = .returned (.agg #[v]) ∧ Kd.R k61 61 w' w.heap.size (fun _ => True) v (rowsV l) ∧ Below w.heap.size w w' := by
  obtain ⟨n, hn⟩ : ∃ n, l.length = n := ⟨_, rfl⟩
  have HL := Lib.hid hl
  have HN := Lib.hid hn
  rw [hn] at hc ⊢
  clear hl hn
  go_enter Try.func28, Try.ntmps28
  go_wp2_with fail
  have HA0 := Lib.hid (show RowsAt w (((w.alloc (.cells #[.slice none 0 0] 29)).alloc (.cells #[.int .i64 1, .int .u8 21] 61)).alloc (.cells #[.slice (some ⟨w.heap.size + 1, 0, none⟩) 1 1] 29)) (w.heap.size + 1 + 1) (rowsAt l 0) (.slice (some ⟨w.heap.size + 1, 0, none⟩) 1 1) from by
    have b1 : ((w.alloc (.cells #[.slice none 0 0] 29)).alloc (.cells #[.int .i64 1, .int .u8 21] 61)).heap[w.heap.size + 1]? = some (.cells #[.int .i64 1, .int .u8 21] 61 (0, 0)) := heap_alloc2_new _ _ _
    refine ⟨?_, ?_, ⟨fun _ _ => trivial, [.int .i64 1, .int .u8 21], ⟨rfl, .inr ⟨w.heap.size + 1, 1, #[.int .i64 1, .int .u8 21], rfl, by omega, blk_alloc b1 _, Nat.le_refl _, by unfold maxLen; omega, rfl, rfl⟩⟩, ?_⟩, below_alloc (below_alloc (below_alloc (Below.refl _ _) _) _) _⟩
    · have := heap_alloc_new ((w.alloc (.cells #[.slice none 0 0] 29)).alloc (.cells #[.int .i64 1, .int .u8 21] 61)) (.cells #[.slice (some ⟨w.heap.size + 1, 0, none⟩) 1 1] 29)
      simpa using this
    · exact blk_alloc (blk_alloc (blk_new w _) _) _
    · exact Reps.snoc (Reps.none _ _) (k61_mkM _ _ _ ⟨1, 21⟩) rfl)
  obtain ⟨W0, hW0⟩ : ∃ W0, ((w.alloc (.cells #[.slice none 0 0] 29)).alloc (.cells #[.int .i64 1, .int .u8 21] 61)).alloc (.cells #[.slice (some ⟨w.heap.size + 1, 0, none⟩) 1 1] 29) = W0 := ⟨_, rfl⟩
  rw [hW0] at HA0
  rw [hW0]
  clear hW0
  obtain ⟨P, hP⟩ : ∃ P, w.heap.size + 1 + 1 = P := ⟨_, rfl⟩
  rw [hP] at HA0
  rw [hP]
  have HP := Lib.hid (show w.heap.size < P by omega)
  clear hP
  go_loopg [4] (min n 8) (fun kq v4 wr => ∃ (i : Nat) (v : Value), kq = min n 8 - i ∧ v4 = .int .i64 i ∧ i ≤ min n 8 ∧ Hid (RowsAt w wr P (rowsAt l i) v))
  case atStart => exact ⟨0, _, rfl, rfl, Nat.zero_le _, HA0⟩
  case round =>
    clear HA0
    obtain ⟨i, v, hkq, rfl, hi, HA⟩ := hrel
    by_cases hlt : i < min n 8
    · have q0 : (i : Int) < (n : Int) := by omega
      have q1 : (i : Int) < 8 := by omega
      have p0 : (0 : Int) ≤ (i : Int) := by omega
      obtain ⟨x, hx⟩ : ∃ x, l[i]? = some x := ⟨_, List.getElem?_eq_getElem (by have := HN.out; omega)⟩
      obtain ⟨hxr, ad, ea, hx0, hx1⟩ := HL.out i x hx
      cases ea
      have HXR := Lib.hid hxr
      have HX := Lib.hid hx
      have HX0 := Lib.hid hx0
      have HX1 := Lib.hid hx1
      clear hx hx0 hx1 hxr
      have hp0 : wr.cell? ⟨P, 0, none⟩ = some v := cell_of_row _ _ 0 _ _ _ HA.out.hp
      have hpf : wr.frozen? ⟨P, 0, none⟩ = false := by simp [World.frozen?, HA.out.hp]
      by_cases h0 : i = 0
      · have hz1 : decide ((i : Int) = 0) = true := by simp [h0]
        have hz2 : ((i : Int) == 0) = true := by simp [h0]
        have H0 := Lib.hid h0
        clear h0
        go_wp2_with fail
        obtain ⟨W, hW⟩ : ∃ W, wr.setCell ⟨P, 0, none⟩ (.slice none 0 0) = W := ⟨_, rfl⟩
        have HPB := Lib.hid (show W.heap[P]? = some (.cells #[.slice none 0 0] 29 (0, 0)) by rw [← hW]; exact blk_set HA.out.hp 0 _)
        have HB := Lib.hid (show Below w.heap.size w W by rw [← hW]; exact HA.out.b.setCell (Nat.le_of_lt HP.out) _)
        have HO := Lib.hid (show Kd.R k61 61 W w.heap.size (fun _ => True) (.slice none 0 0) [] from Kd.R_nil _ _ _ _ _)
        have HH := Lib.hid (show W.heap[w.heap.size]? = some (.cells #[.slice none 0 0] 29 (0, 0)) by rw [← hW]; exact (Below.heap_setCell _ _ _ _ (by have := HP.out; simp; omega)).trans HA.out.hh)
        rw [hW]
        have hq0 : (.slice none 0 0 : Value) = .slice none 0 0 := rfl
        clear hW hp0 hpf HA
        have HRL := Lib.hid (show ([] : List S61).length ≤ 8 by simp)
        have HOD := Lib.hid (Kd.R_drew HO.out)
        have HBD := Lib.hid HB.out.drew
        have HPD := Lib.hid (show W.drew.heap[P]? = some _ from HPB.out)
        have hx0 := pw_cell_below HB.out HX0.out
        have hx1 := pw_cell_below HB.out HX1.out
        have hp0 : W.cell? ⟨P, 0, none⟩ = some (.slice none 0 0) := cell_of_row _ _ 0 _ _ _ HPB.out
        refine start_ (n := 20) (S := fun w' => w'.cell? ⟨P, 0, none⟩ = some (.slice none 0 0) ∧ w'.cell? (ad.add (i * 2)) = some (.int .u8 x.1) ∧ w'.cell? ⟨(ad.add (i * 2)).block, (ad.add (i * 2)).off + 1, none⟩ = some (.int .u8 x.2)) (ds := [17, 19]) #[false, false, false, false, false, false, false, false, false, false, false, false, false, false, false, false, false, false, false, false] (by kernel_rfl) rfl rfl ⟨pw_cell_below (Below.drew (Below.refl _ _)) hp0, pw_cell_below (Below.drew (Below.refl _ _)) hx0, pw_cell_below (Below.drew (Below.refl _ _)) hx1⟩ (fun hHeld => ?_)
        refine pure_ (i := 0) (N := some 21) (v := ?_) (a' := ?_) #[true, false, false, false, false, false, false, false, false, false, false, false, false, false, false, false, false, false, false, false] rfl rfl (by kernel_rfl) (fun _ _ _ h => h) (Or.inl ⟨by rfl, ?_⟩) ?_ ?_
        rotate_left
        · intro w'
          go_simp
          with_reducible rfl
        rotate_left
        · simp only [Act.put, List.setIfInBounds_toArray, List.set_cons_zero, List.set_cons_succ, i64_w, i32_w]
          rfl
        refine pure_ (i := 2) (N := some 23) (v := ?_) (a' := ?_) #[true, false, true, false, false, false, false, false, false, false, false, false, false, false, false, false, false, false, false, false] rfl rfl (by kernel_rfl) (fun _ _ _ h => h) (Or.inl ⟨by rfl, ?_⟩) ?_ ?_
        rotate_left
        · intro w'
          go_simp
          with_reducible rfl
        rotate_left
        · simp only [Act.put, List.setIfInBounds_toArray, List.set_cons_zero, List.set_cons_succ, i64_w, i32_w]
          rfl
        refine pure_ (i := 3) (N := some 24) (v := ?_) (a' := ?_) #[true, false, true, true, false, false, false, false, false, false, false, false, false, false, false, false, false, false, false, false] rfl rfl (by kernel_rfl) (fun _ _ _ h => h) (Or.inl ⟨by rfl, ?_⟩) ?_ ?_
        rotate_left
        · intro w'
          go_simp
          with_reducible rfl
        rotate_left
        · simp only [Act.put, List.setIfInBounds_toArray, List.set_cons_zero, List.set_cons_succ, i64_w, i32_w]
          rfl
        refine pure_ (i := 4) (N := some 25) (v := ?_) (a' := ?_) #[true, false, true, true, true, false, false, false, false, false, false, false, false, false, false, false, false, false, false, false] rfl rfl (by kernel_rfl) (fun _ _ _ h => h) (Or.inl ⟨by rfl, ?_⟩) ?_ ?_
        rotate_left
        · intro w'
          go_simp
          with_reducible rfl
        rotate_left
        · simp only [Act.put, List.setIfInBounds_toArray, List.set_cons_zero, List.set_cons_succ, i64_w, i32_w]
          rfl
        refine pure_ (i := 5) (N := some 26) (v := ?_) (a' := ?_) #[true, false, true, true, true, true, false, false, false, false, false, false, false, false, false, false, false, false, false, false] rfl rfl (by kernel_rfl) (fun _ _ _ h => h) (Or.inl ⟨by rfl, ?_⟩) ?_ ?_
        rotate_left
        · intro w'
          go_simp
          with_reducible rfl
        rotate_left
        · simp only [Act.put, List.setIfInBounds_toArray, List.set_cons_zero, List.set_cons_succ, i64_w, i32_w]
          rfl
        refine pure_ (i := 9) (N := some 30) (v := ?_) (a' := ?_) #[true, false, true, true, true, true, false, false, false, true, false, false, false, false, false, false, false, false, false, false] rfl rfl (by kernel_rfl) (fun _ _ _ h => h) (Or.inl ⟨by rfl, ?_⟩) ?_ ?_
        rotate_left
        · intro w'
          go_simp
          with_reducible rfl
        rotate_left
        · simp only [Act.put, List.setIfInBounds_toArray, List.set_cons_zero, List.set_cons_succ, i64_w, i32_w]
          rfl
        refine pure_ (i := 10) (N := some 31) (v := ?_) (a' := ?_) #[true, false, true, true, true, true, false, false, false, true, true, false, false, false, false, false, false, false, false, false] rfl rfl (by kernel_rfl) (fun _ _ _ h => h) (Or.inl ⟨by rfl, ?_⟩) ?_ ?_
        rotate_left
        · intro w'
          go_simp
          with_reducible rfl
        rotate_left
        · simp only [Act.put, List.setIfInBounds_toArray, List.set_cons_zero, List.set_cons_succ, i64_w, i32_w]
          rfl
        refine pure_ (i := 11) (N := some 32) (v := ?_) (a' := ?_) #[true, false, true, true, true, true, false, false, false, true, true, true, false, false, false, false, false, false, false, false] rfl rfl (by kernel_rfl) (fun _ _ _ h => h) (Or.inl ⟨by rfl, ?_⟩) ?_ ?_
        rotate_left
        · intro w'
          go_simp
          with_reducible rfl
        rotate_left
        · simp only [Act.put, List.setIfInBounds_toArray, List.set_cons_zero, List.set_cons_succ, i64_w, i32_w]
          rfl
        refine pure_ (i := 12) (N := some 33) (v := ?_) (a' := ?_) #[true, false, true, true, true, true, false, false, false, true, true, true, true, false, false, false, false, false, false, false] rfl rfl (by kernel_rfl) (fun _ _ _ h => h) (Or.inl ⟨by rfl, ?_⟩) ?_ ?_
        rotate_left
        · intro w'
          go_simp
          with_reducible rfl
        rotate_left
        · simp only [Act.put, List.setIfInBounds_toArray, List.set_cons_zero, List.set_cons_succ, i64_w, i32_w]
          rfl
        refine take_ (i := 1) (N := some 22) (v := ?_) (a' := ?_) #[true, true, true, true, true, true, false, false, false, true, true, true, true, false, false, false, false, false, false, false] rfl rfl (by kernel_rfl) (fun _ _ _ h => h) (Or.inl ⟨by rfl, ?_⟩) hHeld ?_ ?_
        rotate_left
        · rintro w' ⟨s0, s1, s2⟩
          go_simp
          with_reducible rfl
        rotate_left
        · simp only [Act.put, List.setIfInBounds_toArray, List.set_cons_zero, List.set_cons_succ, i64_w, i32_w]
          rfl
        refine take_ (i := 6) (N := some 27) (v := ?_) (a' := ?_) #[true, true, true, true, true, true, true, false, false, true, true, true, true, false, false, false, false, false, false, false] rfl rfl (by kernel_rfl) (fun _ _ _ h => h) (Or.inl ⟨by rfl, ?_⟩) hHeld ?_ ?_
        rotate_left
        · rintro w' ⟨s0, s1, s2⟩
          go_simp
          with_reducible rfl
        rotate_left
        · simp only [Act.put, List.setIfInBounds_toArray, List.set_cons_zero, List.set_cons_succ, i64_w, i32_w]
          rfl
        refine pure_ (i := 7) (N := some 28) (v := ?_) (a' := ?_) #[true, true, true, true, true, true, true, true, false, true, true, true, true, false, false, false, false, false, false, false] rfl rfl (by kernel_rfl) (fun _ _ _ h => h) (Or.inl ⟨by rfl, ?_⟩) ?_ ?_
        rotate_left
        · intro w'
          go_simp
          with_reducible rfl
        rotate_left
        · simp only [Act.put, List.setIfInBounds_toArray, List.set_cons_zero, List.set_cons_succ, i64_w, i32_w]
          rfl
        refine pure_ (i := 8) (N := some 29) (v := ?_) (a' := ?_) #[true, true, true, true, true, true, true, true, true, true, true, true, true, false, false, false, false, false, false, false] rfl rfl (by kernel_rfl) (fun _ _ _ h => h) (Or.inl ⟨by rfl, ?_⟩) ?_ ?_
        rotate_left
        · intro w'
          go_simp
          with_reducible rfl
        rotate_left
        · simp only [Act.put, List.setIfInBounds_toArray, List.set_cons_zero, List.set_cons_succ, i64_w, i32_w]
          rfl
        refine take_ (i := 13) (N := some 34) (v := ?_) (a' := ?_) #[true, true, true, true, true, true, true, true, true, true, true, true, true, true, false, false, false, false, false, false] rfl rfl (by kernel_rfl) (fun _ _ _ h => h) (Or.inl ⟨by rfl, ?_⟩) hHeld ?_ ?_
        rotate_left
        · rintro w' ⟨s0, s1, s2⟩
          go_simp
          with_reducible rfl
        rotate_left
        · simp only [Act.put, List.setIfInBounds_toArray, List.set_cons_zero, List.set_cons_succ, i64_w, i32_w]
          rfl
        refine pure_ (i := 14) (N := some 35) (v := ?_) (a' := ?_) #[true, true, true, true, true, true, true, true, true, true, true, true, true, true, true, false, false, false, false, false] rfl rfl (by kernel_rfl) (fun _ _ _ h => h) (Or.inl ⟨by rfl, ?_⟩) ?_ ?_
        rotate_left
        · intro w'
          go_simp
          with_reducible rfl
        rotate_left
        · simp only [Act.put, List.setIfInBounds_toArray, List.set_cons_zero, List.set_cons_succ, i64_w, i32_w]
          rfl
        refine pure_ (i := 15) (N := some 36) (v := ?_) (a' := ?_) #[true, true, true, true, true, true, true, true, true, true, true, true, true, true, true, true, false, false, false, false] rfl rfl (by kernel_rfl) (fun _ _ _ h => h) (Or.inl ⟨by rfl, ?_⟩) ?_ ?_
        rotate_left
        · intro w'
          go_simp
          with_reducible rfl
        rotate_left
        · simp only [Act.put, List.setIfInBounds_toArray, List.set_cons_zero, List.set_cons_succ, i64_w, i32_w]
          rfl
        refine one_ (i := 16) (N := some 37) #[true, true, true, true, true, true, true, true, true, true, true, true, true, true, true, true, true, false, false, false] rfl rfl (by kernel_rfl) (by decide) (fun K hK => ?_)
        refine value_ (w1 := ?_) (v := ?_) (by rfl) rfl ?_ ?_
        rotate_left 2
        · go_simp
          constructor
          · rfl
          · rfl
        refine hK.out _ _ ⟨pw_cell_below (below_alloc (Below.refl _ _) _) hHeld.1, pw_cell_below (below_alloc (Below.refl _ _) _) hHeld.2.1, pw_cell_below (below_alloc (Below.refl _ _) _) hHeld.2.2⟩ (fun hHeld => ?_)
        clear hK K
        refine norm_ (a' := ?_) ?_ ?_
        rotate_left
        · show Act.put _ (some 37) _ = _
          simp only [Act.put, List.setIfInBounds_toArray, List.set_cons_zero, List.set_cons_succ, i64_w, i32_w]
          rfl
        refine last_ (i := 17) (N := some 38) #[true, true, true, true, true, true, true, true, true, true, true, true, true, true, true, true, true, true, false, false] rfl rfl (by kernel_rfl) (by decide) (fun K hK => ?_)
        refine Kd.R_append_step k61 (w0 := w) w.heap.size (by rfl) (.tmp 22) (.tmp 37) 27 61 (.agg #[.int .i64 0, .int .u8 0]) 16 rfl Try.underlying27 info61 rfl (by decide) (by decide) (.slice none 0 0) ([] : List S61) (rowOf x) [.int .i64 (rowOf x).f0, .int .u8 (rowOf x).f1] (fun _ => True) (fun _ => False) rfl rfl (k61_mkM _ _ _ _) (fun _ h => h.elim) (fun _ _ => trivial) HOD.out HBD.out HBD.out.size (by have := HRL.out; omega) ?_
        intro v1 w5 ho5 hb5 hg5 hat5
        obtain ⟨A1, c1, e1, _, _⟩ := Kd.R_reads ho5
        subst e1
        have hP5 := (hg5.block P (by have := blk_lt HPD.out; simpa using this) (by obtain ⟨_, inner, hown, _⟩ := HOD.out; exact own_ne hown HPD.out (by decide))).trans HPD.out
        have hp5 : w5.cell? ⟨P, 0, none⟩ = some (.slice none 0 0) := cell_of_row _ _ 0 _ _ _ hP5
        have hf5 : w5.frozen? ⟨P, 0, none⟩ = false := by simp [World.frozen?, hP5]
        have HP5 := Lib.hid hP5
        have HO5 := Lib.hid ho5
        have HB5 := Lib.hid hb5
        have HG5 := Lib.hid hg5
        clear hP5 ho5 hb5 hg5 hat5
        refine hK.out _ _ ?_
        clear hK K
        refine norm_ (a' := ?_) ?_ ?_
        rotate_left
        · show Act.put _ (some 38) _ = _
          simp only [Act.put, List.setIfInBounds_toArray, List.set_cons_zero, List.set_cons_succ, i64_w, i32_w]
          rfl
        refine pure_ (i := 18) (N := some 39) (v := ?_) (a' := ?_) #[true, true, true, true, true, true, true, true, true, true, true, true, true, true, true, true, true, true, true, false] rfl rfl (by kernel_rfl) (fun _ _ _ h => h) (Or.inl ⟨by rfl, ?_⟩) ?_ ?_
        rotate_left
        · intro w'
          go_simp
          with_reducible rfl
        rotate_left
        · simp only [Act.put, List.setIfInBounds_toArray, List.set_cons_zero, List.set_cons_succ, i64_w, i32_w]
          rfl
        refine last_ (i := 19) (N := none) #[true, true, true, true, true, true, true, true, true, true, true, true, true, true, true, true, true, true, true, true] rfl rfl (by kernel_rfl) (by decide) (fun K hK => ?_)
        refine skip_ (w1 := ?_) (by rfl) rfl ?_ ?_
        rotate_left
        · go_simp
          rfl
        refine hK.out _ _ ?_
        clear hK K
        refine done_ (by kernel_rfl) ?_
        go_wp2_with fail
        all_goals
          go_roundg (min n 8 - (i + 1))
          case measure => omega
          case rel =>
            refine ⟨i + 1, _, rfl, by go_num, by omega, Lib.hid ⟨blk_set HP5.out 0 _, ?_, ?_, HB5.out.setCell (Nat.le_of_lt HP.out) _⟩⟩
            · refine (Below.heap_setCell _ _ _ _ (by have := HP.out; simp; omega)).trans ?_
              exact (HG5.out.block w.heap.size (by have := blk_lt HH.out; simpa using this) (by obtain ⟨_, inner, hown, _⟩ := HOD.out; exact own_ne hown (show W.drew.heap[w.heap.size]? = some _ from HH.out) (by decide))).trans HH.out
            · have h9 := R61_set HO5.out HP5.out (by decide) 0 (.slice A1 1 c1)
              have e9 : rowsAt l (i + 1) = [rowOf x] := by
                have h0 := H0.out
                subst h0
                have hx := HX.out
                unfold rowsAt
                rw [if_neg (by omega)]
                cases l with
                | nil => simp at hx
                | cons a t => simp at hx; simp [hx]
              rw [e9]
              exact h9
      · have hz1 : decide ((i : Int) = 0) = false := by simp; omega
        have hz2 : ((i : Int) == 0) = false := by simp; omega
        have H0 := Lib.hid h0
        clear h0
        go_wp2_with fail
        have HPB := Lib.hid HA.out.hp
        have HB := Lib.hid HA.out.b
        have HO := Lib.hid HA.out.own
        have HH := Lib.hid HA.out.hh
        obtain ⟨r, hr⟩ : ∃ r, rowsAt l i = r := ⟨_, rfl⟩
        have HRL := Lib.hid (show r.length ≤ 8 by rw [← hr]; unfold rowsAt; rw [if_neg H0.out]; simp; omega)
        rw [hr] at HO
        have HRE := Lib.hid hr
        clear hr hp0 hpf HA
        have HOD := Lib.hid (Kd.R_drew HO.out)
        have HBD := Lib.hid HB.out.drew
        have HPD := Lib.hid (show wr.drew.heap[P]? = some _ from HPB.out)
        have hx0 := pw_cell_below HB.out HX0.out
        have hx1 := pw_cell_below HB.out HX1.out
        have hp0 : wr.cell? ⟨P, 0, none⟩ = some v := cell_of_row _ _ 0 _ _ _ HPB.out
        refine start_ (n := 20) (S := fun w' => w'.cell? ⟨P, 0, none⟩ = some v ∧ w'.cell? (ad.add (i * 2)) = some (.int .u8 x.1) ∧ w'.cell? ⟨(ad.add (i * 2)).block, (ad.add (i * 2)).off + 1, none⟩ = some (.int .u8 x.2)) (ds := [17, 19]) #[false, false, false, false, false, false, false, false, false, false, false, false, false, false, false, false, false, false, false, false] (by kernel_rfl) rfl rfl ⟨pw_cell_below (Below.drew (Below.refl _ _)) hp0, pw_cell_below (Below.drew (Below.refl _ _)) hx0, pw_cell_below (Below.drew (Below.refl _ _)) hx1⟩ (fun hHeld => ?_)
        refine pure_ (i := 0) (N := some 21) (v := ?_) (a' := ?_) #[true, false, false, false, false, false, false, false, false, false, false, false, false, false, false, false, false, false, false, false] rfl rfl (by kernel_rfl) (fun _ _ _ h => h) (Or.inl ⟨by rfl, ?_⟩) ?_ ?_
        rotate_left
        · intro w'
          go_simp
          with_reducible rfl
        rotate_left
        · simp only [Act.put, List.setIfInBounds_toArray, List.set_cons_zero, List.set_cons_succ, i64_w, i32_w]
          rfl
        refine pure_ (i := 2) (N := some 23) (v := ?_) (a' := ?_) #[true, false, true, false, false, false, false, false, false, false, false, false, false, false, false, false, false, false, false, false] rfl rfl (by kernel_rfl) (fun _ _ _ h => h) (Or.inl ⟨by rfl, ?_⟩) ?_ ?_
        rotate_left
        · intro w'
          go_simp
          with_reducible rfl
        rotate_left
        · simp only [Act.put, List.setIfInBounds_toArray, List.set_cons_zero, List.set_cons_succ, i64_w, i32_w]
          rfl
        refine pure_ (i := 3) (N := some 24) (v := ?_) (a' := ?_) #[true, false, true, true, false, false, false, false, false, false, false, false, false, false, false, false, false, false, false, false] rfl rfl (by kernel_rfl) (fun _ _ _ h => h) (Or.inl ⟨by rfl, ?_⟩) ?_ ?_
        rotate_left
        · intro w'
          go_simp
          with_reducible rfl
        rotate_left
        · simp only [Act.put, List.setIfInBounds_toArray, List.set_cons_zero, List.set_cons_succ, i64_w, i32_w]
          rfl
        refine pure_ (i := 4) (N := some 25) (v := ?_) (a' := ?_) #[true, false, true, true, true, false, false, false, false, false, false, false, false, false, false, false, false, false, false, false] rfl rfl (by kernel_rfl) (fun _ _ _ h => h) (Or.inl ⟨by rfl, ?_⟩) ?_ ?_
        rotate_left
        · intro w'
          go_simp
          with_reducible rfl
        rotate_left
        · simp only [Act.put, List.setIfInBounds_toArray, List.set_cons_zero, List.set_cons_succ, i64_w, i32_w]
          rfl
        refine pure_ (i := 5) (N := some 26) (v := ?_) (a' := ?_) #[true, false, true, true, true, true, false, false, false, false, false, false, false, false, false, false, false, false, false, false] rfl rfl (by kernel_rfl) (fun _ _ _ h => h) (Or.inl ⟨by rfl, ?_⟩) ?_ ?_
        rotate_left
        · intro w'
          go_simp
          with_reducible rfl
        rotate_left
        · simp only [Act.put, List.setIfInBounds_toArray, List.set_cons_zero, List.set_cons_succ, i64_w, i32_w]
          rfl
        refine pure_ (i := 9) (N := some 30) (v := ?_) (a' := ?_) #[true, false, true, true, true, true, false, false, false, true, false, false, false, false, false, false, false, false, false, false] rfl rfl (by kernel_rfl) (fun _ _ _ h => h) (Or.inl ⟨by rfl, ?_⟩) ?_ ?_
        rotate_left
        · intro w'
          go_simp
          with_reducible rfl
        rotate_left
        · simp only [Act.put, List.setIfInBounds_toArray, List.set_cons_zero, List.set_cons_succ, i64_w, i32_w]
          rfl
        refine pure_ (i := 10) (N := some 31) (v := ?_) (a' := ?_) #[true, false, true, true, true, true, false, false, false, true, true, false, false, false, false, false, false, false, false, false] rfl rfl (by kernel_rfl) (fun _ _ _ h => h) (Or.inl ⟨by rfl, ?_⟩) ?_ ?_
        rotate_left
        · intro w'
          go_simp
          with_reducible rfl
        rotate_left
        · simp only [Act.put, List.setIfInBounds_toArray, List.set_cons_zero, List.set_cons_succ, i64_w, i32_w]
          rfl
        refine pure_ (i := 11) (N := some 32) (v := ?_) (a' := ?_) #[true, false, true, true, true, true, false, false, false, true, true, true, false, false, false, false, false, false, false, false] rfl rfl (by kernel_rfl) (fun _ _ _ h => h) (Or.inl ⟨by rfl, ?_⟩) ?_ ?_
        rotate_left
        · intro w'
          go_simp
          with_reducible rfl
        rotate_left
        · simp only [Act.put, List.setIfInBounds_toArray, List.set_cons_zero, List.set_cons_succ, i64_w, i32_w]
          rfl
        refine pure_ (i := 12) (N := some 33) (v := ?_) (a' := ?_) #[true, false, true, true, true, true, false, false, false, true, true, true, true, false, false, false, false, false, false, false] rfl rfl (by kernel_rfl) (fun _ _ _ h => h) (Or.inl ⟨by rfl, ?_⟩) ?_ ?_
        rotate_left
        · intro w'
          go_simp
          with_reducible rfl
        rotate_left
        · simp only [Act.put, List.setIfInBounds_toArray, List.set_cons_zero, List.set_cons_succ, i64_w, i32_w]
          rfl
        refine take_ (i := 1) (N := some 22) (v := ?_) (a' := ?_) #[true, true, true, true, true, true, false, false, false, true, true, true, true, false, false, false, false, false, false, false] rfl rfl (by kernel_rfl) (fun _ _ _ h => h) (Or.inl ⟨by rfl, ?_⟩) hHeld ?_ ?_
        rotate_left
        · rintro w' ⟨s0, s1, s2⟩
          go_simp
          with_reducible rfl
        rotate_left
        · simp only [Act.put, List.setIfInBounds_toArray, List.set_cons_zero, List.set_cons_succ, i64_w, i32_w]
          rfl
        refine take_ (i := 6) (N := some 27) (v := ?_) (a' := ?_) #[true, true, true, true, true, true, true, false, false, true, true, true, true, false, false, false, false, false, false, false] rfl rfl (by kernel_rfl) (fun _ _ _ h => h) (Or.inl ⟨by rfl, ?_⟩) hHeld ?_ ?_
        rotate_left
        · rintro w' ⟨s0, s1, s2⟩
          go_simp
          with_reducible rfl
        rotate_left
        · simp only [Act.put, List.setIfInBounds_toArray, List.set_cons_zero, List.set_cons_succ, i64_w, i32_w]
          rfl
        refine pure_ (i := 7) (N := some 28) (v := ?_) (a' := ?_) #[true, true, true, true, true, true, true, true, false, true, true, true, true, false, false, false, false, false, false, false] rfl rfl (by kernel_rfl) (fun _ _ _ h => h) (Or.inl ⟨by rfl, ?_⟩) ?_ ?_
        rotate_left
        · intro w'
          go_simp
          with_reducible rfl
        rotate_left
        · simp only [Act.put, List.setIfInBounds_toArray, List.set_cons_zero, List.set_cons_succ, i64_w, i32_w]
          rfl
        refine pure_ (i := 8) (N := some 29) (v := ?_) (a' := ?_) #[true, true, true, true, true, true, true, true, true, true, true, true, true, false, false, false, false, false, false, false] rfl rfl (by kernel_rfl) (fun _ _ _ h => h) (Or.inl ⟨by rfl, ?_⟩) ?_ ?_
        rotate_left
        · intro w'
          go_simp
          with_reducible rfl
        rotate_left
        · simp only [Act.put, List.setIfInBounds_toArray, List.set_cons_zero, List.set_cons_succ, i64_w, i32_w]
          rfl
        refine take_ (i := 13) (N := some 34) (v := ?_) (a' := ?_) #[true, true, true, true, true, true, true, true, true, true, true, true, true, true, false, false, false, false, false, false] rfl rfl (by kernel_rfl) (fun _ _ _ h => h) (Or.inl ⟨by rfl, ?_⟩) hHeld ?_ ?_
        rotate_left
        · rintro w' ⟨s0, s1, s2⟩
          go_simp
          with_reducible rfl
        rotate_left
        · simp only [Act.put, List.setIfInBounds_toArray, List.set_cons_zero, List.set_cons_succ, i64_w, i32_w]
          rfl
        refine pure_ (i := 14) (N := some 35) (v := ?_) (a' := ?_) #[true, true, true, true, true, true, true, true, true, true, true, true, true, true, true, false, false, false, false, false] rfl rfl (by kernel_rfl) (fun _ _ _ h => h) (Or.inl ⟨by rfl, ?_⟩) ?_ ?_
        rotate_left
        · intro w'
          go_simp
          with_reducible rfl
        rotate_left
        · simp only [Act.put, List.setIfInBounds_toArray, List.set_cons_zero, List.set_cons_succ, i64_w, i32_w]
          rfl
        refine pure_ (i := 15) (N := some 36) (v := ?_) (a' := ?_) #[true, true, true, true, true, true, true, true, true, true, true, true, true, true, true, true, false, false, false, false] rfl rfl (by kernel_rfl) (fun _ _ _ h => h) (Or.inl ⟨by rfl, ?_⟩) ?_ ?_
        rotate_left
        · intro w'
          go_simp
          with_reducible rfl
        rotate_left
        · simp only [Act.put, List.setIfInBounds_toArray, List.set_cons_zero, List.set_cons_succ, i64_w, i32_w]
          rfl
        refine one_ (i := 16) (N := some 37) #[true, true, true, true, true, true, true, true, true, true, true, true, true, true, true, true, true, false, false, false] rfl rfl (by kernel_rfl) (by decide) (fun K hK => ?_)
        refine value_ (w1 := ?_) (v := ?_) (by rfl) rfl ?_ ?_
        rotate_left 2
        · go_simp
          constructor
          · rfl
          · rfl
        refine hK.out _ _ ⟨pw_cell_below (below_alloc (Below.refl _ _) _) hHeld.1, pw_cell_below (below_alloc (Below.refl _ _) _) hHeld.2.1, pw_cell_below (below_alloc (Below.refl _ _) _) hHeld.2.2⟩ (fun hHeld => ?_)
        clear hK K
        refine norm_ (a' := ?_) ?_ ?_
        rotate_left
        · show Act.put _ (some 37) _ = _
          simp only [Act.put, List.setIfInBounds_toArray, List.set_cons_zero, List.set_cons_succ, i64_w, i32_w]
          rfl
        refine last_ (i := 17) (N := some 38) #[true, true, true, true, true, true, true, true, true, true, true, true, true, true, true, true, true, true, false, false] rfl rfl (by kernel_rfl) (by decide) (fun K hK => ?_)
        refine Kd.R_append_step k61 (w0 := w) w.heap.size (by rfl) (.tmp 22) (.tmp 37) 27 61 (.agg #[.int .i64 0, .int .u8 0]) 16 rfl Try.underlying27 info61 rfl (by decide) (by decide) v r (rowOf x) [.int .i64 (rowOf x).f0, .int .u8 (rowOf x).f1] (fun _ => True) (fun _ => False) rfl rfl (k61_mkM _ _ _ _) (fun _ h => h.elim) (fun _ _ => trivial) HOD.out HBD.out HBD.out.size (by have := HRL.out; omega) ?_
        intro v1 w5 ho5 hb5 hg5 hat5
        obtain ⟨A1, c1, e1, _, _⟩ := Kd.R_reads ho5
        subst e1
        have hP5 := (hg5.block P (by have := blk_lt HPD.out; simpa using this) (by obtain ⟨_, inner, hown, _⟩ := HOD.out; exact own_ne hown HPD.out (by decide))).trans HPD.out
        have hp5 : w5.cell? ⟨P, 0, none⟩ = some v := cell_of_row _ _ 0 _ _ _ hP5
        have hf5 : w5.frozen? ⟨P, 0, none⟩ = false := by simp [World.frozen?, hP5]
        have HP5 := Lib.hid hP5
        have HO5 := Lib.hid ho5
        have HB5 := Lib.hid hb5
        have HG5 := Lib.hid hg5
        clear hP5 ho5 hb5 hg5 hat5
        refine hK.out _ _ ?_
        clear hK K
        refine norm_ (a' := ?_) ?_ ?_
        rotate_left
        · show Act.put _ (some 38) _ = _
          simp only [Act.put, List.setIfInBounds_toArray, List.set_cons_zero, List.set_cons_succ, i64_w, i32_w]
          rfl
        refine pure_ (i := 18) (N := some 39) (v := ?_) (a' := ?_) #[true, true, true, true, true, true, true, true, true, true, true, true, true, true, true, true, true, true, true, false] rfl rfl (by kernel_rfl) (fun _ _ _ h => h) (Or.inl ⟨by rfl, ?_⟩) ?_ ?_
        rotate_left
        · intro w'
          go_simp
          with_reducible rfl
        rotate_left
        · simp only [Act.put, List.setIfInBounds_toArray, List.set_cons_zero, List.set_cons_succ, i64_w, i32_w]
          rfl
        refine last_ (i := 19) (N := none) #[true, true, true, true, true, true, true, true, true, true, true, true, true, true, true, true, true, true, true, true] rfl rfl (by kernel_rfl) (by decide) (fun K hK => ?_)
        refine skip_ (w1 := ?_) (by rfl) rfl ?_ ?_
        rotate_left
        · go_simp
          rfl
        refine hK.out _ _ ?_
        clear hK K
        refine done_ (by kernel_rfl) ?_
        go_wp2_with fail
        all_goals
          go_roundg (min n 8 - (i + 1))
          case measure => omega
          case rel =>
            refine ⟨i + 1, _, rfl, by go_num, by omega, Lib.hid ⟨blk_set HP5.out 0 _, ?_, ?_, HB5.out.setCell (Nat.le_of_lt HP.out) _⟩⟩
            · refine (Below.heap_setCell _ _ _ _ (by have := HP.out; simp; omega)).trans ?_
              exact (HG5.out.block w.heap.size (by have := blk_lt HH.out; simpa using this) (by obtain ⟨_, inner, hown, _⟩ := HOD.out; exact own_ne hown (show wr.drew.heap[w.heap.size]? = some _ from HH.out) (by decide))).trans HH.out
            · have e9 : rowsAt l (i + 1) = r ++ [rowOf x] := by
                rw [← HRE.out]
                unfold rowsAt
                rw [if_neg (by omega), if_neg H0.out, List.take_add_one, HX.out]
                simp
              rw [e9]
              have h9 := R61_set HO5.out HP5.out (by decide) 0 (.slice A1 (r.length + 1) c1)
              rw [List.length_append, List.length_singleton] at h9
              exact h9
    · obtain rfl : i = min n 8 := by omega
      have HE := Lib.hid (show rowsAt l (min n 8) = rowsV l by unfold rowsV; rw [HN.out])
      rw [HE.out] at HA
      obtain ⟨m, hm⟩ : ∃ m, min n 8 = m := ⟨_, rfl⟩
      have hcmp : (m : Int) < (n : Int) → ¬ (m : Int) < 8 := by omega
      have hp0 : wr.cell? ⟨P, 0, none⟩ = some v := cell_of_row _ _ 0 _ _ _ HA.out.hp
      rw [hm]
      clear hp0
      obtain ⟨A1, c1, rfl⟩ := Kd.R_slice HA.out.own
      have hp0 : wr.cell? ⟨P, 0, none⟩ = some (.slice A1 (rowsV l).length c1) := cell_of_row _ _ 0 _ _ _ HA.out.hp
      have hh0 : wr.cell? ⟨w.heap.size, 0, none⟩ = some (.slice none 0 0) := cell_of_row _ _ 0 _ _ _ HA.out.hh
      have hhf : wr.frozen? ⟨w.heap.size, 0, none⟩ = false := by simp [World.frozen?, HA.out.hh]
      by_cases hmn : (m : Int) < (n : Int)
      · have hm8 := hcmp hmn
        have z1 : decide ((m : Int) < (n : Int)) = true := decide_eq_true hmn
        have z2 : decide ((m : Int) < 8) = false := decide_eq_false hm8
        clear hcmp hm hkq hi hlt
        go_wp2_with fail
        refine bodyPost_ret (results_cell_row rfl _ _ w.heap.size 29 #[.slice A1 (rowsV l).length c1] (0, 0) _ rfl (by simpa using blk_set HA.out.hh 0 _) Try.underlying29 rfl (by kernel_rfl)) rfl ?_
        exact ⟨_, rfl, R61_set HA.out.own HA.out.hh (by decide) 0 _, HA.out.b.setCell (Nat.le_refl _) _⟩
      · have z1 : decide ((m : Int) < (n : Int)) = false := decide_eq_false hmn
        clear hcmp hm hkq hi hlt
        go_wp2_with fail
        refine bodyPost_ret (results_cell_row rfl _ _ w.heap.size 29 #[.slice A1 (rowsV l).length c1] (0, 0) _ rfl (by simpa using blk_set HA.out.hh 0 _) Try.underlying29 rfl (by kernel_rfl)) rfl ?_
        exact ⟨_, rfl, R61_set HA.out.own HA.out.hh (by decide) 0 _, HA.out.b.setCell (Nat.le_refl _) _⟩
end Go.Proofs.Yteojldbfebnccaa
