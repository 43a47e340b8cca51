/- The questions that remap.Check asks of a move. -/
import Derived.Test.YteojldbfebnccaaRWo
import Derived.Deep.QuietTactic
import Derived.BigQuiet
import Derived.Deep.RegionHeld3
import Derived.IntWalk
namespace Go.Proofs.Yteojldbfebnccaa
open Go.RowKit Go.Proofs.YteojldbfebnccaaW Go.Proofs.YteojldbfebnccaaW.PrintWords
set_option linter.unusedVariables false
set_option linter.unusedSimpArgs false
set_option maxRecDepth 100000
def pcells (va vb vl : Value) (i : Nat) (f : Nat → Bool) : Array Value := #[va, vb, vl, .int .i64 (i : Int)] ++ bcells f
theorem pcells_led (va vb vl : Value) (i : Nat) (f : Nat → Bool) {j : Nat} (h : j < 64) : (pcells va vb vl i f)[4 + j]? = some (.bool (f j)) := by
  unfold pcells
  rw [Array.getElem?_append_right (by simp)]
  simpa using bcells_get f h
theorem pcells_0 (va vb vl : Value) (i : Nat) (f : Nat → Bool) : (pcells va vb vl i f)[0]? = some va := by unfold pcells; rw [Array.getElem?_append_left (by simp)]; rfl
theorem pcells_1 (va vb vl : Value) (i : Nat) (f : Nat → Bool) : (pcells va vb vl i f)[1]? = some vb := by unfold pcells; rw [Array.getElem?_append_left (by simp)]; rfl
theorem pcells_2 (va vb vl : Value) (i : Nat) (f : Nat → Bool) : (pcells va vb vl i f)[2]? = some vl := by unfold pcells; rw [Array.getElem?_append_left (by simp)]; rfl
theorem pcells_3 (va vb vl : Value) (i : Nat) (f : Nat → Bool) : (pcells va vb vl i f)[3]? = some (.int .i64 (i : Int)) := by unfold pcells; rw [Array.getElem?_append_left (by simp)]; rfl
structure PlanAt (W : World) (p : Nat) (A : Option Addr) (ca : Nat) (ra : List S61) (B : Option Addr) (cb : Nat) (rb : List S61) (L : Option Addr) (cl : Nat) (l : List S49) (i : Nat) (f : Nat → Bool) : Prop where
  blk : W.heap[p]? = some (.cells (pcells (.slice A ra.length ca) (.slice B rb.length cb) (.slice L l.length cl) i f) 65 (0, 0))
  ha : Kd.C k61 W A ra.length ra
  hca : ra.length ≤ ca
  hb : Kd.C k61 W B rb.length rb
  hcb : rb.length ≤ cb
  hl : Kd.C k49 W L l.length l
  lt : i < l.length
section
variable {W : World} {p : Nat} {A : Option Addr} {ca : Nat} {ra : List S61} {B : Option Addr} {cb : Nat} {rb : List S61} {L : Option Addr} {cl : Nat} {l : List S49} {i : Nat} {f : Nat → Bool}
theorem PlanAt.below {W' : World} (h : PlanAt W p A ca ra B cb rb L cl l i f) (hb : Below W.heap.size W W') : PlanAt W' p A ca ra B cb rb L cl l i f :=
  ⟨blk_below h.blk hb, Kd.C_below h.ha hb, h.hca, Kd.C_below h.hb hb, h.hcb, Kd.C_below h.hl hb, h.lt⟩
theorem PlanAt.c0 (h : PlanAt W p A ca ra B cb rb L cl l i f) : W.cell? ⟨p, 0, none⟩ = some (.slice A ra.length ca) := (cell_of_row _ _ 0 _ _ _ h.blk).trans (pcells_0 _ _ _ _ _)
theorem PlanAt.c1 (h : PlanAt W p A ca ra B cb rb L cl l i f) : W.cell? ⟨p, 1, none⟩ = some (.slice B rb.length cb) := (cell_of_row _ _ 1 _ _ _ h.blk).trans (pcells_1 _ _ _ _ _)
theorem PlanAt.c2 (h : PlanAt W p A ca ra B cb rb L cl l i f) : W.cell? ⟨p, 2, none⟩ = some (.slice L l.length cl) := (cell_of_row _ _ 2 _ _ _ h.blk).trans (pcells_2 _ _ _ _ _)
theorem PlanAt.c3 (h : PlanAt W p A ca ra B cb rb L cl l i f) : W.cell? ⟨p, 3, none⟩ = some (.int .i64 (i : Int)) := (cell_of_row _ _ 3 _ _ _ h.blk).trans (pcells_3 _ _ _ _ _)
theorem PlanAt.c4 (h : PlanAt W p A ca ra B cb rb L cl l i f) {j : Nat} (hj : j < 64) : W.cell? ⟨p, 4 + j, none⟩ = some (.bool (f j)) := (cell_of_row _ _ _ _ _ _ h.blk).trans (pcells_led _ _ _ _ _ hj)
/-- the move at j -/
theorem PlanAt.move (h : PlanAt W p A ca ra B cb rb L cl l i f) {j : Nat} {x : S49} (hx : l[j]? = some x) : ∃ ad, L = some ad ∧ W.cell? (ad.add (j * 2)) = some (.int .i64 x.f0) ∧ W.cell? ⟨(ad.add (j * 2)).block, (ad.add (j * 2)).off + 1, none⟩ = some (.int .i64 x.f1) := by
  have hj := (List.getElem?_eq_some_iff.1 hx).1
  obtain ⟨ad, e, h0, h1⟩ := at_T49 h.hl (j : Int) (by omega) (by omega)
  have e2 := (rd49 hj).symm.trans hx
  simp only [Option.some.injEq] at e2
  rw [e2] at h0 h1
  simp only [Int.toNat_natCast] at h0 h1
  exact ⟨ad, e, h0, h1⟩
/-- does From rise at i? -/
def risesAt (l : List S49) (i : Nat) : Bool := if i = 0 then true else decide ((rd_T49 l ((i - 1 : Nat) : Int)).f0 < (rd_T49 l (i : Int)).f0)
set_option maxHeartbeats 2000000 in
theorem rises_calls (h : PlanAt W p A ca ra B cb rb L cl l i f) : Calls Try.prog 30 #[.pointer (some ⟨p, 0, none⟩)] W fun e w' => e = .returned (.bool (risesAt l i)) ∧ Below W.heap.size W w' := by
  have c2 := h.c2
  have c3 := h.c3
  obtain ⟨x, hx⟩ : ∃ x, l[i]? = some x := ⟨_, List.getElem?_eq_getElem h.lt⟩
  obtain ⟨ad, rfl, x0, x1⟩ := h.move hx
  have hrx : rd_T49 l (i : Int) = x := by have := (rd49 h.lt).symm.trans hx; simpa using this
  have p0 : (0 : Int) ≤ (i : Int) := by omega
  have q0 : (i : Int) < (l.length : Int) := by have := h.lt; omega
  have hmx := Kd.C_max h.hl
  by_cases h0 : i = 0
  · have hv : risesAt l i = true := by unfold risesAt; rw [if_pos h0]
    have b0 : ((i : Int) == 0) = true := beq_iff_eq.2 (by omega)
    have b1 : (i == 0) = true := beq_iff_eq.2 h0
    rw [hv]
    clear hv h0 hrx hx h
    go_enter Try.func30, Try.ntmps30
    go_wp2_with fail
    go_quiet (fail)
    go_wp2_with fail
    go_ret
    exact ⟨rfl, pw_below_drewN (Below.refl _ _) _⟩
  · obtain ⟨j, rfl⟩ : ∃ j, i = j + 1 := ⟨i - 1, by omega⟩
    obtain ⟨y, hy⟩ : ∃ y, l[j]? = some y := ⟨_, List.getElem?_eq_getElem (by have := h.lt; omega)⟩
    obtain ⟨ad', ea, y0, y1⟩ := h.move hy
    obtain rfl : ad = ad' := by simpa using ea
    have hry : rd_T49 l (j : Int) = y := by have := (rd49 (by have := h.lt; omega)).symm.trans hy; simpa using this
    have hv : risesAt l (j + 1) = decide (y.f0 < x.f0) := by unfold risesAt; rw [if_neg h0, hrx, Nat.add_sub_cancel, hry]
    rw [hv]
    obtain ⟨i, hi⟩ : ∃ i, j + 1 = i := ⟨_, rfl⟩
    rw [hi] at c3 x0 x1 p0 q0
    have b0 : ((i : Int) == 0) = false := beq_eq_false_iff_ne.2 (by omega)
    have b1 : (i == 0) = false := beq_eq_false_iff_ne.2 (by omega)
    have s0 : IntKind.i64.wrap ((i : Int) - 1) = (j : Int) := by rw [IntWalk.i64_in _ (by omega)]; omega
    have s1 : (0 : Int) ≤ (j : Int) := by omega
    have s2 : (j : Int) < (l.length : Int) := by omega
    clear hv h0 hrx hry hx hy h ea hi
    go_enter Try.func30, Try.ntmps30
    go_wp2_with fail
    go_quiet (fail)
    go_wp2_with fail
    go_ret
    exact ⟨rfl, pw_below_drewN (Below.refl _ _) _⟩
/-- are both seats there? -/
def thereAt (ra rb : List S61) (x : S49) : Bool := hall_Has.v ra x.f0 && hall_Has.v rb x.f1
set_option maxHeartbeats 4000000 in
theorem there_calls (h : PlanAt W p A ca ra B cb rb L cl l i f) {x : S49} (hx : l[i]? = some x) : Calls Try.prog 31 #[.pointer (some ⟨p, 0, none⟩)] W fun e w' => e = .returned (.bool (thereAt ra rb x)) ∧ Below W.heap.size W w' := by
  obtain ⟨ad, rfl, x0, x1⟩ := h.move hx
  have p0 : (0 : Int) ≤ (i : Int) := by omega
  have q0 : (i : Int) < (l.length : Int) := by have := h.lt; omega
  have hmx := Kd.C_max h.hl
  have HA := Lib.hid (show ∀ w, (fun W' => W'.cell? ⟨p, 0, none⟩ = some (.slice A ra.length ca) ∧ W'.cell? ⟨p, 1, none⟩ = some (.slice B rb.length cb) ∧ W'.cell? ⟨p, 2, none⟩ = some (.slice (some ad) l.length cl) ∧ W'.cell? ⟨p, 3, none⟩ = some (.int .i64 (i : Int)) ∧ W'.cell? (ad.add (i * 2)) = some (.int .i64 x.f0) ∧ W'.cell? ⟨(ad.add (i * 2)).block, (ad.add (i * 2)).off + 1, none⟩ = some (.int .i64 x.f1) ∧ Hid (PlanAt W' p A ca ra B cb rb (some ad) cl l i f ∧ Below W.heap.size W W')) w → Calls Try.prog 19 #[.agg #[.slice A ra.length ca], .int .i64 x.f0] w fun e w' => e = .returned (.bool (hall_Has.v ra x.f0)) ∧ Below w.heap.size w w' from
    fun w hw => hall_Has.calls A ca ra x.f0 (hall_Has.v ra x.f0) w hw.2.2.2.2.2.2.out.1.ha hw.2.2.2.2.2.2.out.1.hca rfl)
  have HB := Lib.hid (show ∀ w, (fun W' => W'.cell? ⟨p, 0, none⟩ = some (.slice A ra.length ca) ∧ W'.cell? ⟨p, 1, none⟩ = some (.slice B rb.length cb) ∧ W'.cell? ⟨p, 2, none⟩ = some (.slice (some ad) l.length cl) ∧ W'.cell? ⟨p, 3, none⟩ = some (.int .i64 (i : Int)) ∧ W'.cell? (ad.add (i * 2)) = some (.int .i64 x.f0) ∧ W'.cell? ⟨(ad.add (i * 2)).block, (ad.add (i * 2)).off + 1, none⟩ = some (.int .i64 x.f1) ∧ Hid (PlanAt W' p A ca ra B cb rb (some ad) cl l i f ∧ Below W.heap.size W W')) w → Calls Try.prog 19 #[.agg #[.slice B rb.length cb], .int .i64 x.f1] w fun e w' => e = .returned (.bool (hall_Has.v rb x.f1)) ∧ Below w.heap.size w w' from
    fun w hw => hall_Has.calls B cb rb x.f1 (hall_Has.v rb x.f1) w hw.2.2.2.2.2.2.out.1.hb hw.2.2.2.2.2.2.out.1.hcb rfl)
  have KB := Lib.hid (show ∀ w w', Below w.heap.size w w' → (fun W' => W'.cell? ⟨p, 0, none⟩ = some (.slice A ra.length ca) ∧ W'.cell? ⟨p, 1, none⟩ = some (.slice B rb.length cb) ∧ W'.cell? ⟨p, 2, none⟩ = some (.slice (some ad) l.length cl) ∧ W'.cell? ⟨p, 3, none⟩ = some (.int .i64 (i : Int)) ∧ W'.cell? (ad.add (i * 2)) = some (.int .i64 x.f0) ∧ W'.cell? ⟨(ad.add (i * 2)).block, (ad.add (i * 2)).off + 1, none⟩ = some (.int .i64 x.f1) ∧ Hid (PlanAt W' p A ca ra B cb rb (some ad) cl l i f ∧ Below W.heap.size W W')) w → (fun W' => W'.cell? ⟨p, 0, none⟩ = some (.slice A ra.length ca) ∧ W'.cell? ⟨p, 1, none⟩ = some (.slice B rb.length cb) ∧ W'.cell? ⟨p, 2, none⟩ = some (.slice (some ad) l.length cl) ∧ W'.cell? ⟨p, 3, none⟩ = some (.int .i64 (i : Int)) ∧ W'.cell? (ad.add (i * 2)) = some (.int .i64 x.f0) ∧ W'.cell? ⟨(ad.add (i * 2)).block, (ad.add (i * 2)).off + 1, none⟩ = some (.int .i64 x.f1) ∧ Hid (PlanAt W' p A ca ra B cb rb (some ad) cl l i f ∧ Below W.heap.size W W')) w' from by
    rintro w w' hb ⟨a1, a2, a3, a4, a5, a6, a7⟩
    exact ⟨pw_cell_below hb a1, pw_cell_below hb a2, pw_cell_below hb a3, pw_cell_below hb a4, pw_cell_below hb a5, pw_cell_below hb a6, Lib.hid ⟨a7.out.1.below hb, below_then a7.out.2 a7.out.2.size hb⟩⟩)
  have SH := KB.out W W.drew (Below.drew (Below.refl _ _)) ⟨h.c0, h.c1, h.c2, h.c3, x0, x1, Lib.hid ⟨h, Below.refl _ _⟩⟩
  clear x0 x1 h hx
  obtain ⟨b1, hb1⟩ : ∃ b1, hall_Has.v ra x.f0 = b1 := ⟨_, rfl⟩
  have HT := Lib.hid (show thereAt ra rb x = (b1 && hall_Has.v rb x.f1) by unfold thereAt; rw [hb1])
  rw [HT.out]
  rw [hb1] at HA
  clear hb1
  cases b1 with
  | true =>
    obtain ⟨b2, hb2⟩ : ∃ b2, hall_Has.v rb x.f1 = b2 := ⟨_, rfl⟩
    rw [hb2] at HB ⊢
    clear hb2 HT
    go_enter Try.func31, Try.ntmps31
    go_wp2_with fail
    go_region_held3 (fun W' => W'.cell? ⟨p, 0, none⟩ = some (.slice A ra.length ca) ∧ W'.cell? ⟨p, 1, none⟩ = some (.slice B rb.length cb) ∧ W'.cell? ⟨p, 2, none⟩ = some (.slice (some ad) l.length cl) ∧ W'.cell? ⟨p, 3, none⟩ = some (.int .i64 (i : Int)) ∧ W'.cell? (ad.add (i * 2)) = some (.int .i64 x.f0) ∧ W'.cell? ⟨(ad.add (i * 2)).block, (ad.add (i * 2)).off + 1, none⟩ = some (.int .i64 x.f1) ∧ Hid (PlanAt W' p A ca ra B cb rb (some ad) cl l i f ∧ Below W.heap.size W W')) (first | assumption | exact KB.out _ _ (by assumption) (by assumption))
      ((go_at_call 19; first | ((with_reducible refine (HA.out _ (by assumption)).mono ?_); rintro e w' ⟨rfl, hd⟩) | ((with_reducible refine (HB.out _ (by assumption)).mono ?_); rintro e w' ⟨rfl, hd⟩)))
    rename_i hH
    obtain ⟨_, _, _, _, _, _, HH⟩ := hH
    go_wp2_with fail
    go_ret
    exact ⟨rfl, HH.out.2⟩
  | false =>
    clear HT
    go_enter Try.func31, Try.ntmps31
    go_wp2_with fail
    refine PrintLast.start_ (n := 35) (S := fun W' => W'.cell? ⟨p, 0, none⟩ = some (.slice A ra.length ca) ∧ W'.cell? ⟨p, 1, none⟩ = some (.slice B rb.length cb) ∧ W'.cell? ⟨p, 2, none⟩ = some (.slice (some ad) l.length cl) ∧ W'.cell? ⟨p, 3, none⟩ = some (.int .i64 (i : Int)) ∧ W'.cell? (ad.add (i * 2)) = some (.int .i64 x.f0) ∧ W'.cell? ⟨(ad.add (i * 2)).block, (ad.add (i * 2)).off + 1, none⟩ = some (.int .i64 x.f1) ∧ Hid (PlanAt W' p A ca ra B cb rb (some ad) cl l i f ∧ Below W.heap.size W W')) (ds := []) #[false, false, false, false, false, false, false, false, false, false, false, false, false, false, false, false, false, false, false, false, false, false, false, false, false, false, false, false, false, false, false, false, false, false, false] (by kernel_rfl) rfl rfl SH (fun hHeld => ?_)
    refine PrintLast.pure_ (i := 0) (N := (some 3)) (v := ?_) (a' := ?_) #[true, false, false, false, false, false, false, false, false, false, false, false, false, false, false, false, false, false, false, false, false, false, false, false, false, false, false, false, false, false, false, false, false, false, false] rfl rfl (by kernel_rfl) (fun _ _ _ h => h) (Or.inl ⟨by rfl, ?_⟩) ?_ ?_
    rotate_left
    · intro w'
      go_simp
      with_reducible rfl
    rotate_left
    · simp only [Act.put, List.setIfInBounds_toArray, List.set_cons_zero, List.set_cons_succ, PrintLast.i64_w]
      rfl
    refine PrintLast.pure_ (i := 1) (N := (some 4)) (v := ?_) (a' := ?_) #[true, true, false, false, false, false, false, false, false, false, false, false, false, false, false, false, false, false, false, false, false, false, false, false, false, false, false, false, false, false, false, false, false, false, false] rfl rfl (by kernel_rfl) (fun _ _ _ h => h) (Or.inl ⟨by rfl, ?_⟩) ?_ ?_
    rotate_left
    · intro w'
      go_simp
      with_reducible rfl
    rotate_left
    · simp only [Act.put, List.setIfInBounds_toArray, List.set_cons_zero, List.set_cons_succ, PrintLast.i64_w]
      rfl
    refine PrintLast.pure_ (i := 2) (N := (some 5)) (v := ?_) (a' := ?_) #[true, true, true, false, false, false, false, false, false, false, false, false, false, false, false, false, false, false, false, false, false, false, false, false, false, false, false, false, false, false, false, false, false, false, false] rfl rfl (by kernel_rfl) (fun _ _ _ h => h) (Or.inl ⟨by rfl, ?_⟩) ?_ ?_
    rotate_left
    · intro w'
      go_simp
      with_reducible rfl
    rotate_left
    · simp only [Act.put, List.setIfInBounds_toArray, List.set_cons_zero, List.set_cons_succ, PrintLast.i64_w]
      rfl
    refine PrintLast.take_ (i := 3) (N := (some 6)) (v := ?_) (a' := ?_) #[true, true, true, true, false, false, false, false, false, false, false, false, false, false, false, false, false, false, false, false, false, false, false, false, false, false, false, false, false, false, false, false, false, false, false] rfl rfl (by kernel_rfl) (fun _ _ _ h => h) (Or.inl ⟨by rfl, ?_⟩) hHeld ?_ ?_
    rotate_left
    · rintro w' ⟨s0, s1, s2, s3, s4, s5, s6⟩
      go_simp
      with_reducible rfl
    rotate_left
    · simp only [Act.put, List.setIfInBounds_toArray, List.set_cons_zero, List.set_cons_succ, PrintLast.i64_w]
      rfl
    refine PrintLast.pure_ (i := 4) (N := (some 7)) (v := ?_) (a' := ?_) #[true, true, true, true, true, false, false, false, false, false, false, false, false, false, false, false, false, false, false, false, false, false, false, false, false, false, false, false, false, false, false, false, false, false, false] rfl rfl (by kernel_rfl) (fun _ _ _ h => h) (Or.inl ⟨by rfl, ?_⟩) ?_ ?_
    rotate_left
    · intro w'
      go_simp
      with_reducible rfl
    rotate_left
    · simp only [Act.put, List.setIfInBounds_toArray, List.set_cons_zero, List.set_cons_succ, PrintLast.i64_w]
      rfl
    refine PrintLast.pure_ (i := 5) (N := (some 8)) (v := ?_) (a' := ?_) #[true, true, true, true, true, true, false, false, false, false, false, false, false, false, false, false, false, false, false, false, false, false, false, false, false, false, false, false, false, false, false, false, false, false, false] rfl rfl (by kernel_rfl) (fun _ _ _ h => h) (Or.inl ⟨by rfl, ?_⟩) ?_ ?_
    rotate_left
    · intro w'
      go_simp
      with_reducible rfl
    rotate_left
    · simp only [Act.put, List.setIfInBounds_toArray, List.set_cons_zero, List.set_cons_succ, PrintLast.i64_w]
      rfl
    refine PrintLast.pure_ (i := 6) (N := (some 9)) (v := ?_) (a' := ?_) #[true, true, true, true, true, true, true, false, false, false, false, false, false, false, false, false, false, false, false, false, false, false, false, false, false, false, false, false, false, false, false, false, false, false, false] rfl rfl (by kernel_rfl) (fun _ _ _ h => h) (Or.inl ⟨by rfl, ?_⟩) ?_ ?_
    rotate_left
    · intro w'
      go_simp
      with_reducible rfl
    rotate_left
    · simp only [Act.put, List.setIfInBounds_toArray, List.set_cons_zero, List.set_cons_succ, PrintLast.i64_w]
      rfl
    refine PrintLast.take_ (i := 7) (N := (some 10)) (v := ?_) (a' := ?_) #[true, true, true, true, true, true, true, true, false, false, false, false, false, false, false, false, false, false, false, false, false, false, false, false, false, false, false, false, false, false, false, false, false, false, false] rfl rfl (by kernel_rfl) (fun _ _ _ h => h) (Or.inl ⟨by rfl, ?_⟩) hHeld ?_ ?_
    rotate_left
    · rintro w' ⟨s0, s1, s2, s3, s4, s5, s6⟩
      go_simp
      with_reducible rfl
    rotate_left
    · simp only [Act.put, List.setIfInBounds_toArray, List.set_cons_zero, List.set_cons_succ, PrintLast.i64_w]
      rfl
    refine PrintLast.pure_ (i := 8) (N := (some 11)) (v := ?_) (a' := ?_) #[true, true, true, true, true, true, true, true, true, false, false, false, false, false, false, false, false, false, false, false, false, false, false, false, false, false, false, false, false, false, false, false, false, false, false] rfl rfl (by kernel_rfl) (fun _ _ _ h => h) (Or.inl ⟨by rfl, ?_⟩) ?_ ?_
    rotate_left
    · intro w'
      go_simp
      with_reducible rfl
    rotate_left
    · simp only [Act.put, List.setIfInBounds_toArray, List.set_cons_zero, List.set_cons_succ, PrintLast.i64_w]
      rfl
    refine PrintLast.pure_ (i := 9) (N := (some 12)) (v := ?_) (a' := ?_) #[true, true, true, true, true, true, true, true, true, true, false, false, false, false, false, false, false, false, false, false, false, false, false, false, false, false, false, false, false, false, false, false, false, false, false] rfl rfl (by kernel_rfl) (fun _ _ _ h => h) (Or.inl ⟨by rfl, ?_⟩) ?_ ?_
    rotate_left
    · intro w'
      go_simp
      with_reducible rfl
    rotate_left
    · simp only [Act.put, List.setIfInBounds_toArray, List.set_cons_zero, List.set_cons_succ, PrintLast.i64_w]
      rfl
    refine PrintLast.pure_ (i := 10) (N := (some 13)) (v := ?_) (a' := ?_) #[true, true, true, true, true, true, true, true, true, true, true, false, false, false, false, false, false, false, false, false, false, false, false, false, false, false, false, false, false, false, false, false, false, false, false] rfl rfl (by kernel_rfl) (fun _ _ _ h => h) (Or.inl ⟨by rfl, ?_⟩) ?_ ?_
    rotate_left
    · intro w'
      go_simp
      with_reducible rfl
    rotate_left
    · simp only [Act.put, List.setIfInBounds_toArray, List.set_cons_zero, List.set_cons_succ, PrintLast.i64_w]
      rfl
    refine PrintLast.take_ (i := 11) (N := (some 14)) (v := ?_) (a' := ?_) #[true, true, true, true, true, true, true, true, true, true, true, true, false, false, false, false, false, false, false, false, false, false, false, false, false, false, false, false, false, false, false, false, false, false, false] rfl rfl (by kernel_rfl) (fun _ _ _ h => h) (Or.inl ⟨by rfl, ?_⟩) hHeld ?_ ?_
    rotate_left
    · rintro w' ⟨s0, s1, s2, s3, s4, s5, s6⟩
      go_simp
      with_reducible rfl
    rotate_left
    · simp only [Act.put, List.setIfInBounds_toArray, List.set_cons_zero, List.set_cons_succ, PrintLast.i64_w]
      rfl
    refine PrintLast.pure_ (i := 12) (N := (some 15)) (v := ?_) (a' := ?_) #[true, true, true, true, true, true, true, true, true, true, true, true, true, false, false, false, false, false, false, false, false, false, false, false, false, false, false, false, false, false, false, false, false, false, false] rfl rfl (by kernel_rfl) (fun _ _ _ h => h) (Or.inl ⟨by rfl, ?_⟩) ?_ ?_
    rotate_left
    · intro w'
      go_simp
      with_reducible rfl
    rotate_left
    · simp only [Act.put, List.setIfInBounds_toArray, List.set_cons_zero, List.set_cons_succ, PrintLast.i64_w]
      rfl
    refine PrintLast.pure_ (i := 13) (N := (some 16)) (v := ?_) (a' := ?_) #[true, true, true, true, true, true, true, true, true, true, true, true, true, true, false, false, false, false, false, false, false, false, false, false, false, false, false, false, false, false, false, false, false, false, false] rfl rfl (by kernel_rfl) (fun _ _ _ h => h) (Or.inl ⟨by rfl, ?_⟩) ?_ ?_
    rotate_left
    · intro w'
      go_simp
      with_reducible rfl
    rotate_left
    · simp only [Act.put, List.setIfInBounds_toArray, List.set_cons_zero, List.set_cons_succ, PrintLast.i64_w]
      rfl
    refine PrintLast.take_ (i := 14) (N := (some 17)) (v := ?_) (a' := ?_) #[true, true, true, true, true, true, true, true, true, true, true, true, true, true, true, false, false, false, false, false, false, false, false, false, false, false, false, false, false, false, false, false, false, false, false] rfl rfl (by kernel_rfl) (fun _ _ _ h => h) (Or.inl ⟨by rfl, ?_⟩) hHeld ?_ ?_
    rotate_left
    · rintro w' ⟨s0, s1, s2, s3, s4, s5, s6⟩
      go_simp
      with_reducible rfl
    rotate_left
    · simp only [Act.put, List.setIfInBounds_toArray, List.set_cons_zero, List.set_cons_succ, PrintLast.i64_w]
      rfl
    refine PrintLast.one_ (i := 15) (N := (some 18)) #[true, true, true, true, true, true, true, true, true, true, true, true, true, true, true, true, false, false, false, false, false, false, false, false, false, false, false, false, false, false, false, false, false, false, false] rfl rfl (by kernel_rfl) (by decide) (fun K hK => ?_)
    refine PrintLast.goes_ Try.func19 (by kernel_rfl) rfl #[.agg #[.slice A ra.length ca], .int .i64 x.f0] (by rfl) rfl rfl (by (try simp only [List.map_toArray, List.map_cons, List.map_nil]); first | done | rfl) ?_
    with_reducible refine (HA.out _ hHeld).mono ?_
    rintro e w5 ⟨rfl, hd⟩
    refine ⟨_, rfl, ?_⟩
    have hHeld5 := KB.out _ _ hd hHeld
    clear hHeld hd
    refine hK.out _ _ hHeld5 (fun hHeld => ?_)
    clear hK K hHeld5
    refine PrintLast.pure_ (i := 16) (N := (some 19)) (v := ?_) (a' := ?_) #[true, true, true, true, true, true, true, true, true, true, true, true, true, true, true, true, true, false, false, false, false, false, false, false, false, false, false, false, false, false, false, false, false, false, false] rfl rfl (by kernel_rfl) (fun _ _ _ h => h) (Or.inl ⟨by rfl, ?_⟩) ?_ ?_
    rotate_left
    · intro w'
      go_simp
      with_reducible rfl
    rotate_left
    · simp only [Act.put, List.setIfInBounds_toArray, List.set_cons_zero, List.set_cons_succ, PrintLast.i64_w]
      rfl
    refine PrintLast.pure_ (i := 17) (N := (some 20)) (v := undef) (a' := ?_) #[true, true, true, true, true, true, true, true, true, true, true, true, true, true, true, true, true, true, false, false, false, false, false, false, false, false, false, false, false, false, false, false, false, false, false] rfl rfl (by kernel_rfl) (fun _ _ _ h => h) (Or.inr ⟨by rfl, rfl⟩) ?_ ?_
    rotate_left
    · simp only [Act.put, List.setIfInBounds_toArray, List.set_cons_zero, List.set_cons_succ, PrintLast.i64_w]
      rfl
    refine PrintLast.pure_ (i := 18) (N := (some 21)) (v := undef) (a' := ?_) #[true, true, true, true, true, true, true, true, true, true, true, true, true, true, true, true, true, true, true, false, false, false, false, false, false, false, false, false, false, false, false, false, false, false, false] rfl rfl (by kernel_rfl) (fun _ _ _ h => h) (Or.inr ⟨by rfl, rfl⟩) ?_ ?_
    rotate_left
    · simp only [Act.put, List.setIfInBounds_toArray, List.set_cons_zero, List.set_cons_succ, PrintLast.i64_w]
      rfl
    refine PrintLast.pure_ (i := 19) (N := (some 22)) (v := undef) (a' := ?_) #[true, true, true, true, true, true, true, true, true, true, true, true, true, true, true, true, true, true, true, true, false, false, false, false, false, false, false, false, false, false, false, false, false, false, false] rfl rfl (by kernel_rfl) (fun _ _ _ h => h) (Or.inr ⟨by rfl, rfl⟩) ?_ ?_
    rotate_left
    · simp only [Act.put, List.setIfInBounds_toArray, List.set_cons_zero, List.set_cons_succ, PrintLast.i64_w]
      rfl
    refine PrintLast.pure_ (i := 20) (N := (some 23)) (v := undef) (a' := ?_) #[true, true, true, true, true, true, true, true, true, true, true, true, true, true, true, true, true, true, true, true, true, false, false, false, false, false, false, false, false, false, false, false, false, false, false] rfl rfl (by kernel_rfl) (fun _ _ _ h => h) (Or.inr ⟨by rfl, rfl⟩) ?_ ?_
    rotate_left
    · simp only [Act.put, List.setIfInBounds_toArray, List.set_cons_zero, List.set_cons_succ, PrintLast.i64_w]
      rfl
    refine PrintLast.pure_ (i := 21) (N := (some 24)) (v := undef) (a' := ?_) #[true, true, true, true, true, true, true, true, true, true, true, true, true, true, true, true, true, true, true, true, true, true, false, false, false, false, false, false, false, false, false, false, false, false, false] rfl rfl (by kernel_rfl) (fun _ _ _ h => h) (Or.inr ⟨by rfl, rfl⟩) ?_ ?_
    rotate_left
    · simp only [Act.put, List.setIfInBounds_toArray, List.set_cons_zero, List.set_cons_succ, PrintLast.i64_w]
      rfl
    refine PrintLast.pure_ (i := 22) (N := (some 25)) (v := undef) (a' := ?_) #[true, true, true, true, true, true, true, true, true, true, true, true, true, true, true, true, true, true, true, true, true, true, true, false, false, false, false, false, false, false, false, false, false, false, false] rfl rfl (by kernel_rfl) (fun _ _ _ h => h) (Or.inr ⟨by rfl, rfl⟩) ?_ ?_
    rotate_left
    · simp only [Act.put, List.setIfInBounds_toArray, List.set_cons_zero, List.set_cons_succ, PrintLast.i64_w]
      rfl
    refine PrintLast.pure_ (i := 23) (N := (some 26)) (v := undef) (a' := ?_) #[true, true, true, true, true, true, true, true, true, true, true, true, true, true, true, true, true, true, true, true, true, true, true, true, false, false, false, false, false, false, false, false, false, false, false] rfl rfl (by kernel_rfl) (fun _ _ _ h => h) (Or.inr ⟨by rfl, rfl⟩) ?_ ?_
    rotate_left
    · simp only [Act.put, List.setIfInBounds_toArray, List.set_cons_zero, List.set_cons_succ, PrintLast.i64_w]
      rfl
    refine PrintLast.pure_ (i := 24) (N := (some 27)) (v := undef) (a' := ?_) #[true, true, true, true, true, true, true, true, true, true, true, true, true, true, true, true, true, true, true, true, true, true, true, true, true, false, false, false, false, false, false, false, false, false, false] rfl rfl (by kernel_rfl) (fun _ _ _ h => h) (Or.inr ⟨by rfl, rfl⟩) ?_ ?_
    rotate_left
    · simp only [Act.put, List.setIfInBounds_toArray, List.set_cons_zero, List.set_cons_succ, PrintLast.i64_w]
      rfl
    refine PrintLast.pure_ (i := 25) (N := (some 28)) (v := undef) (a' := ?_) #[true, true, true, true, true, true, true, true, true, true, true, true, true, true, true, true, true, true, true, true, true, true, true, true, true, true, false, false, false, false, false, false, false, false, false] rfl rfl (by kernel_rfl) (fun _ _ _ h => h) (Or.inr ⟨by rfl, rfl⟩) ?_ ?_
    rotate_left
    · simp only [Act.put, List.setIfInBounds_toArray, List.set_cons_zero, List.set_cons_succ, PrintLast.i64_w]
      rfl
    refine PrintLast.pure_ (i := 26) (N := (some 29)) (v := undef) (a' := ?_) #[true, true, true, true, true, true, true, true, true, true, true, true, true, true, true, true, true, true, true, true, true, true, true, true, true, true, true, false, false, false, false, false, false, false, false] rfl rfl (by kernel_rfl) (fun _ _ _ h => h) (Or.inr ⟨by rfl, rfl⟩) ?_ ?_
    rotate_left
    · simp only [Act.put, List.setIfInBounds_toArray, List.set_cons_zero, List.set_cons_succ, PrintLast.i64_w]
      rfl
    refine PrintLast.pure_ (i := 27) (N := (some 30)) (v := undef) (a' := ?_) #[true, true, true, true, true, true, true, true, true, true, true, true, true, true, true, true, true, true, true, true, true, true, true, true, true, true, true, true, false, false, false, false, false, false, false] rfl rfl (by kernel_rfl) (fun _ _ _ h => h) (Or.inr ⟨by rfl, rfl⟩) ?_ ?_
    rotate_left
    · simp only [Act.put, List.setIfInBounds_toArray, List.set_cons_zero, List.set_cons_succ, PrintLast.i64_w]
      rfl
    refine PrintLast.pure_ (i := 28) (N := (some 31)) (v := undef) (a' := ?_) #[true, true, true, true, true, true, true, true, true, true, true, true, true, true, true, true, true, true, true, true, true, true, true, true, true, true, true, true, true, false, false, false, false, false, false] rfl rfl (by kernel_rfl) (fun _ _ _ h => h) (Or.inr ⟨by rfl, rfl⟩) ?_ ?_
    rotate_left
    · simp only [Act.put, List.setIfInBounds_toArray, List.set_cons_zero, List.set_cons_succ, PrintLast.i64_w]
      rfl
    refine PrintLast.pure_ (i := 29) (N := (some 32)) (v := undef) (a' := ?_) #[true, true, true, true, true, true, true, true, true, true, true, true, true, true, true, true, true, true, true, true, true, true, true, true, true, true, true, true, true, true, false, false, false, false, false] rfl rfl (by kernel_rfl) (fun _ _ _ h => h) (Or.inr ⟨by rfl, rfl⟩) ?_ ?_
    rotate_left
    · simp only [Act.put, List.setIfInBounds_toArray, List.set_cons_zero, List.set_cons_succ, PrintLast.i64_w]
      rfl
    refine PrintLast.pure_ (i := 30) (N := (some 33)) (v := undef) (a' := ?_) #[true, true, true, true, true, true, true, true, true, true, true, true, true, true, true, true, true, true, true, true, true, true, true, true, true, true, true, true, true, true, true, false, false, false, false] rfl rfl (by kernel_rfl) (fun _ _ _ h => h) (Or.inr ⟨by rfl, rfl⟩) ?_ ?_
    rotate_left
    · simp only [Act.put, List.setIfInBounds_toArray, List.set_cons_zero, List.set_cons_succ, PrintLast.i64_w]
      rfl
    refine PrintLast.pure_ (i := 31) (N := (some 34)) (v := undef) (a' := ?_) #[true, true, true, true, true, true, true, true, true, true, true, true, true, true, true, true, true, true, true, true, true, true, true, true, true, true, true, true, true, true, true, true, false, false, false] rfl rfl (by kernel_rfl) (fun _ _ _ h => h) (Or.inr ⟨by rfl, rfl⟩) ?_ ?_
    rotate_left
    · simp only [Act.put, List.setIfInBounds_toArray, List.set_cons_zero, List.set_cons_succ, PrintLast.i64_w]
      rfl
    refine PrintLast.pure_ (i := 32) (N := (some 35)) (v := undef) (a' := ?_) #[true, true, true, true, true, true, true, true, true, true, true, true, true, true, true, true, true, true, true, true, true, true, true, true, true, true, true, true, true, true, true, true, true, false, false] rfl rfl (by kernel_rfl) (fun _ _ _ h => h) (Or.inr ⟨by rfl, rfl⟩) ?_ ?_
    rotate_left
    · simp only [Act.put, List.setIfInBounds_toArray, List.set_cons_zero, List.set_cons_succ, PrintLast.i64_w]
      rfl
    refine PrintLast.pure_ (i := 33) (N := (some 36)) (v := ?_) (a' := ?_) #[true, true, true, true, true, true, true, true, true, true, true, true, true, true, true, true, true, true, true, true, true, true, true, true, true, true, true, true, true, true, true, true, true, true, false] rfl rfl (by kernel_rfl) (fun _ _ _ h => h) (Or.inl ⟨by rfl, ?_⟩) ?_ ?_
    rotate_left
    · intro w'
      go_simp
      with_reducible rfl
    rotate_left
    · simp only [Act.put, List.setIfInBounds_toArray, List.set_cons_zero, List.set_cons_succ, PrintLast.i64_w]
      rfl
    refine PrintLast.pure_ (i := 34) (N := (some 2)) (v := ?_) (a' := ?_) #[true, true, true, true, true, true, true, true, true, true, true, true, true, true, true, true, true, true, true, true, true, true, true, true, true, true, true, true, true, true, true, true, true, true, true] rfl rfl (by kernel_rfl) (fun _ _ _ h => h) (Or.inl ⟨by rfl, ?_⟩) ?_ ?_
    rotate_left
    · intro w'
      go_simp
      with_reducible rfl
    rotate_left
    · simp only [Act.put, List.setIfInBounds_toArray, List.set_cons_zero, List.set_cons_succ, PrintLast.i64_w]
      rfl
    refine PrintLast.done_ (by kernel_rfl) ?_
    obtain ⟨_, _, _, _, _, _, HH⟩ := hHeld
    go_wp2_with fail
    go_ret
    exact ⟨rfl, HH.out.2⟩
/-- are both of a class? -/
def alikeAt (ra rb : List S61) (x : S49) : Bool := hall_Class.v ra x.f0 == hall_Class.v rb x.f1
set_option maxHeartbeats 4000000 in
theorem alike_calls (h : PlanAt W p A ca ra B cb rb L cl l i f) {x : S49} (hx : l[i]? = some x) : Calls Try.prog 33 #[.pointer (some ⟨p, 0, none⟩)] W fun e w' => e = .returned (.bool (alikeAt ra rb x)) ∧ Below W.heap.size W w' := by
  obtain ⟨ad, rfl, x0, x1⟩ := h.move hx
  have p0 : (0 : Int) ≤ (i : Int) := by omega
  have q0 : (i : Int) < (l.length : Int) := by have := h.lt; omega
  have hmx := Kd.C_max h.hl
  have HA := Lib.hid (show ∀ w, (fun W' => W'.cell? ⟨p, 0, none⟩ = some (.slice A ra.length ca) ∧ W'.cell? ⟨p, 1, none⟩ = some (.slice B rb.length cb) ∧ W'.cell? ⟨p, 2, none⟩ = some (.slice (some ad) l.length cl) ∧ W'.cell? ⟨p, 3, none⟩ = some (.int .i64 (i : Int)) ∧ W'.cell? (ad.add (i * 2)) = some (.int .i64 x.f0) ∧ W'.cell? ⟨(ad.add (i * 2)).block, (ad.add (i * 2)).off + 1, none⟩ = some (.int .i64 x.f1) ∧ Hid (PlanAt W' p A ca ra B cb rb (some ad) cl l i f ∧ Below W.heap.size W W')) w → Calls Try.prog 20 #[.agg #[.slice A ra.length ca], .int .i64 x.f0] w fun e w' => e = .returned (.int .i64 (hall_Class.v ra x.f0)) ∧ Below w.heap.size w w' from
    fun w hw => hall_Class.calls A ca ra x.f0 (hall_Class.v ra x.f0) w hw.2.2.2.2.2.2.out.1.ha hw.2.2.2.2.2.2.out.1.hca rfl)
  have HB := Lib.hid (show ∀ w, (fun W' => W'.cell? ⟨p, 0, none⟩ = some (.slice A ra.length ca) ∧ W'.cell? ⟨p, 1, none⟩ = some (.slice B rb.length cb) ∧ W'.cell? ⟨p, 2, none⟩ = some (.slice (some ad) l.length cl) ∧ W'.cell? ⟨p, 3, none⟩ = some (.int .i64 (i : Int)) ∧ W'.cell? (ad.add (i * 2)) = some (.int .i64 x.f0) ∧ W'.cell? ⟨(ad.add (i * 2)).block, (ad.add (i * 2)).off + 1, none⟩ = some (.int .i64 x.f1) ∧ Hid (PlanAt W' p A ca ra B cb rb (some ad) cl l i f ∧ Below W.heap.size W W')) w → Calls Try.prog 20 #[.agg #[.slice B rb.length cb], .int .i64 x.f1] w fun e w' => e = .returned (.int .i64 (hall_Class.v rb x.f1)) ∧ Below w.heap.size w w' from
    fun w hw => hall_Class.calls B cb rb x.f1 (hall_Class.v rb x.f1) w hw.2.2.2.2.2.2.out.1.hb hw.2.2.2.2.2.2.out.1.hcb rfl)
  have KB := Lib.hid (show ∀ w w', Below w.heap.size w w' → (fun W' => W'.cell? ⟨p, 0, none⟩ = some (.slice A ra.length ca) ∧ W'.cell? ⟨p, 1, none⟩ = some (.slice B rb.length cb) ∧ W'.cell? ⟨p, 2, none⟩ = some (.slice (some ad) l.length cl) ∧ W'.cell? ⟨p, 3, none⟩ = some (.int .i64 (i : Int)) ∧ W'.cell? (ad.add (i * 2)) = some (.int .i64 x.f0) ∧ W'.cell? ⟨(ad.add (i * 2)).block, (ad.add (i * 2)).off + 1, none⟩ = some (.int .i64 x.f1) ∧ Hid (PlanAt W' p A ca ra B cb rb (some ad) cl l i f ∧ Below W.heap.size W W')) w → (fun W' => W'.cell? ⟨p, 0, none⟩ = some (.slice A ra.length ca) ∧ W'.cell? ⟨p, 1, none⟩ = some (.slice B rb.length cb) ∧ W'.cell? ⟨p, 2, none⟩ = some (.slice (some ad) l.length cl) ∧ W'.cell? ⟨p, 3, none⟩ = some (.int .i64 (i : Int)) ∧ W'.cell? (ad.add (i * 2)) = some (.int .i64 x.f0) ∧ W'.cell? ⟨(ad.add (i * 2)).block, (ad.add (i * 2)).off + 1, none⟩ = some (.int .i64 x.f1) ∧ Hid (PlanAt W' p A ca ra B cb rb (some ad) cl l i f ∧ Below W.heap.size W W')) w' from by
    rintro w w' hb ⟨a1, a2, a3, a4, a5, a6, a7⟩
    exact ⟨pw_cell_below hb a1, pw_cell_below hb a2, pw_cell_below hb a3, pw_cell_below hb a4, pw_cell_below hb a5, pw_cell_below hb a6, Lib.hid ⟨a7.out.1.below hb, below_then a7.out.2 a7.out.2.size hb⟩⟩)
  have SH := KB.out W W.drew (Below.drew (Below.refl _ _)) ⟨h.c0, h.c1, h.c2, h.c3, x0, x1, Lib.hid ⟨h, Below.refl _ _⟩⟩
  clear x0 x1 h hx
  obtain ⟨b1, hb1⟩ : ∃ b1, hall_Class.v ra x.f0 = b1 := ⟨_, rfl⟩
  obtain ⟨b2, hb2⟩ : ∃ b2, hall_Class.v rb x.f1 = b2 := ⟨_, rfl⟩
  have hT : alikeAt ra rb x = (b1 == b2) := by unfold alikeAt; rw [hb1, hb2]
  rw [hT]
  rw [hb1] at HA
  rw [hb2] at HB
  clear hb1 hb2 hT
  go_enter Try.func33, Try.ntmps33
  go_wp2_with fail
  go_region_held3 (fun W' => W'.cell? ⟨p, 0, none⟩ = some (.slice A ra.length ca) ∧ W'.cell? ⟨p, 1, none⟩ = some (.slice B rb.length cb) ∧ W'.cell? ⟨p, 2, none⟩ = some (.slice (some ad) l.length cl) ∧ W'.cell? ⟨p, 3, none⟩ = some (.int .i64 (i : Int)) ∧ W'.cell? (ad.add (i * 2)) = some (.int .i64 x.f0) ∧ W'.cell? ⟨(ad.add (i * 2)).block, (ad.add (i * 2)).off + 1, none⟩ = some (.int .i64 x.f1) ∧ Hid (PlanAt W' p A ca ra B cb rb (some ad) cl l i f ∧ Below W.heap.size W W')) (first | assumption | exact KB.out _ _ (by assumption) (by assumption))
    ((go_at_call 20; first | ((with_reducible refine (HA.out _ (by assumption)).mono ?_); rintro e w' ⟨rfl, hd⟩) | ((with_reducible refine (HB.out _ (by assumption)).mono ?_); rintro e w' ⟨rfl, hd⟩)))
  all_goals (rename_i hH; obtain ⟨_, _, _, _, _, _, HH⟩ := hH; go_wp2_with fail; go_ret; exact ⟨rfl, HH.out.2⟩)
end
end Go.Proofs.Yteojldbfebnccaa
