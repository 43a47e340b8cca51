/- remap.To, remap.From: where a seat goes, and whence one comes. (Printed by gen_idx.py.) -/
import Derived.Test.YteojldbfebnccaaBasex0
import Derived.WalkKit
import Derived.Lib.Hide
namespace Go.Proofs.Yteojldbfebnccaa
open Go.RowKit Go.Proofs.YteojldbfebnccaaW.PrintWords
set_option linter.unusedVariables false
set_option maxRecDepth 100000
/-- the first place at which p holds; -1: none -/
def idxOf (p : S49 → Bool) (l : List S49) : Int := match l.findIdx? p with | some i => (i : Int) | none => -1
theorem idx_none {p : S49 → Bool} {l : List S49} (h : ∀ x ∈ l, p x = false) : idxOf p l = -1 := by
  unfold idxOf
  rw [List.findIdx?_eq_none_iff.2 h]
theorem idx_some {p : S49 → Bool} {l : List S49} {i : Nat} {x : S49} (hx : l[i]? = some x) (hp : p x = true) (h : ∀ j y, j < i → l[j]? = some y → p y = false) : idxOf p l = i := by
  unfold idxOf
  have hi : i < l.length := (List.getElem?_eq_some_iff.1 hx).1
  rw [List.findIdx?_eq_some_iff_getElem.2 ⟨hi, by rw [(List.getElem?_eq_some_iff.1 hx).2]; exact hp, fun j hj => by
    have hjl : j < l.length := by omega
    have := h j _ hj (List.getElem?_eq_getElem hjl)
    simp [this]⟩]
theorem rd49 {l : List S49} {i : Nat} (h : i < l.length) : l[i]? = some (rd_T49 l (i : Int)) := by
  unfold rd_T49
  simp [List.getD, List.getElem?_eq_getElem h]
theorem find_idx {p : S49 → Bool} {l : List S49} : (idxOf p l = -1 ∧ l.find? p = none) ∨ ∃ (i : Nat) (x : S49), idxOf p l = i ∧ l[i]? = some x ∧ l.find? p = some x := by
  cases h : l.findIdx? p with
  | none =>
    refine .inl ⟨by unfold idxOf; rw [h], ?_⟩
    rw [List.find?_eq_none]
    rw [List.findIdx?_eq_none_iff] at h
    intro x hx
    simp [h x hx]
  | some i =>
    obtain ⟨hi, hp, hlt⟩ := List.findIdx?_eq_some_iff_getElem.1 h
    refine .inr ⟨i, l[i], by unfold idxOf; rw [h], List.getElem?_eq_getElem hi, ?_⟩
    rw [List.find?_eq_some_iff_getElem]
    exact ⟨hp, i, hi, rfl, fun j hj => by simpa using hlt j hj⟩

/-! ### the closure 41, and what takes it -/
def p41 (seat : Int) (x : S49) : Bool := x.f0 == seat
set_option maxHeartbeats 2000000 in
theorem at41 (B : Nat) (seat : Int) (x : S49) (W : World) (hb : W.cell? ⟨B, 0, none⟩ = some (.int .i64 seat)) :
    Calls Try.prog 41 #[.agg #[.int .i64 x.f0, .int .i64 x.f1], .pointer (some ⟨B, 0, none⟩)] W fun e W' => e = .returned (.bool (p41 seat x)) ∧ Below W.heap.size W W' := by
  have hb2 := (Below.cell (below_alloc (Below.refl _ W) (.cells #[.int .i64 x.f0, .int .i64 x.f1] 49)) (World.block_lt_of_cell? W _ hb)).trans hb
  go_enter Try.func41, Try.ntmps41
  go_wp2_with fail
  go_ret
  exact ⟨rfl, below_alloc (Below.refl _ _) _⟩
set_option maxHeartbeats 2000000 in
theorem index41 (B : Nat) (seat : Int) (A : Option Addr) (c : Nat) (l : List S49) (w : World) (hr : Kd.C k49 w A l.length l) (hc : l.length ≤ c) (hcl : w.cell? ⟨B, 0, none⟩ = some (.int .i64 seat)) :
    Calls Try.prog 40 #[.slice A l.length c, .func (.func 41) #[] #[.pointer (some ⟨B, 0, none⟩)]] w fun e w' => e = .returned (.int .i64 (idxOf (p41 seat) l)) ∧ Below w.heap.size w w' := by
  obtain ⟨n, hn⟩ : ∃ n, l.length = n := ⟨_, rfl⟩
  have HCL := Lib.hid hcl
  rw [hn] at hr hc ⊢
  have HR := Lib.hid hr
  have HN := Lib.hid hn
  clear hr hn hcl
  have hmx := Kd.C_max HR.out
  go_enter Try.func40, Try.ntmps40
  go_wp2_with fail
  go_loopw [8] (fun v8 wr => ∃ i : Nat, v8 = .int .i64 i ∧ i ≤ n ∧ Hid (Below w.heap.size w wr) ∧ Hid (∀ j y, j < i → l[j]? = some y → p41 seat y = false)) (fun v _ => n - (intOf v).toNat)
  case atStart => exact ⟨0, rfl, Nat.zero_le _, Lib.hid (Below.refl _ _), Lib.hid fun j _ h => by omega⟩
  case round =>
    obtain ⟨i, rfl, hi, HB, HP⟩ := hrel
    by_cases hlt : i < n
    · have p0 : (0 : Int) ≤ (i : Int) := by omega
      have q0 : (i : Int) < (n : Int) := by omega
      obtain ⟨ad, ea, hx0, hx1⟩ := at_T49 HR.out (i : Int) p0 q0
      cases ea
      replace hx0 := pw_cell_below HB.out hx0
      replace hx1 := pw_cell_below HB.out hx1
      obtain ⟨x, hx⟩ : ∃ x, rd_T49 l (i : Int) = x := ⟨_, rfl⟩
      rw [hx] at hx0 hx1
      have HX := Lib.hid (show l[i]? = some x by rw [← hx]; exact rd49 (by rw [HN.out]; exact hlt))
      simp only [Int.toNat_natCast] at hx0 hx1
      clear hx
      go_wp2_with fail
      refine (at41 B seat x wr (pw_cell_below HB.out HCL.out)).mono ?_
      rintro e w2 ⟨rfl, hb⟩
      have HB2 := Lib.hid (below_then HB.out HB.out.size hb)
      clear hb HB
      obtain ⟨b, hb⟩ : ∃ b, p41 seat x = b := ⟨_, rfl⟩
      rw [hb]
      have HPB := Lib.hid hb
      clear hb
      cases b with
      | true =>
        go_wp2_with fail
        go_ret
        exact ⟨by rw [idx_some HX.out HPB.out HP.out]; rfl, HB2.out⟩
      | false =>
        go_wp2_with fail
        go_roundw
        case rel =>
          refine ⟨i + 1, by go_num, by omega, HB2, Lib.hid fun j y hj hy => ?_⟩
          rcases Nat.lt_or_ge j i with h | h
          · exact HP.out j y h hy
          · obtain rfl : j = i := by omega
            rw [HX.out] at hy
            cases hy
            exact HPB.out
        case measure => simp [intOf]; omega
    · go_wp2_with fail
      go_ret
      have e : idxOf (p41 seat) l = -1 := idx_none fun x hx => by
        obtain ⟨j, hj⟩ := List.getElem?_of_mem hx
        exact HP.out j x (by have := (List.getElem?_eq_some_iff.1 hj).1; have := HN.out; omega) hj
      exact ⟨by rw [e]; rfl, HB.out⟩
/-- what remap.To answers -/
def remap_To.v (l : List S49) (seat : Int) : Int × Bool := match l.find? (p41 seat) with | some x => (x.f1, true) | none => (-1, false)
def remap_To.f (l0 : List S49) (a1 : Int) : Option (Int × Bool) := some (remap_To.v l0 a1)
set_option maxHeartbeats 2000000 in
theorem remap_To.calls (A0 : Option Addr) (c0 : Nat) (l0 : List S49) (a1 : Int) (r1 : Int) (r2 : Bool) (w : World) (hr0 : Kd.C k49 w A0 l0.length l0) (hc0 : l0.length ≤ c0) (h : remap_To.f l0 a1 = some (r1, r2)) :
    Calls Try.prog 17 #[.slice A0 l0.length c0, .int .i64 a1] w fun e w' => e = .returned (.tuple #[.int .i64 r1, .bool r2]) ∧ Below w.heap.size w w' := by
  obtain ⟨rfl, rfl⟩ : (remap_To.v l0 a1).1 = r1 ∧ (remap_To.v l0 a1).2 = r2 := by
    have := Option.some.inj h
    rw [this]
    exact ⟨rfl, rfl⟩
  clear h
  obtain ⟨w1, hw1⟩ : ∃ w1, w.alloc (.cells #[.int .i64 a1] 3) = w1 := ⟨_, rfl⟩
  have hb1 : Below w.heap.size w w1 := by rw [← hw1]; exact below_alloc (Below.refl _ _) _
  have hc1 : w1.cell? ⟨w.heap.size, 0, none⟩ = some (.int .i64 a1) := by rw [← hw1]; exact cell_of_row _ _ 0 _ _ _ (blk_new w _)
  have hidx := index41 w.heap.size a1 A0 c0 l0 w1 (Kd.C_below hr0 hb1) hc0 hc1
  obtain ⟨n, hn⟩ : ∃ n, l0.length = n := ⟨_, rfl⟩
  have hmx := Kd.C_max hr0
  rw [hn] at hidx hmx ⊢
  have HI := Lib.hid hidx
  have HR := Lib.hid hr0
  have HN := Lib.hid hn
  have HB1 := Lib.hid hb1
  clear hidx hr0 hn hb1 hc1
  go_enter Try.func17, Try.ntmps17
  go_wp2_with fail
  clear hw1
  refine HI.out.mono ?_
  rintro e w2 ⟨rfl, hb⟩
  have HB2 := Lib.hid (below_then HB1.out HB1.out.size hb)
  clear hb
  rcases find_idx (p := p41 a1) (l := l0) with ⟨h1, h2⟩ | ⟨i, x, h1, h2, h3⟩
  · rw [h1]
    have HF := Lib.hid h2
    clear h1 h2
    go_wp2_with fail
    go_ret2
    unfold remap_To.v
    rw [HF.out]
    exact ⟨rfl, HB2.out⟩
  · rw [h1]
    have hlt : i < n := by have := (List.getElem?_eq_some_iff.1 h2).1; have := HN.out; omega
    have p0 : (0 : Int) ≤ (i : Int) := by omega
    have q0 : (i : Int) < (n : Int) := by omega
    have g0 : decide ((i : Int) < 0) = false := decide_eq_false (by omega)
    obtain ⟨ad, ea, hx0, hx1⟩ := at_T49 HR.out (i : Int) p0 (by rw [HN.out]; exact q0)
    cases ea
    replace hx0 := pw_cell_below HB2.out hx0
    replace hx1 := pw_cell_below HB2.out hx1
    have e := (rd49 (by rw [HN.out]; exact hlt)).symm.trans h2
    simp only [Option.some.injEq] at e
    rw [e] at hx0 hx1
    simp only [Int.toNat_natCast] at hx0 hx1
    have HF := Lib.hid h3
    clear h1 h2 h3 e
    go_wp2_with fail
    go_ret2
    unfold remap_To.v
    rw [HF.out]
    exact ⟨rfl, HB2.out⟩

/-! ### the closure 42, and what takes it -/
def p42 (seat : Int) (x : S49) : Bool := x.f1 == seat
set_option maxHeartbeats 2000000 in
theorem at42 (B : Nat) (seat : Int) (x : S49) (W : World) (hb : W.cell? ⟨B, 0, none⟩ = some (.int .i64 seat)) :
    Calls Try.prog 42 #[.agg #[.int .i64 x.f0, .int .i64 x.f1], .pointer (some ⟨B, 0, none⟩)] W fun e W' => e = .returned (.bool (p42 seat x)) ∧ Below W.heap.size W W' := by
  have hb2 := (Below.cell (below_alloc (Below.refl _ W) (.cells #[.int .i64 x.f0, .int .i64 x.f1] 49)) (World.block_lt_of_cell? W _ hb)).trans hb
  go_enter Try.func42, Try.ntmps42
  go_wp2_with fail
  go_ret
  exact ⟨rfl, below_alloc (Below.refl _ _) _⟩
set_option maxHeartbeats 2000000 in
theorem index42 (B : Nat) (seat : Int) (A : Option Addr) (c : Nat) (l : List S49) (w : World) (hr : Kd.C k49 w A l.length l) (hc : l.length ≤ c) (hcl : w.cell? ⟨B, 0, none⟩ = some (.int .i64 seat)) :
    Calls Try.prog 40 #[.slice A l.length c, .func (.func 42) #[] #[.pointer (some ⟨B, 0, none⟩)]] w fun e w' => e = .returned (.int .i64 (idxOf (p42 seat) l)) ∧ Below w.heap.size w w' := by
  obtain ⟨n, hn⟩ : ∃ n, l.length = n := ⟨_, rfl⟩
  have HCL := Lib.hid hcl
  rw [hn] at hr hc ⊢
  have HR := Lib.hid hr
  have HN := Lib.hid hn
  clear hr hn hcl
  have hmx := Kd.C_max HR.out
  go_enter Try.func40, Try.ntmps40
  go_wp2_with fail
  go_loopw [8] (fun v8 wr => ∃ i : Nat, v8 = .int .i64 i ∧ i ≤ n ∧ Hid (Below w.heap.size w wr) ∧ Hid (∀ j y, j < i → l[j]? = some y → p42 seat y = false)) (fun v _ => n - (intOf v).toNat)
  case atStart => exact ⟨0, rfl, Nat.zero_le _, Lib.hid (Below.refl _ _), Lib.hid fun j _ h => by omega⟩
  case round =>
    obtain ⟨i, rfl, hi, HB, HP⟩ := hrel
    by_cases hlt : i < n
    · have p0 : (0 : Int) ≤ (i : Int) := by omega
      have q0 : (i : Int) < (n : Int) := by omega
      obtain ⟨ad, ea, hx0, hx1⟩ := at_T49 HR.out (i : Int) p0 q0
      cases ea
      replace hx0 := pw_cell_below HB.out hx0
      replace hx1 := pw_cell_below HB.out hx1
      obtain ⟨x, hx⟩ : ∃ x, rd_T49 l (i : Int) = x := ⟨_, rfl⟩
      rw [hx] at hx0 hx1
      have HX := Lib.hid (show l[i]? = some x by rw [← hx]; exact rd49 (by rw [HN.out]; exact hlt))
      simp only [Int.toNat_natCast] at hx0 hx1
      clear hx
      go_wp2_with fail
      refine (at42 B seat x wr (pw_cell_below HB.out HCL.out)).mono ?_
      rintro e w2 ⟨rfl, hb⟩
      have HB2 := Lib.hid (below_then HB.out HB.out.size hb)
      clear hb HB
      obtain ⟨b, hb⟩ : ∃ b, p42 seat x = b := ⟨_, rfl⟩
      rw [hb]
      have HPB := Lib.hid hb
      clear hb
      cases b with
      | true =>
        go_wp2_with fail
        go_ret
        exact ⟨by rw [idx_some HX.out HPB.out HP.out]; rfl, HB2.out⟩
      | false =>
        go_wp2_with fail
        go_roundw
        case rel =>
          refine ⟨i + 1, by go_num, by omega, HB2, Lib.hid fun j y hj hy => ?_⟩
          rcases Nat.lt_or_ge j i with h | h
          · exact HP.out j y h hy
          · obtain rfl : j = i := by omega
            rw [HX.out] at hy
            cases hy
            exact HPB.out
        case measure => simp [intOf]; omega
    · go_wp2_with fail
      go_ret
      have e : idxOf (p42 seat) l = -1 := idx_none fun x hx => by
        obtain ⟨j, hj⟩ := List.getElem?_of_mem hx
        exact HP.out j x (by have := (List.getElem?_eq_some_iff.1 hj).1; have := HN.out; omega) hj
      exact ⟨by rw [e]; rfl, HB.out⟩
/-- what remap.From answers -/
def remap_From.v (l : List S49) (seat : Int) : Int × Bool := match l.find? (p42 seat) with | some x => (x.f0, true) | none => (-1, false)
def remap_From.f (l0 : List S49) (a1 : Int) : Option (Int × Bool) := some (remap_From.v l0 a1)
set_option maxHeartbeats 2000000 in
theorem remap_From.calls (A0 : Option Addr) (c0 : Nat) (l0 : List S49) (a1 : Int) (r1 : Int) (r2 : Bool) (w : World) (hr0 : Kd.C k49 w A0 l0.length l0) (hc0 : l0.length ≤ c0) (h : remap_From.f l0 a1 = some (r1, r2)) :
    Calls Try.prog 18 #[.slice A0 l0.length c0, .int .i64 a1] w fun e w' => e = .returned (.tuple #[.int .i64 r1, .bool r2]) ∧ Below w.heap.size w w' := by
  obtain ⟨rfl, rfl⟩ : (remap_From.v l0 a1).1 = r1 ∧ (remap_From.v l0 a1).2 = r2 := by
    have := Option.some.inj h
    rw [this]
    exact ⟨rfl, rfl⟩
  clear h
  obtain ⟨w1, hw1⟩ : ∃ w1, w.alloc (.cells #[.int .i64 a1] 3) = w1 := ⟨_, rfl⟩
  have hb1 : Below w.heap.size w w1 := by rw [← hw1]; exact below_alloc (Below.refl _ _) _
  have hc1 : w1.cell? ⟨w.heap.size, 0, none⟩ = some (.int .i64 a1) := by rw [← hw1]; exact cell_of_row _ _ 0 _ _ _ (blk_new w _)
  have hidx := index42 w.heap.size a1 A0 c0 l0 w1 (Kd.C_below hr0 hb1) hc0 hc1
  obtain ⟨n, hn⟩ : ∃ n, l0.length = n := ⟨_, rfl⟩
  have hmx := Kd.C_max hr0
  rw [hn] at hidx hmx ⊢
  have HI := Lib.hid hidx
  have HR := Lib.hid hr0
  have HN := Lib.hid hn
  have HB1 := Lib.hid hb1
  clear hidx hr0 hn hb1 hc1
  go_enter Try.func18, Try.ntmps18
  go_wp2_with fail
  clear hw1
  refine HI.out.mono ?_
  rintro e w2 ⟨rfl, hb⟩
  have HB2 := Lib.hid (below_then HB1.out HB1.out.size hb)
  clear hb
  rcases find_idx (p := p42 a1) (l := l0) with ⟨h1, h2⟩ | ⟨i, x, h1, h2, h3⟩
  · rw [h1]
    have HF := Lib.hid h2
    clear h1 h2
    go_wp2_with fail
    go_ret2
    unfold remap_From.v
    rw [HF.out]
    exact ⟨rfl, HB2.out⟩
  · rw [h1]
    have hlt : i < n := by have := (List.getElem?_eq_some_iff.1 h2).1; have := HN.out; omega
    have p0 : (0 : Int) ≤ (i : Int) := by omega
    have q0 : (i : Int) < (n : Int) := by omega
    have g0 : decide ((i : Int) < 0) = false := decide_eq_false (by omega)
    obtain ⟨ad, ea, hx0, hx1⟩ := at_T49 HR.out (i : Int) p0 (by rw [HN.out]; exact q0)
    cases ea
    replace hx0 := pw_cell_below HB2.out hx0
    replace hx1 := pw_cell_below HB2.out hx1
    have e := (rd49 (by rw [HN.out]; exact hlt)).symm.trans h2
    simp only [Option.some.injEq] at e
    rw [e] at hx0 hx1
    simp only [Int.toNat_natCast] at hx0 hx1
    have HF := Lib.hid h3
    clear h1 h2 h3 e
    go_wp2_with fail
    go_ret2
    unfold remap_From.v
    rw [HF.out]
    exact ⟨rfl, HB2.out⟩
end Go.Proofs.Yteojldbfebnccaa
