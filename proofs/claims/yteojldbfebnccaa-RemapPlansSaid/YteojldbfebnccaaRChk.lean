/- remap.Check: the first move that is not right. (Printed by gen_chk.py.) -/
import Derived.Test.YteojldbfebnccaaROnce
import Derived.Laws.EntriesVeiled
namespace Go.Proofs.Yteojldbfebnccaa
open Go.RowKit Go.Proofs.YteojldbfebnccaaW Go.Proofs.YteojldbfebnccaaW.PrintWords
set_option linter.unusedVariables false
set_option linter.unusedSimpArgs false
set_option maxRecDepth 100000
/-- the first move of the rest that is not right -/
def chk (ra rb : List S61) (all : List S49) : List S49 → Nat → (Nat → Bool) → Int × Int
  | [], _, _ => (-1, 0)
  | x :: r, i, f => if risesAt all i = false then ((i : Int), 7) else if thereAt ra rb x = false then ((i : Int), 18) else if f x.f1.toNat = true then ((i : Int), 24) else if alikeAt ra rb x = false then ((i : Int), 20) else chk ra rb all r (i + 1) (mark f x.f1.toNat)
def remap_Check.v (ra rb : List S61) (l : List S49) : Int × Int := if hall_Check.v ra ≠ 0 ∨ hall_Check.v rb ≠ 0 then (-1, 23) else chk ra rb l l 0 (fun _ => false)
def remap_Check.f (l0_0 : List S61) (l1_0 : List S61) (l2 : List S49) : Option (Int × Int) := some (remap_Check.v l0_0 l1_0 l2)
theorem there_range {ra rb : List S61} {x : S49} (h : thereAt ra rb x = true) : 0 ≤ x.f1 ∧ x.f1 < 64 := by
  unfold thereAt at h
  rw [Bool.and_eq_true] at h
  have h2 := h.2
  unfold hall_Has.v at h2
  rw [List.any_eq_true] at h2
  obtain ⟨p, hp, he⟩ := h2
  have := seatsI_range rb p.1 (List.mem_map.2 ⟨p, hp, rfl⟩)
  have e : p.1 = x.f1 := by simpa using he
  omega
def askCells (p : Nat) : Array Value := #[.func (.func 30) #[.pointer (some ⟨p, 0, none⟩)] #[], .int .i64 7, .func (.func 31) #[.pointer (some ⟨p, 0, none⟩)] #[], .int .i64 18, .func (.func 32) #[.pointer (some ⟨p, 0, none⟩)] #[], .int .i64 24, .func (.func 33) #[.pointer (some ⟨p, 0, none⟩)] #[], .int .i64 20]
/-- the state of Check's loops -/
structure ChkAt (w W : World) (p q : Nat) (va vb vl : Value) (at_ : Nat) (f : Nat → Bool) : Prop where
  blk : W.heap[p]? = some (.cells (pcells va vb vl at_ f) 65 (0, 0))
  asks : W.heap[q]? = some (.cells (askCells p) 68 (0, 0))
  b : Below w.heap.size w W
theorem ChkAt.below {w W W' : World} {p q : Nat} {va vb vl : Value} {i : Nat} {f : Nat → Bool} (h : ChkAt w W p q va vb vl i f) (hb : Below W.heap.size W W') : ChkAt w W' p q va vb vl i f :=
  ⟨blk_below h.blk hb, blk_below h.asks hb, below_then h.b h.b.size hb⟩
theorem pcells_at (va vb vl : Value) (i j : Nat) (f : Nat → Bool) : (pcells va vb vl i f).setIfInBounds 3 (.int .i64 (j : Int)) = pcells va vb vl j f := by
  unfold pcells
  rw [Array.setIfInBounds_append_left (by simp)]
  rfl
theorem zero65 : Try.zeroCells65 = #[.slice none 0 0, .slice none 0 0, .slice none 0 0, .int .i64 0] ++ bcells (fun _ => false) := by kernel_rfl
theorem made65 (va vb vl : Value) : ((Try.zeroCells65.setIfInBounds 0 va).setIfInBounds 1 vb).setIfInBounds 2 vl = pcells va vb vl 0 (fun _ => false) := by
  rw [zero65, Array.setIfInBounds_append_left (by simp), Array.setIfInBounds_append_left (by simp), Array.setIfInBounds_append_left (by simp)]
  rfl
def askV (p : Nat) : Value := .agg #[.func (.func 30) #[.pointer (some ⟨p, 0, none⟩)] #[], .int .i64 7, .func (.func 31) #[.pointer (some ⟨p, 0, none⟩)] #[], .int .i64 18, .func (.func 32) #[.pointer (some ⟨p, 0, none⟩)] #[], .int .i64 24, .func (.func 33) #[.pointer (some ⟨p, 0, none⟩)] #[], .int .i64 20]
theorem ask0 (p : Nat) (w : World) : (Instr.index 68 (askV p) (.int .i64 0)).run Try.prog w = .ok (.agg #[.func (.func 30) #[.pointer (some ⟨p, 0, none⟩)] #[], .int .i64 7]) w := by kernel_rfl
theorem ask1 (p : Nat) (w : World) : (Instr.index 68 (askV p) (.int .i64 1)).run Try.prog w = .ok (.agg #[.func (.func 31) #[.pointer (some ⟨p, 0, none⟩)] #[], .int .i64 18]) w := by kernel_rfl
theorem ask2 (p : Nat) (w : World) : (Instr.index 68 (askV p) (.int .i64 2)).run Try.prog w = .ok (.agg #[.func (.func 32) #[.pointer (some ⟨p, 0, none⟩)] #[], .int .i64 24]) w := by kernel_rfl
theorem ask3 (p : Nat) (w : World) : (Instr.index 68 (askV p) (.int .i64 3)).run Try.prog w = .ok (.agg #[.func (.func 33) #[.pointer (some ⟨p, 0, none⟩)] #[], .int .i64 20]) w := by kernel_rfl
/-- what has been asked of a move, k questions of four -/
structure Asked (ra rb : List S61) (l : List S49) (i : Nat) (x : S49) (f f' : Nat → Bool) (k : Nat) : Prop where
  a0 : 1 ≤ k → risesAt l i = true
  a1 : 2 ≤ k → thereAt ra rb x = true
  a2 : 3 ≤ k → f x.f1.toNat = false
  a3 : 4 ≤ k → alikeAt ra rb x = true
  m0 : k < 3 → f' = f
  m1 : 3 ≤ k → f' = mark f x.f1.toNat
set_option maxHeartbeats 8000000 in
theorem remap_Check.calls (A0_0 : Option Addr) (c0_0 : Nat) (l0_0 : List S61) (A1_0 : Option Addr) (c1_0 : Nat) (l1_0 : List S61) (A2 : Option Addr) (c2 : Nat) (l2 : List S49) (r1 : Int) (r2 : Int) (w : World) (hr0_0 : Kd.C k61 w A0_0 l0_0.length l0_0) (hc0_0 : l0_0.length ≤ c0_0) (hr1_0 : Kd.C k61 w A1_0 l1_0.length l1_0) (hc1_0 : l1_0.length ≤ c1_0) (hr2 : Kd.C k49 w A2 l2.length l2) (hc2 : l2.length ≤ c2) (h : remap_Check.f l0_0 l1_0 l2 = some (r1, r2)) :
    Calls Try.prog 11 #[.agg #[.slice A0_0 l0_0.length c0_0], .agg #[.slice A1_0 l1_0.length c1_0], .slice A2 l2.length c2] w fun e w' => e = .returned (.tuple #[.int .i64 r1, .int .i64 r2]) ∧ Below w.heap.size w w' := by
  have HV := Lib.hid (show remap_Check.v l0_0 l1_0 l2 = (r1, r2) from Option.some.inj h)
  clear h
  have HA := Lib.hid hr0_0
  have HCA := Lib.hid hc0_0
  have HB := Lib.hid hr1_0
  have HCB := Lib.hid hc1_0
  have HL := Lib.hid hr2
  have hmx := Kd.C_max hr2
  have HPL := Lib.hid (show ∀ (W : World) (p i : Nat) (f : Nat → Bool), W.heap[p]? = some (.cells (pcells (.slice A0_0 l0_0.length c0_0) (.slice A1_0 l1_0.length c1_0) (.slice A2 l2.length c2) i f) 65 (0, 0)) → Below w.heap.size w W → i < l2.length → PlanAt W p A0_0 c0_0 l0_0 A1_0 c1_0 l1_0 A2 c2 l2 i f from
    fun W p i f h1 h2 h3 => ⟨h1, Kd.C_below hr0_0 h2, hc0_0, Kd.C_below hr1_0 h2, hc1_0, Kd.C_below hr2 h2, h3⟩)
  have H1 := Lib.hid (show ∀ W, Below w.heap.size w W → Calls Try.prog 29 #[.agg #[.slice A0_0 l0_0.length c0_0]] W fun e w' => e = .returned (.int .i64 (hall_Check.v l0_0)) ∧ Below W.heap.size W w' from fun W hb => hall_Check.calls A0_0 c0_0 l0_0 _ W (Kd.C_below hr0_0 hb) hc0_0 rfl)
  have H2 := Lib.hid (show ∀ W, Below w.heap.size w W → Calls Try.prog 29 #[.agg #[.slice A1_0 l1_0.length c1_0]] W fun e w' => e = .returned (.int .i64 (hall_Check.v l1_0)) ∧ Below W.heap.size W w' from fun W hb => hall_Check.calls A1_0 c1_0 l1_0 _ W (Kd.C_below hr1_0 hb) hc1_0 rfl)
  clear hr0_0 hc0_0 hr1_0 hc1_0 hr2 HA HCA HB HCB
  obtain ⟨w1, hw1⟩ : ∃ w1, (w.alloc (.cells #[.slice A0_0 l0_0.length c0_0] 29)).alloc (.cells #[.slice A1_0 l1_0.length c1_0] 29) = w1 := ⟨_, rfl⟩
  have HB1 := Lib.hid (show Below w.heap.size w w1 by rw [← hw1]; exact below_alloc (below_alloc (Below.refl _ _) _) _)
  have HX1 := Lib.hid (show w1.heap[w.heap.size]? = some (.cells #[.slice A0_0 l0_0.length c0_0] 29 (0, 0)) by rw [← hw1]; exact blk_alloc (blk_new w _) _)
  have HY1 := Lib.hid (show w1.heap[w.heap.size + 1]? = some (.cells #[.slice A1_0 l1_0.length c1_0] 29 (0, 0)) by rw [← hw1]; simpa using blk_new (w.alloc (.cells #[.slice A0_0 l0_0.length c0_0] 29)) (.cells #[.slice A1_0 l1_0.length c1_0] 29))
  have hc1 : w1.cell? ⟨w.heap.size, 0, none⟩ = some (.slice A0_0 l0_0.length c0_0) := cell_of_row _ _ 0 _ _ _ HX1.out
  have hc2' : w1.cell? ⟨w.heap.size + 1, 0, none⟩ = some (.slice A1_0 l1_0.length c1_0) := cell_of_row _ _ 0 _ _ _ HY1.out
  go_enter Try.func11, Try.ntmps11
  go_wp2_with fail
  clear hw1
  refine (H1.out _ HB1.out).mono ?_
  rintro e w2 ⟨rfl, hb2⟩
  have HB2 := Lib.hid (below_then HB1.out HB1.out.size hb2)
  have HX2 := Lib.hid (blk_below HX1.out hb2)
  have HY2 := Lib.hid (blk_below HY1.out hb2)
  clear hb2 hc1 hc2' HX1 HY1 HB1
  have hx0 : w2.cell? ⟨w.heap.size, 0, none⟩ = some (.slice A0_0 l0_0.length c0_0) := cell_of_row _ _ 0 _ _ _ HX2.out
  have hy0 : w2.cell? ⟨w.heap.size + 1, 0, none⟩ = some (.slice A1_0 l1_0.length c1_0) := cell_of_row _ _ 0 _ _ _ HY2.out
  by_cases ha : hall_Check.v l0_0 = 0
  · rw [ha]
    have HAZ := Lib.hid ha
    clear ha
    go_wp2_with fail
    refine (H2.out _ HB2.out).mono ?_
    rintro e w3 ⟨rfl, hb3⟩
    have HB3 := Lib.hid (below_then HB2.out HB2.out.size hb3)
    have HX3 := Lib.hid (blk_below HX2.out hb3)
    have HY3 := Lib.hid (blk_below HY2.out hb3)
    clear hb3 hx0 hy0 HX2 HY2 HB2
    have hx0 : w3.cell? ⟨w.heap.size, 0, none⟩ = some (.slice A0_0 l0_0.length c0_0) := cell_of_row _ _ 0 _ _ _ HX3.out
    have hy0 : w3.cell? ⟨w.heap.size + 1, 0, none⟩ = some (.slice A1_0 l1_0.length c1_0) := cell_of_row _ _ 0 _ _ _ HY3.out
    by_cases hbz : hall_Check.v l1_0 = 0
    · rw [hbz]
      have HV2 := Lib.hid (show chk l0_0 l1_0 l2 l2 0 (fun _ => false) = (r1, r2) by
        have := HV.out
        unfold remap_Check.v at this
        rw [if_neg (by rw [HAZ.out, hbz]; simp)] at this
        exact this)
      clear hbz HV HAZ
      go_wp2_with fail
      generalize hw4 : World.alloc _ _ = w4
      have HC4 := Lib.hid (show ChkAt w w4 w3.heap.size (w3.heap.size + 1) (.slice A0_0 l0_0.length c0_0) (.slice A1_0 l1_0.length c1_0) (.slice A2 l2.length c2) 0 (fun _ => false) by
        rw [← hw4]
        refine ⟨?_, ?_, below_alloc (below_alloc HB3.out _) _⟩
        · rw [← made65]; exact blk_alloc (blk_new w3 _) _
        · have := blk_new (w3.alloc (.cells (((Try.zeroCells65.setIfInBounds 0 (.slice A0_0 l0_0.length c0_0)).setIfInBounds 1 (.slice A1_0 l1_0.length c1_0)).setIfInBounds 2 (.slice A2 l2.length c2)) 65)) (.cells (askCells w3.heap.size) 68)
          rw [World.size_alloc] at this
          exact this)
      generalize Value.agg (((Try.zeroCells65.setIfInBounds 0 (.slice A0_0 l0_0.length c0_0)).setIfInBounds 1 (.slice A1_0 l1_0.length c1_0)).setIfInBounds 2 (.slice A2 l2.length c2)) = dead1
      clear hw4 hx0 hy0 HX3 HY3
      obtain ⟨p, hp⟩ : ∃ p, w3.heap.size = p := ⟨_, rfl⟩
      obtain ⟨q, hq⟩ : ∃ q, w3.heap.size + 1 = q := ⟨_, rfl⟩
      rw [hq]
      rw [hq] at HC4
      have HPW := Lib.hid (show w.heap.size ≤ p by rw [← hp]; exact HB3.out.size)
      have hpq1 : ¬ p = q := by omega
      have hpq2 : ¬ q = p := by omega
      rw [hp] at HC4 ⊢
      clear hp hq HB3
      obtain ⟨n, hn⟩ : ∃ n, l2.length = n := ⟨_, rfl⟩
      rw [hn] at HC4 HPL HL hmx ⊢
      have HN := Lib.hid hn
      clear hn
      go_loopg [40] n (fun kq v40 wr => ∃ (i at_ : Nat) (f : Nat → Bool), kq = n - i ∧ v40 = .int .i64 i ∧ i ≤ n ∧ Hid (ChkAt w wr p q (.slice A0_0 l0_0.length c0_0) (.slice A1_0 l1_0.length c1_0) (.slice A2 n c2) at_ f) ∧ Hid (chk l0_0 l1_0 l2 (l2.drop i) i f = (r1, r2)))
      case atStart => exact ⟨0, 0, _, rfl, rfl, Nat.zero_le _, HC4, Lib.hid HV2.out⟩
      case round =>
        clear HC4 HV2
        obtain ⟨i, at_, f, hkq, rfl, hi, HC, HK⟩ := hrel
        by_cases hlt : i < n
        · have dn : decide ((i : Int) < (n : Int)) = true := decide_eq_true (by omega)
          obtain ⟨x, hx⟩ : ∃ x, l2[i]? = some x := ⟨_, List.getElem?_eq_getElem (by rw [HN.out]; exact hlt)⟩
          have HX := Lib.hid hx
          have HDR := Lib.hid (show l2.drop i = x :: l2.drop (i + 1) by
            rw [List.drop_eq_getElem_cons (by rw [HN.out]; exact hlt), (List.getElem?_eq_some_iff.1 hx).2])
          clear hx
          have c3 : wr.cell? ⟨p, 3, none⟩ = some (.int .i64 (at_ : Int)) := (cell_of_row _ _ 3 _ _ _ HC.out.blk).trans (pcells_3 _ _ _ _ _)
          have f3 : wr.frozen? ⟨p, 3, none⟩ = false := blk_free HC.out.blk 3
          have a0 : wr.cell? ⟨q, 0, none⟩ = _ := cell_of_row _ _ 0 _ _ _ HC.out.asks
          have a1 : wr.cell? ⟨q, 1, none⟩ = _ := cell_of_row _ _ 1 _ _ _ HC.out.asks
          have a2 : wr.cell? ⟨q, 2, none⟩ = _ := cell_of_row _ _ 2 _ _ _ HC.out.asks
          have a3 : wr.cell? ⟨q, 3, none⟩ = _ := cell_of_row _ _ 3 _ _ _ HC.out.asks
          have a4 : wr.cell? ⟨q, 4, none⟩ = _ := cell_of_row _ _ 4 _ _ _ HC.out.asks
          have a5 : wr.cell? ⟨q, 5, none⟩ = _ := cell_of_row _ _ 5 _ _ _ HC.out.asks
          have a6 : wr.cell? ⟨q, 6, none⟩ = _ := cell_of_row _ _ 6 _ _ _ HC.out.asks
          have a7 : wr.cell? ⟨q, 7, none⟩ = _ := cell_of_row _ _ 7 _ _ _ HC.out.asks
          simp [askCells] at a0 a1 a2 a3 a4 a5 a6 a7
          go_wp2_with fail
          obtain ⟨w5, hw5⟩ : ∃ w5, wr.setCell ⟨p, 3, none⟩ (.int .i64 (i : Int)) = w5 := ⟨_, rfl⟩
          rw [hw5]
          have HC5 := Lib.hid (show ChkAt w w5 p q (.slice A0_0 l0_0.length c0_0) (.slice A1_0 l1_0.length c1_0) (.slice A2 n c2) i f by
            rw [← hw5]
            refine ⟨?_, ?_, HC.out.b.setCell HPW.out _⟩
            · have := blk_set HC.out.blk 3 (.int .i64 (i : Int))
              rw [pcells_at] at this
              exact this
            · exact (Below.heap_setCell _ _ _ _ hpq2).trans HC.out.asks)
          clear hw5 c3 f3 a0 a1 a2 a3 a4 a5 a6 a7 HC
          have hav : Value.agg #[.func (.func 30) #[.pointer (some ⟨p, 0, none⟩)] #[], .int .i64 7, .func (.func 31) #[.pointer (some ⟨p, 0, none⟩)] #[], .int .i64 18, .func (.func 32) #[.pointer (some ⟨p, 0, none⟩)] #[], .int .i64 24, .func (.func 33) #[.pointer (some ⟨p, 0, none⟩)] #[], .int .i64 20] = askV p := rfl
          rw [hav]
          clear hav
          obtain ⟨wo, hwo⟩ : ∃ wo : World, wo = wr := ⟨_, rfl⟩
          clear hwo
          go_loopg [47] 4 (fun kq v47 wx => ∃ (k : Nat) (f' : Nat → Bool), kq = 4 - k ∧ v47 = .int .i64 k ∧ k ≤ 4 ∧ Hid (ChkAt w wx p q (.slice A0_0 l0_0.length c0_0) (.slice A1_0 l1_0.length c1_0) (.slice A2 n c2) i f') ∧ Hid (Asked l0_0 l1_0 l2 i x f f' k))
          case atStart => exact ⟨0, f, rfl, rfl, by omega, HC5, Lib.hid ⟨fun h => absurd h (by omega), fun h => absurd h (by omega), fun h => absurd h (by omega), fun h => absurd h (by omega), fun _ => rfl, fun h => absurd h (by omega)⟩⟩
          case round =>
            clear HC5
            obtain ⟨k, f', hkq2, rfl, hk, HC, HA⟩ := hrel
            have i0 := ask0 p
            have i1 := ask1 p
            have i2 := ask2 p
            have i3 := ask3 p
            obtain hk0 | hk1 | hk2 | hk3 | hk4 : k = 0 ∨ k = 1 ∨ k = 2 ∨ k = 3 ∨ k = 4 := by omega
            · subst hk0
              go_wp2_with fail
              have HC6 := Lib.hid (HC.out.below (below_alloc (Below.refl _ wr) (.cells #[.func (.func 30) #[.pointer (some ⟨p, 0, none⟩)] #[], .int .i64 7] 67)))
              have HX6 := Lib.hid (blk_new wr (.cells #[.func (.func 30) #[.pointer (some ⟨p, 0, none⟩)] #[], .int .i64 7] 67))
              refine (rises_calls (HPL.out _ p i f' HC6.out.blk HC6.out.b hlt)).mono ?_
              rintro e w7 ⟨rfl, hb7⟩
              have HC7 := Lib.hid (HC6.out.below hb7)
              have HX7 := Lib.hid (blk_below HX6.out hb7)
              clear hb7
              obtain ⟨b, hb⟩ : ∃ b, risesAt l2 i = b := ⟨_, rfl⟩
              rw [hb]
              have HBB := Lib.hid hb
              clear hb
              cases b with
              | true =>
                go_wp2_with fail
                go_roundg (4 - 1)
                case measure => omega
                case rel => exact ⟨1, f', rfl, by go_num, by omega, HC7, Lib.hid ⟨fun _ => HBB.out, fun h => absurd h (by omega), fun h => absurd h (by omega), fun h => absurd h (by omega), fun h => HA.out.m0 (by omega), fun h => absurd h (by omega)⟩⟩
              | false =>
                have h := HK.out
                rw [HDR.out, chk] at h
                rw [if_pos HBB.out] at h
                simp only [Prod.mk.injEq] at h
                obtain ⟨rfl, rfl⟩ := h
                have e3 : w7.cell? ⟨p, 3, none⟩ = some (.int .i64 (i : Int)) := (cell_of_row _ _ 3 _ _ _ HC7.out.blk).trans (pcells_3 _ _ _ _ _)
                have e1 : w7.cell? ⟨wr.heap.size, 1, none⟩ = some (.int .i64 7) := cell_of_row _ _ 1 _ _ _ HX7.out
                go_wp2_with fail
                go_quiet (fail)
                go_wp2_with fail
                go_ret2
                exact ⟨rfl, pw_below_drewN HC7.out.b _⟩
            · subst hk1
              go_wp2_with fail
              have HC6 := Lib.hid (HC.out.below (below_alloc (Below.refl _ wr) (.cells #[.func (.func 31) #[.pointer (some ⟨p, 0, none⟩)] #[], .int .i64 18] 67)))
              have HX6 := Lib.hid (blk_new wr (.cells #[.func (.func 31) #[.pointer (some ⟨p, 0, none⟩)] #[], .int .i64 18] 67))
              refine (there_calls (HPL.out _ p i f' HC6.out.blk HC6.out.b hlt) HX.out).mono ?_
              rintro e w7 ⟨rfl, hb7⟩
              have HC7 := Lib.hid (HC6.out.below hb7)
              have HX7 := Lib.hid (blk_below HX6.out hb7)
              clear hb7
              obtain ⟨b, hb⟩ : ∃ b, thereAt l0_0 l1_0 x = b := ⟨_, rfl⟩
              rw [hb]
              have HBB := Lib.hid hb
              clear hb
              cases b with
              | true =>
                go_wp2_with fail
                go_roundg (4 - 2)
                case measure => omega
                case rel => exact ⟨2, f', rfl, by go_num, by omega, HC7, Lib.hid ⟨fun _ => HA.out.a0 (by omega), fun _ => HBB.out, fun h => absurd h (by omega), fun h => absurd h (by omega), fun h => HA.out.m0 (by omega), fun h => absurd h (by omega)⟩⟩
              | false =>
                have h := HK.out
                rw [HDR.out, chk] at h
                rw [if_neg (by rw [HA.out.a0 (by omega)]; simp), if_pos HBB.out] at h
                simp only [Prod.mk.injEq] at h
                obtain ⟨rfl, rfl⟩ := h
                have e3 : w7.cell? ⟨p, 3, none⟩ = some (.int .i64 (i : Int)) := (cell_of_row _ _ 3 _ _ _ HC7.out.blk).trans (pcells_3 _ _ _ _ _)
                have e1 : w7.cell? ⟨wr.heap.size, 1, none⟩ = some (.int .i64 18) := cell_of_row _ _ 1 _ _ _ HX7.out
                go_wp2_with fail
                go_quiet (fail)
                go_wp2_with fail
                go_ret2
                exact ⟨rfl, pw_below_drewN HC7.out.b _⟩
            · subst hk2
              go_wp2_with fail
              have HC6 := Lib.hid (HC.out.below (below_alloc (Below.refl _ wr) (.cells #[.func (.func 32) #[.pointer (some ⟨p, 0, none⟩)] #[], .int .i64 24] 67)))
              have HX6 := Lib.hid (blk_new wr (.cells #[.func (.func 32) #[.pointer (some ⟨p, 0, none⟩)] #[], .int .i64 24] 67))
              have hth := there_range (HA.out.a1 (by omega))
              obtain ⟨j, hj⟩ := Int.eq_ofNat_of_zero_le hth.1
              have HJ := Lib.hid hj
              have hj64 : j < 64 := by omega
              obtain rfl := HA.out.m0 (by omega)
              refine (once_calls (HPL.out _ p i f' HC6.out.blk HC6.out.b hlt) HX.out hj hj64).mono ?_
              rintro e w7 ⟨rfl, hg7, hp7⟩
              rw [HN.out] at hp7
              have HC7 := Lib.hid (show ChkAt w w7 p q (.slice A0_0 l0_0.length c0_0) (.slice A1_0 l1_0.length c1_0) (.slice A2 n c2) i (mark f' j) from ⟨hp7, (hg7.block q (blk_lt HC6.out.asks) (by simpa using hpq2)).trans HC6.out.asks, grown_below HC6.out.b hg7 HPW.out HC6.out.b.size⟩)
              have HX7 := Lib.hid ((hg7.block wr.heap.size (blk_lt HX6.out) (by have := blk_lt HC.out.blk; simp; omega)).trans HX6.out)
              clear hg7 hp7 hth hj
              obtain ⟨b, hb⟩ : ∃ b, f' j = b := ⟨_, rfl⟩
              rw [hb]
              have HBB := Lib.hid hb
              clear hb
              cases b with
              | false =>
                go_wp2_with fail
                go_roundg (4 - 3)
                case measure => omega
                case rel => exact ⟨3, mark f' j, rfl, by go_num, by omega, HC7, Lib.hid ⟨fun _ => HA.out.a0 (by omega), fun _ => HA.out.a1 (by omega), fun _ => by rw [HJ.out]; exact HBB.out, fun h => absurd h (by omega), fun h => absurd h (by omega), fun _ => by rw [HJ.out]; rfl⟩⟩
              | true =>
                have h := HK.out
                rw [HDR.out, chk] at h
                rw [if_neg (by rw [HA.out.a0 (by omega)]; simp), if_neg (by rw [HA.out.a1 (by omega)]; simp), if_pos (by rw [HJ.out]; exact HBB.out)] at h
                simp only [Prod.mk.injEq] at h
                obtain ⟨rfl, rfl⟩ := h
                have e3 : w7.cell? ⟨p, 3, none⟩ = some (.int .i64 (i : Int)) := (cell_of_row _ _ 3 _ _ _ HC7.out.blk).trans (pcells_3 _ _ _ _ _)
                have e1 : w7.cell? ⟨wr.heap.size, 1, none⟩ = some (.int .i64 24) := cell_of_row _ _ 1 _ _ _ HX7.out
                go_wp2_with fail
                go_quiet (fail)
                go_wp2_with fail
                go_ret2
                exact ⟨rfl, pw_below_drewN HC7.out.b _⟩
            · subst hk3
              go_wp2_with fail
              have HC6 := Lib.hid (HC.out.below (below_alloc (Below.refl _ wr) (.cells #[.func (.func 33) #[.pointer (some ⟨p, 0, none⟩)] #[], .int .i64 20] 67)))
              have HX6 := Lib.hid (blk_new wr (.cells #[.func (.func 33) #[.pointer (some ⟨p, 0, none⟩)] #[], .int .i64 20] 67))
              refine (alike_calls (HPL.out _ p i f' HC6.out.blk HC6.out.b hlt) HX.out).mono ?_
              rintro e w7 ⟨rfl, hb7⟩
              have HC7 := Lib.hid (HC6.out.below hb7)
              have HX7 := Lib.hid (blk_below HX6.out hb7)
              clear hb7
              obtain ⟨b, hb⟩ : ∃ b, alikeAt l0_0 l1_0 x = b := ⟨_, rfl⟩
              rw [hb]
              have HBB := Lib.hid hb
              clear hb
              cases b with
              | true =>
                go_wp2_with fail
                go_roundg (4 - 4)
                case measure => omega
                case rel => exact ⟨4, f', rfl, by go_num, by omega, HC7, Lib.hid ⟨fun _ => HA.out.a0 (by omega), fun _ => HA.out.a1 (by omega), fun _ => HA.out.a2 (by omega), fun _ => HBB.out, fun h => absurd h (by omega), fun h => HA.out.m1 (by omega)⟩⟩
              | false =>
                have h := HK.out
                rw [HDR.out, chk] at h
                rw [if_neg (by rw [HA.out.a0 (by omega)]; simp), if_neg (by rw [HA.out.a1 (by omega)]; simp), if_neg (by rw [HA.out.a2 (by omega)]; simp), if_pos HBB.out] at h
                simp only [Prod.mk.injEq] at h
                obtain ⟨rfl, rfl⟩ := h
                have e3 : w7.cell? ⟨p, 3, none⟩ = some (.int .i64 (i : Int)) := (cell_of_row _ _ 3 _ _ _ HC7.out.blk).trans (pcells_3 _ _ _ _ _)
                have e1 : w7.cell? ⟨wr.heap.size, 1, none⟩ = some (.int .i64 20) := cell_of_row _ _ 1 _ _ _ HX7.out
                go_wp2_with fail
                go_quiet (fail)
                go_wp2_with fail
                go_ret2
                exact ⟨rfl, pw_below_drewN HC7.out.b _⟩
            · subst hk4
              have HK2 := Lib.hid (show chk l0_0 l1_0 l2 (l2.drop (i + 1)) (i + 1) f' = (r1, r2) by
                have h := HK.out
                rw [HDR.out, chk, if_neg (by rw [HA.out.a0 (by omega)]; simp), if_neg (by rw [HA.out.a1 (by omega)]; simp), if_neg (by rw [HA.out.a2 (by omega)]; simp), if_neg (by rw [HA.out.a3 (by omega)]; simp), ← HA.out.m1 (by omega)] at h
                exact h)
              go_wp2_with fail
              go_roundg (n - (i + 1))
              case measure => omega
              case rel => exact ⟨i + 1, i, f', rfl, by go_num, by omega, HC, HK2⟩
        · have dn : decide ((i : Int) < (n : Int)) = false := decide_eq_false (by omega)
          have he : ((-1 : Int), (0 : Int)) = (r1, r2) := by
            have := HK.out
            rw [List.drop_eq_nil_of_le (by rw [HN.out]; omega)] at this
            exact this
          simp only [Prod.mk.injEq] at he
          obtain ⟨rfl, rfl⟩ := he
          go_wp2_with fail
          go_ret2
          exact ⟨rfl, HC.out.b⟩
    · have b0 : (hall_Check.v l1_0 != 0) = true := bne_iff_ne.2 hbz
      have HV2 := Lib.hid (show ((-1 : Int), (23 : Int)) = (r1, r2) by
        have := HV.out
        unfold remap_Check.v at this
        rw [if_pos (.inr hbz)] at this
        exact this)
      clear hbz
      go_wp2_with fail
      go_ret2
      have := HV2.out
      simp only [Prod.mk.injEq] at this
      exact ⟨by rw [← this.1, ← this.2]; rfl, HB3.out⟩
  · have b0 : (hall_Check.v l0_0 != 0) = true := bne_iff_ne.2 ha
    have HV2 := Lib.hid (show ((-1 : Int), (23 : Int)) = (r1, r2) by
      have := HV.out
      unfold remap_Check.v at this
      rw [if_pos (.inl ha)] at this
      exact this)
    clear ha
    go_wp2_with fail
    go_ret2
    have := HV2.out
    simp only [Prod.mk.injEq] at this
    exact ⟨by rw [← this.1, ← this.2]; rfl, HB2.out⟩
end Go.Proofs.Yteojldbfebnccaa
