/- hall.Check: may a hall be? -/
import Derived.Test.YteojldbfebnccaaBasex
import Derived.WalkKit
import Derived.Lib.Hide
namespace Go.Proofs.Yteojldbfebnccaa
open Go.RowKit Go.Proofs.YteojldbfebnccaaW.PrintWords
set_option linter.unusedVariables false
set_option maxRecDepth 100000
def okRow (x : S61) : Bool := if x.f0 ≥ 0 then (if x.f0 ≤ 2 then x.f1 != 0 else false) else false
def hall_Check.v (l : List S61) : Int := if l.length = 0 ∨ 8 < l.length then 23 else if l.all okRow then 0 else 23
def hall_Check.f (l0 : List S61) : Option Int := some (hall_Check.v l0)
theorem may_eq (x : S61) : hall_row_may.f x.f0 x.f1 = some (okRow x) := by
  unfold hall_row_may.f okRow
  split
  · split <;> rfl
  · rfl
theorem rd61 {l : List S61} {i : Nat} (h : i < l.length) : l[i]? = some (rd_T61 l (i : Int)) := by
  unfold rd_T61
  simp [List.getD, List.getElem?_eq_getElem h]
set_option maxHeartbeats 2000000 in
theorem hall_Check.calls (A0_0 : Option Addr) (c0_0 : Nat) (l0_0 : List S61) (r : Int) (w : World) (hr0_0 : Kd.C k61 w A0_0 l0_0.length l0_0) (hc0_0 : l0_0.length ≤ c0_0) (h : hall_Check.f l0_0 = some r) :
    Calls Try.prog 29 #[.agg #[.slice A0_0 l0_0.length c0_0]] w fun e w' => e = .returned (.int .i64 r) ∧ Below w.heap.size w w' := by
  obtain rfl := Option.some.inj h
  clear h
  obtain ⟨n, hn⟩ : ∃ n, l0_0.length = n := ⟨_, rfl⟩
  have hmx := Kd.C_max hr0_0
  rw [hn] at hr0_0 hc0_0 hmx ⊢
  have HR := Lib.hid hr0_0
  have HN := Lib.hid hn
  clear hr0_0 hn
  have HV : Hid (n = 0 ∨ 8 < n → hall_Check.v l0_0 = 23) := Lib.hid fun h => by unfold hall_Check.v; rw [if_pos (by rw [HN.out]; exact h)]
  obtain ⟨w1, hw1⟩ : ∃ w1, w.alloc (.cells #[.slice A0_0 n c0_0] 29) = w1 := ⟨_, rfl⟩
  have hb1 : Below w.heap.size w w1 := by rw [← hw1]; exact below_alloc (Below.refl _ _) _
  have hx1 : w1.heap[w.heap.size]? = some (.cells #[.slice A0_0 n c0_0] 29 (0, 0)) := by rw [← hw1]; exact blk_new w _
  have HB1 := Lib.hid hb1
  have HX1 := Lib.hid hx1
  have hc1 : w1.cell? ⟨w.heap.size, 0, none⟩ = some (.slice A0_0 n c0_0) := cell_of_row _ _ 0 _ _ _ hx1
  clear hx1 hb1
  by_cases hbad : n = 0 ∨ 8 < n
  · have HBAD := Lib.hid hbad
    by_cases h0 : n = 0
    · have e0 : ((n : Int) == 0) = true := beq_iff_eq.2 (by omega)
      clear hbad h0
      go_enter Try.func29, Try.ntmps29
      go_wp2_with fail
      go_ret
      exact ⟨by rw [HV.out HBAD.out]; rfl, HB1.out⟩
    · have e0 : ((n : Int) == 0) = false := beq_eq_false_iff_ne.2 (by omega)
      have e1 : decide ((8 : Int) < (n : Int)) = true := decide_eq_true (by omega)
      clear hbad h0
      go_enter Try.func29, Try.ntmps29
      go_wp2_with fail
      go_ret
      exact ⟨by rw [HV.out HBAD.out]; rfl, HB1.out⟩
  · have e0 : ((n : Int) == 0) = false := beq_eq_false_iff_ne.2 (by omega)
    have e1 : decide ((8 : Int) < (n : Int)) = false := decide_eq_false (by omega)
    have HBAD := Lib.hid hbad
    clear hbad
    go_enter Try.func29, Try.ntmps29
    go_wp2_with fail
    clear hw1
    go_loopw [19] (fun v19 wr => ∃ i : Nat, v19 = .int .i64 i ∧ i ≤ n ∧ Hid (Below w.heap.size w wr) ∧ Hid (∀ j y, j < i → l0_0[j]? = some y → okRow y = true)) (fun v _ => n - (intOf v).toNat)
    case atStart => exact ⟨0, rfl, Nat.zero_le _, HB1, Lib.hid fun j _ h => by omega⟩
    case round =>
      obtain ⟨i, rfl, hi, HB, HP⟩ := hrel
      by_cases hlt : i < n
      · have p0 : (0 : Int) ≤ (i : Int) := by omega
        have q0 : (i : Int) < (n : Int) := by omega
        obtain ⟨ad, ea, hx0, hx1⟩ := at_T61 HR.out (i : Int) p0 q0
        cases ea
        replace hx0 := pw_cell_below HB.out hx0
        replace hx1 := pw_cell_below HB.out hx1
        obtain ⟨x, hx⟩ : ∃ x, rd_T61 l0_0 (i : Int) = x := ⟨_, rfl⟩
        rw [hx] at hx0 hx1
        have HX := Lib.hid (show l0_0[i]? = some x by rw [← hx]; exact rd61 (by rw [HN.out]; exact hlt))
        simp only [Int.toNat_natCast] at hx0 hx1
        clear hx
        go_wp2_with fail
        refine (hall_row_may.calls x.f0 x.f1 (okRow x) _ (may_eq x)).mono ?_
        rintro e w2 ⟨rfl, hb⟩
        have HB2 := Lib.hid (below_then HB.out HB.out.size (below_then (below_alloc (Below.refl _ _) _) (by simp) hb))
        clear hb HB
        obtain ⟨b, hb⟩ : ∃ b, okRow x = b := ⟨_, rfl⟩
        rw [hb]
        have HPB := Lib.hid hb
        clear hb
        cases b with
        | false =>
          go_wp2_with fail
          go_ret
          have e : hall_Check.v l0_0 = 23 := by
            unfold hall_Check.v
            rw [if_neg (by rw [HN.out]; exact HBAD.out), if_neg]
            intro hall
            have := List.all_eq_true.1 hall x (List.mem_of_getElem? HX.out)
            rw [HPB.out] at this
            cases this
          exact ⟨by rw [e]; rfl, HB2.out⟩
        | true =>
          go_wp2_with fail
          go_roundw
          case rel =>
            refine ⟨i + 1, by go_num, by omega, HB2, Lib.hid fun j y hj hy => ?_⟩
            rcases Nat.lt_or_ge j i with h | h
            · exact HP.out j y h hy
            · obtain rfl : j = i := by omega
              rw [HX.out] at hy
              cases hy
              exact HPB.out
          case measure => simp [intOf]; omega
      · have d0 : decide ((i : Int) < (n : Int)) = false := decide_eq_false (by omega)
        go_wp2_with fail
        go_ret
        have e : hall_Check.v l0_0 = 0 := by
          unfold hall_Check.v
          rw [if_neg (by rw [HN.out]; exact HBAD.out), if_pos (List.all_eq_true.2 fun x hx => by
            obtain ⟨j, hj⟩ := List.getElem?_of_mem hx
            exact HP.out j x (by have := (List.getElem?_eq_some_iff.1 hj).1; have := HN.out; omega) hj)]
        exact ⟨by rw [e]; rfl, HB.out⟩
end Go.Proofs.Yteojldbfebnccaa
