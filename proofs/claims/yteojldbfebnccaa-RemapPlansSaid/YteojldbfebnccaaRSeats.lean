/- The iterator of a hall's seats: whatever a loop's rounds keep, they keep over all seats, or the loop is left at one. -/
import Derived.RangeFuncRecord
import Derived.RangeFuncCalls
import Derived.RangeFuncBox
import Derived.WalkKit
import Derived.OwnWalkIn
import Derived.TacticsInMore
import Derived.LoopNIn
import Derived.LoopIn
import Derived.Lib.Hide
import Derived.Test.YteojldbfebnccaaRHall
namespace Go.Proofs.Yteojldbfebnccaa
open Go.RowKit Go.Proofs.YteojldbfebnccaaW.PrintWords Go.Proofs.YteojldbfebnccaaW.PrintMore
attribute [local go_sem] min2_int min_two
attribute [local go_sem] Oper.semAt_some
set_option linter.unusedVariables false
def bitB (m : Int) (k : Nat) : Bool := Go.bits .and .u8 (m / 2 ^ k) 1 == 1
/-- a row's seats, the first k places -/
def rs (i : Nat) (x : S61) (k : Nat) : List (Int × Int) := ((List.range k).filter fun p : Nat => bitB x.f1 p).map fun p : Nat => (8 * (i : Int) + (p : Int), x.f0)
theorem rs_zero (i : Nat) (x : S61) : rs i x 0 = [] := rfl
theorem rs_true {i : Nat} {x : S61} {k : Nat} (h : bitB x.f1 k = true) : rs i x (k + 1) = rs i x k ++ [(8 * (i : Int) + (k : Int), x.f0)] := by
  unfold rs; rw [List.range_succ, List.filter_append]; simp [h]
theorem rs_false {i : Nat} {x : S61} {k : Nat} (h : bitB x.f1 k = false) : rs i x (k + 1) = rs i x k := by
  unfold rs; rw [List.range_succ, List.filter_append]; simp [h]
theorem rs_pre (i : Nat) (x : S61) {k m : Nat} (h : k ≤ m) : rs i x k <+: rs i x m := by
  induction m with
  | zero => obtain rfl : k = 0 := by omega
            exact List.prefix_refl _
  | succ m ih =>
    rcases Nat.lt_or_ge m k with h1 | h1
    · obtain rfl : k = m + 1 := by omega
      exact List.prefix_refl _
    · refine (ih h1).trans ?_
      cases hb : bitB x.f1 m with
      | true => rw [rs_true hb]; exact List.prefix_append _ _
      | false => rw [rs_false hb]; exact List.prefix_refl _
/-- the seats of the first n rows -/
def sl (l : List S61) (n : Nat) : List (Int × Int) := (List.range n).flatMap fun i => rs i (rd_T61 l (i : Int)) 8
theorem sl_zero (l : List S61) : sl l 0 = [] := rfl
theorem sl_succ (l : List S61) (n : Nat) : sl l (n + 1) = sl l n ++ rs n (rd_T61 l (n : Int)) 8 := by unfold sl; rw [List.range_succ, List.flatMap_append]; simp
theorem sl_pre (l : List S61) {k m : Nat} (h : k ≤ m) : sl l k <+: sl l m := by
  induction m with
  | zero => obtain rfl : k = 0 := by omega
            exact List.prefix_refl _
  | succ m ih =>
    rcases Nat.lt_or_ge m k with h1 | h1
    · obtain rfl : k = m + 1 := by omega
      exact List.prefix_refl _
    · rw [sl_succ]; exact (ih h1).trans (List.prefix_append _ _)
def seatsL (l : List S61) : List (Int × Int) := sl l (min l.length 8)
set_option maxRecDepth 100000 in
set_option maxHeartbeats 4000000 in
theorem seats_iter (n n' S y N : Nat) (A : Option Addr) (c : Nat) (rows : List S61) (hc : rows.length ≤ c) (fn : FuncId) (assign body : Code)
    (Inv : List (Int × Int) → World → Prop) (Fin : List (Int × Int) → Int → Int → World → Prop)
    (hinv : ∀ done W, Inv done W → W.heap[S]? = some (.cells #[.slice A rows.length c] 29 (0, 0)) ∧ Kd.C k61 W A rows.length rows ∧ N ≤ W.heap.size)
    (hbel : ∀ done W W', Inv done W → Below W.heap.size W W' → Inv done W')
    (hround : ∀ done s cl W, Inv done W → (done ++ [(s, cl)]) <+: seatsL rows → ∃ tm', (Instr.yield y #[.int .i64 s, .int .i64 cl]).run Try.prog W = .ok (.round y fn tm' assign body) W ∧
      RoundIn Fence.wide (n - 1) Try.prog y fn tm' assign body W fun e W' => ((e = .returned (.bool true) ∧ Inv (done ++ [(s, cl)]) W') ∨ (e = .returned (.bool false) ∧ Fin done s cl W')) ∧ (∀ (k : Nat) (cs : Array Value) (fr : Nat × Nat), N ≤ k → W.heap[k]? = some (.cells cs 61 fr) → W'.heap[k]? = W.heap[k]?) ∧ W.heap.size ≤ W'.heap.size)
    (W : World) (h0 : Inv [] W) :
    CallsIn Fence.wide n Try.prog 54 #[.func (.yield y) #[] #[], .pointer (some ⟨S, 0, none⟩)] W
      fun e W' => (∃ v, e = .returned v) ∧ (Inv (seatsL rows) W' ∨ ∃ done s cl, (done ++ [(s, cl)]) <+: seatsL rows ∧ Fin done s cl W') := by
  have HI := Lib.hid h0
  have HINV := Lib.hid hinv
  have HBEL := Lib.hid hbel
  have HRD := Lib.hid hround
  clear h0 hinv hbel hround
  obtain ⟨h1, h2, h3⟩ := HINV.out _ _ HI.out
  have hmx := Kd.C_max h2
  have h4 : W.cell? ⟨S, 0, none⟩ = some (.slice A rows.length c) := cell_of_row _ _ 0 _ _ _ h1
  obtain ⟨m, hm1, hm2, hm3, hmin⟩ : ∃ m : Nat, m ≤ rows.length ∧ m ≤ 8 ∧ min rows.length 8 = m ∧ (if (8 : Int) < (rows.length : Int) then (8 : Int) else (rows.length : Int)) = (m : Int) := by
    refine ⟨min rows.length 8, by omega, by omega, rfl, ?_⟩
    split <;> omega
  obtain ⟨i0, hi0, _⟩ : ∃ i0, Try.prog.info? 61 = some i0 ∧ i0.size = 2 := ⟨_, rfl, by kernel_rfl⟩
  have hcut := cut_to (P := Try.prog) 27 61 .i64 Try.underlying27 hi0 A rows.length c (m : Int) (by omega) (by omega) hc
  simp only [Int.toNat_natCast] at hcut
  have HM3 := Lib.hid hm3
  have HH := Lib.hid h1
  clear h1 h2 h3 hm3
  refine callsIn_of_wp Try.func54 rfl trivial ?_ rfl
  simp only [Try.ntmps54, List.size_toArray, List.length_cons, List.length_nil, Nat.reduceAdd, Nat.reduceSub, Array.replicate_succ, Array.replicate_zero, List.push_toArray, List.append_toArray, List.nil_append, List.cons_append]
  gi_wp2
  have hi8 : (m : Int) ≤ 8 := by omega
  clear hcut h4 hmin
  gi_loopw [14] (fun v14 wr => ∃ i : Nat, v14 = .int .i64 i ∧ i ≤ m ∧ Hid (Inv (sl rows i) wr)) (fun v _ => m - (intOf v).toNat)
  case atStart => exact ⟨0, rfl, Nat.zero_le _, HI⟩
  case round =>
    clear HI
    obtain ⟨i, rfl, hi, HI⟩ := hrel
    by_cases hlt : i < m
    · have p0 : (0 : Int) ≤ (i : Int) := by omega
      have q0 : (i : Int) < (m : Int) := by omega
      obtain ⟨g1, g2, g3⟩ := HINV.out _ _ HI.out
      have HG3 := Lib.hid g3
      obtain ⟨ad, ea, hx0, hx1⟩ := at_T61 g2 (i : Int) p0 (by omega)
      cases ea
      obtain ⟨x, hx⟩ : ∃ x, rd_T61 rows (i : Int) = x := ⟨_, rfl⟩
      rw [hx] at hx0 hx1
      have HX := Lib.hid hx
      simp only [Int.toNat_natCast] at hx0 hx1
      clear hx g1 g2 g3
      gi_wp2
      obtain ⟨w4, hw4⟩ : ∃ w4, wr.alloc (.cells #[.int .i64 x.f0, .int .u8 x.f1] 61) = w4 := ⟨_, rfl⟩
      rw [hw4]
      have HP4 := Lib.hid (show w4.heap[wr.heap.size]? = some (.cells #[.int .i64 x.f0, .int .u8 x.f1] 61 (0, 0)) by rw [← hw4]; exact blk_new wr _)
      have HI4 := Lib.hid (show Inv (sl rows i ++ rs i x 0) w4 by
        rw [rs_zero, List.append_nil]
        refine HBEL.out _ _ _ HI.out ?_
        rw [← hw4]; exact below_alloc (Below.refl _ _) _)
      obtain ⟨P, hP⟩ : ∃ P, wr.heap.size = P := ⟨_, rfl⟩
      rw [hP] at HP4
      have HPN := Lib.hid (show N ≤ P by rw [← hP]; exact HG3.out)
      rw [hP]
      clear hw4 hP hx0 hx1 HI HG3
      obtain ⟨wo, hwo⟩ : ∃ wo : World, wo = wr := ⟨_, rfl⟩
      clear hwo
      gi_loopw [19] (fun v19 wx => ∃ k : Nat, v19 = .int .i64 k ∧ k ≤ 8 ∧ Hid (Inv (sl rows i ++ rs i x k) wx) ∧ Hid (wx.heap[P]? = some (.cells #[.int .i64 x.f0, .int .u8 x.f1] 61 (0, 0)))) (fun v _ => 8 - (intOf v).toNat)
      case atStart => exact ⟨0, rfl, by omega, HI4, HP4⟩
      case round =>
        clear HI4 HP4
        obtain ⟨k, rfl, hk, HI, HP⟩ := hrel
        have c0 : wr.cell? ⟨P, 0, none⟩ = some (.int .i64 x.f0) := cell_of_row _ _ 0 _ _ _ HP.out
        have c1 : wr.cell? ⟨P, 1, none⟩ = some (.int .u8 x.f1) := cell_of_row _ _ 1 _ _ _ HP.out
        by_cases hk8 : k < 8
        · have k0 : (0 : Int) ≤ (k : Int) := by omega
          have k1 : (k : Int) < 8 := by omega
          cases hbit : bitB x.f1 k with
          | true =>
            have hb1 : (Go.bits .and .u8 (x.f1 / 2 ^ k) 1 == 1) = true := hbit
            have hpre : sl rows i ++ rs i x k ++ [(8 * (i : Int) + (k : Int), x.f0)] <+: seatsL rows := by
              rw [List.append_assoc, ← rs_true hbit]
              refine List.IsPrefix.trans ?_ (sl_pre rows (show i + 1 ≤ min rows.length 8 by rw [HM3.out]; omega))
              rw [sl_succ, HX.out]
              obtain ⟨t, ht⟩ := rs_pre i x (show k + 1 ≤ 8 by omega)
              exact ⟨t, by rw [List.append_assoc, ht]⟩
            obtain ⟨tm', hy1, hrd⟩ := HRD.out _ _ _ _ HI.out hpre
            have HBIT := Lib.hid hbit
            have HRD1 := Lib.hid hrd
            have HPRE := Lib.hid hpre
            clear hbit hrd hpre
            gi_wp2_with fail
            refine ⟨fun hh => (by cases hh), ?_⟩
            refine HRD1.out.mono ?_
            rintro e w5 ⟨⟨rfl, hi5⟩ | ⟨rfl, hf5⟩, hk5, hs5⟩
            · have HI5 := Lib.hid hi5
              have HP5 := Lib.hid ((hk5 P _ _ HPN.out HP.out).trans HP.out)
              clear hi5 hk5 hs5 hy1 c0 c1
              gi_wp2
              go_roundw
              case rel => exact ⟨k + 1, by go_num, by omega, by rw [rs_true HBIT.out, ← List.append_assoc]; exact HI5, HP5⟩
              case measure => simp [intOf]; omega
            · have HF5 := Lib.hid hf5
              clear hf5 hk5 hs5 hy1 c0 c1
              gi_wp2
              refine bodyPost_ret (results_none (by kernel_rfl) _ _ _) rfl ?_
              exact ⟨⟨_, rfl⟩, .inr ⟨_, _, _, HPRE.out, HF5.out⟩⟩
          | false =>
            have hb1 : (Go.bits .and .u8 (x.f1 / 2 ^ k) 1 == 1) = false := hbit
            have HBIT := Lib.hid hbit
            clear hbit
            gi_wp2_with fail
            refine ⟨fun _ h => (by cases h), ?_⟩
            gi_wp2
            go_roundw
            case rel => exact ⟨k + 1, by go_num, by omega, by rw [rs_false HBIT.out]; exact HI, HP⟩
            case measure => simp [intOf]; omega
        · have d8 : decide ((k : Int) < 8) = false := decide_eq_false (by omega)
          have HI8 := Lib.hid (show Inv (sl rows (i + 1)) wr by
            rw [sl_succ, HX.out, show (8 : Nat) = k by omega]
            exact HI.out)
          clear HI HP
          gi_wp2
          go_roundw
          case rel => exact ⟨i + 1, by go_num, by omega, HI8⟩
          case measure => simp [intOf]; omega
    · have dm : decide ((i : Int) < (m : Int)) = false := decide_eq_false (by omega)
      gi_wp2
      go_end0
      refine ⟨⟨_, rfl⟩, .inl ?_⟩
      unfold seatsL
      rw [HM3.out, show m = i by omega]
      exact HI.out
end Go.Proofs.Yteojldbfebnccaa
