/- remap.Back: the moves the other way, in the stable order of their seats. -/
import Derived.Test.YteojldbfebnccaaRStb
import Derived.Test.YteojldbfebnccaaRBackP
namespace Go.Proofs.Yteojldbfebnccaa
open Go.RowKit Go.Proofs.YteojldbfebnccaaW Go.Proofs.YteojldbfebnccaaW.PrintWords
set_option linter.unusedVariables false
set_option linter.unusedSimpArgs false
set_option maxRecDepth 100000
/-! ### no moves -/
theorem ins_nil {W : World} : Calls Try.prog 59 #[.slice none 0 0, .int .i64 0, .int .i64 0, fcmp] W fun e w' => (∃ v, e = .returned v) ∧ w' = W := by
  go_enter Try.func59, Try.ntmps59
  go_wp2_with fail
  go_loopw [8] (fun v8 wr => v8 = .int .i64 1 ∧ wr = W) (fun _ _ => 0)
  case atStart => exact ⟨rfl, rfl⟩
  case round =>
    obtain ⟨rfl, rfl⟩ := hrel
    go_wp2_with fail
    go_end0
    exact ⟨⟨_, rfl⟩, rfl⟩
theorem stb_nil {W : World} : Calls Try.prog 51 #[.slice none 0 0, .int .i64 0, fcmp] W fun e w' => (∃ v, e = .returned v) ∧ w' = W := by
  go_enter Try.func51, Try.ntmps51
  go_wp2_with fail
  go_loopw [7, 8] (fun v7 v8 wr => v7 = .int .i64 0 ∧ v8 = .int .i64 20 ∧ wr = W) (fun _ _ _ => 0)
  case atStart => exact ⟨rfl, rfl, rfl⟩
  case round =>
    obtain ⟨rfl, rfl, rfl⟩ := hrel
    go_wp2_with fail
    refine ins_nil.mono ?_
    rintro e w2 ⟨⟨v, rfl⟩, hw⟩
    rw [hw]
    clear hw
    go_wp2_with fail
    go_loopw [6] (fun v6 wx => v6 = .int .i64 20 ∧ wx = wr) (fun _ _ => 0)
    case atStart => exact ⟨rfl, rfl⟩
    case round =>
      obtain ⟨rfl, hx⟩ := hrel
      subst hx
      go_wp2_with fail
      go_end0
      exact ⟨⟨_, rfl⟩, rfl⟩
theorem sort_nil {W : World} : Calls Try.prog 34 #[.slice none 0 0, fcmp] W fun e w' => (∃ v, e = .returned v) ∧ w' = W := by
  go_enter Try.func34, Try.ntmps34
  go_wp2_with fail
  refine stb_nil.mono ?_
  rintro e w2 ⟨⟨v, rfl⟩, hw⟩
  rw [hw]
  clear hw
  go_wp2_with fail
  go_end0
  exact ⟨⟨_, rfl⟩, rfl⟩
variable {SZ : Nat}
theorem sort_calls {W : World} {B n cap : Nat} {g : Nat → S49} (h : MRow SZ W B n g) (hn : n ≤ 100000) :
    Calls Try.prog 34 #[.slice (some ⟨B, 0, none⟩) n cap, fcmp] W fun e w' => (∃ v, e = .returned v) ∧ ∃ g', MRow SZ w' B n g' ∧ Stb g g' 0 n ∧ Up g' 0 n ∧ W.grownBy w' (some B) := by
  have HM := Lib.hid h
  clear h
  go_enter Try.func34, Try.ntmps34
  go_wp2_with fail
  refine (stb_calls HM.out hn).mono ?_
  rintro e w2 ⟨⟨v, rfl⟩, g2, hm, hs, hu, hg⟩
  have HM2 := Lib.hid hm
  have HS2 := Lib.hid hs
  have HU2 := Lib.hid hu
  have HG2 := Lib.hid hg
  clear hm hs hu hg
  go_wp2_with fail
  go_end0
  exact ⟨⟨_, rfl⟩, g2, HM2.out, HS2.out, HU2.out, HG2.out⟩
/-! ### the moves the other way -/
def trn (x : S49) : S49 := ⟨x.f1, x.f0⟩
def flat2 (l : List S49) : List Value := l.flatMap fun x => [.int .i64 x.f0, .int .i64 x.f1]
theorem flat2_length (l : List S49) : (flat2 l).length = l.length * 2 := by
  induction l with
  | nil => rfl
  | cons a r ih => simp [flat2] at ih ⊢; omega
theorem flat2_snoc (l : List S49) (x : S49) : flat2 (l ++ [x]) = flat2 l ++ [.int .i64 x.f0, .int .i64 x.f1] := by simp [flat2]
theorem flat2_get : ∀ (l : List S49) (i : Nat) (x : S49), l[i]? = some x → (flat2 l)[i * 2]? = some (.int .i64 x.f0) ∧ (flat2 l)[i * 2 + 1]? = some (.int .i64 x.f1)
  | [], i, x, h => by simp at h
  | a :: r, 0, x, h => by simp at h; subst h; simp [flat2]
  | a :: r, i + 1, x, h => by
    have ih := flat2_get r i x (by simpa using h)
    have e : flat2 (a :: r) = [.int .i64 a.f0, .int .i64 a.f1] ++ flat2 r := by simp [flat2]
    rw [e, List.getElem?_append_right (by simp; omega), List.getElem?_append_right (by simp; omega)]
    simp only [List.length_cons, List.length_nil]
    rw [show (i + 1) * 2 - (0 + 1 + 1) = i * 2 by omega, show (i + 1) * 2 + 1 - (0 + 1 + 1) = i * 2 + 1 by omega]
    exact ih
theorem flat2_ext {l : List S49} {cs : List Value} (hl : cs.length = l.length * 2) (h : ∀ (i : Nat) (x : S49), l[i]? = some x → cs[i * 2]? = some (.int .i64 x.f0) ∧ cs[i * 2 + 1]? = some (.int .i64 x.f1)) : cs = flat2 l := by
  apply List.ext_getElem?
  intro j
  by_cases hj : j < l.length * 2
  · have hi : j / 2 < l.length := by omega
    have hx := List.getElem?_eq_getElem hi
    obtain ⟨a, b⟩ := h _ _ hx
    obtain ⟨c, d⟩ := flat2_get l _ _ hx
    rcases Nat.mod_two_eq_zero_or_one j with e | e
    · rw [show j = j / 2 * 2 by omega, a, c]
    · rw [show j = j / 2 * 2 + 1 by omega, b, d]
  · rw [List.getElem?_eq_none_iff.2 (by omega), List.getElem?_eq_none_iff.2 (by rw [flat2_length]; omega)]
theorem reps49 (w : World) (base : Nat) (ok : Nat → Prop) : ∀ (l : List S49), Reps (k49.M w base ok) 2 l (flat2 l) := by
  have H : ∀ (r l : List S49), l = r.reverse → Reps (k49.M w base ok) 2 l (flat2 l) := by
    intro r
    induction r with
    | nil => rintro l rfl; exact Reps.none _ _
    | cons x r ih =>
      rintro l rfl
      rw [List.reverse_cons, flat2_snoc]
      exact Reps.snoc (ih _ rfl) (k49_mkM w base ok x) rfl
  exact fun l => H l.reverse l (by simp)
theorem r49_of_own {w : World} {base : Nat} {v : Value} {l : List S49} (h : w.ownsRow base 49 2 v l.length (flat2 l)) : Kd.R k49 49 w base (fun _ => True) v l :=
  ⟨fun _ _ => trivial, flat2 l, h, reps49 _ _ _ _⟩
def remap_Back.v (l : List S49) : List S49 := stab (l.map trn)
def remap_Back.f (l0 : List S49) : Option (List S49) := if l0.length ≤ 100000 then some (remap_Back.v l0) else none
structure BackAt (w W : World) (l : List S49) (i : Nat) (v : Value) : Prop where
  own : W.ownsRow w.heap.size 49 2 v i (flat2 ((l.take i).map trn))
  b : Below w.heap.size w W
set_option maxHeartbeats 8000000 in
theorem remap_Back.calls (A0 : Option Addr) (c0 : Nat) (l0 : List S49) (r : List S49) (w : World) (hr0 : Kd.C k49 w A0 l0.length l0) (hc0 : l0.length ≤ c0) (h : remap_Back.f l0 = some r) :
    Calls Try.prog 12 #[.slice A0 l0.length c0] w fun e w' => ∃ v0_ : Value, e = .returned (v0_) ∧ Kd.R k49 49 w' w.heap.size (fun _ => True) v0_ r ∧ Below w.heap.size w w' := by
  obtain ⟨n, hn⟩ : ∃ n, l0.length = n := ⟨_, rfl⟩
  unfold remap_Back.f at h
  split at h
  case isFalse => cases h
  rename_i hn1
  obtain rfl := Option.some.inj h
  clear h
  rw [hn] at hr0 hc0 hn1 ⊢
  have HR := Lib.hid hr0
  have HN := Lib.hid hn
  clear hr0 hn
  go_enter Try.func12, Try.ntmps12
  go_wp2_with fail
  go_loopg [3, 8] n (fun kq v3 v8 wr => ∃ i : Nat, kq = n - i ∧ v8 = .int .i64 i ∧ i ≤ n ∧ Hid (BackAt w wr l0 i v3))
  case atStart => exact ⟨0, rfl, rfl, Nat.zero_le _, Lib.hid ⟨own_nil _ _ _ _, Below.refl _ _⟩⟩
  case round =>
    obtain ⟨i, hkq, rfl, hi, HA⟩ := hrel
    by_cases hlt : i < n
    · have p0 : (0 : Int) ≤ (i : Int) := by omega
      have q0 : (i : Int) < (n : Int) := by omega
      obtain ⟨ad, ea, hx0, hx1⟩ := at_T49 HR.out (i : Int) p0 q0
      cases ea
      have HB := HA.out.b
      replace hx0 := pw_cell_below HB hx0
      replace hx1 := pw_cell_below HB hx1
      clear HB
      obtain ⟨x, hx⟩ : ∃ x, rd_T49 l0 (i : Int) = x := ⟨_, rfl⟩
      rw [hx] at hx0 hx1
      have HX := Lib.hid (show l0[i]? = some x by rw [← hx]; exact rd49 (by rw [HN.out]; exact hlt))
      simp only [Int.toNat_natCast] at hx0 hx1
      clear hx
      obtain ⟨w4, hw4⟩ : ∃ w4, wr.alloc (.cells #[.int .i64 x.f0, .int .i64 x.f1] 49) = w4 := ⟨_, rfl⟩
      have HW2 := Lib.hid (show w4.ownsRow w.heap.size 49 2 u3 i (flat2 ((l0.take i).map trn)) by rw [← hw4]; exact HA.out.own.alloc _)
      have HB2 := Lib.hid (show Below w.heap.size w w4 by rw [← hw4]; exact below_alloc HA.out.b _)
      have e0 : w4.cell? ⟨wr.heap.size, 0, none⟩ = some (.int .i64 x.f0) := by rw [← hw4]; exact cell_of_row _ _ 0 _ _ _ (blk_new wr _)
      have e1 : w4.cell? ⟨wr.heap.size, 1, none⟩ = some (.int .i64 x.f1) := by rw [← hw4]; exact cell_of_row _ _ 1 _ _ _ (blk_new wr _)
      go_wp2_with ((with_reducible refine gate_builtin (b := .append) (xs := #[.tmp 12, .tmp 18]) rfl ?_); at_builtin; refine print_append_cells (w0 := w) w.heap.size rfl (.tmp 12) (.tmp 18) 32 49 (.agg #[.int .i64 0, .int .i64 0]) 2 16 rfl Try.underlying32 info49 rfl (by decide) (by decide) u3 i (flat2 ((l0.take i).map trn)) [.int .i64 x.f1, .int .i64 x.f0] rfl rfl rfl (by simp [Value.oneCell']) HW2.out HB2.out HB2.out.size (by omega) ?_; intro v1 w5 hown5 hb5 hg5 hat5; have HOWN := Lib.hid hown5; have HB5 := Lib.hid hb5; clear hown5 hb5 hg5 hat5)
      go_roundg (n - (i + 1))
      case measure => omega
      case rel =>
        refine ⟨i + 1, rfl, by go_num, by omega, Lib.hid ⟨?_, HB5.out⟩⟩
        rw [List.take_add_one, HX.out, Option.toList_some, List.map_append, List.map_singleton, flat2_snoc]
        exact HOWN.out
    · obtain rfl : n = i := by omega
      have dn : decide ((n : Int) < (n : Int)) = false := by simp
      have HO := Lib.hid (show wr.ownsRow w.heap.size 49 2 u3 n (flat2 (l0.map trn)) by
        have := HA.out.own
        rwa [List.take_of_length_le (by rw [HN.out]; exact Nat.le_refl _)] at this)
      have HB := Lib.hid HA.out.b
      clear HA hlt
      rcases HO.out.2 with ⟨hv, h0⟩ | ⟨B, cap, cur, hv, hb1, hb2, hb3, hb4, hb5, hb6⟩
      · subst hv
        have hl : l0 = [] := List.eq_nil_of_length_eq_zero (by rw [HN.out]; omega)
        go_wp2_with fail
        refine sort_nil.mono ?_
        rintro e w2 ⟨⟨v, rfl⟩, hw⟩
        rw [hw]
        clear hw
        go_wp2_with fail
        go_ret
        refine ⟨_, rfl, ?_, HB.out⟩
        rw [hl]
        exact Kd.R_nil _ _ _ _ _
      · subst hv
        obtain ⟨g, hg⟩ : ∃ g : Nat → S49, g = fun p => (l0.map trn).getD p z49 := ⟨_, rfl⟩
        have HMR := Lib.hid (show MRow (cap * 2) wr B n g by
          refine ⟨cur, hb2, hb5, fun p hp => ?_⟩
          have hpl : p < (l0.map trn).length := by rw [List.length_map, HN.out]; exact hp
          have hx : (l0.map trn)[p]? = some (g p) := by
            rw [hg, List.getElem?_eq_getElem hpl]
            simp [List.getD_eq_getElem?_getD, List.getElem?_eq_getElem hpl]
          obtain ⟨f1, f2⟩ := flat2_get _ _ _ hx
          rw [← hb6] at f1 f2
          rw [List.getElem?_take_of_lt (by omega)] at f1 f2
          exact ⟨by simpa using f1, by simpa using f2⟩)
        have HG := Lib.hid hg
        have HCAP := Lib.hid hb3
        have HCM := Lib.hid hb4
        have HBB := Lib.hid hb1
        clear hg hb1 hb2 hb3 hb4 hb5 hb6
        go_wp2_with fail
        refine (sort_calls HMR.out hn1).mono ?_
        rintro e w2 ⟨⟨v, rfl⟩, g2, hm, hs, hu, hg2⟩
        have HS := Lib.hid (show seg g2 0 n = remap_Back.v l0 by
          rw [seg_stab hs hu, HG.out]
          unfold remap_Back.v
          rw [← HN.out, show l0.length = (l0.map trn).length by simp, seg_list])
        have HM2 := Lib.hid hm
        have HB2 := Lib.hid (show Below w.heap.size w w2 from HB.out.grown hg2 HB.out.size (fun k hk => by cases hk; exact HBB.out))
        clear hm hs hu hg2
        go_wp2_with fail
        go_ret
        refine ⟨_, rfl, r49_of_own ?_, HB2.out⟩
        have hlen : (remap_Back.v l0).length = n := by rw [← HS.out, seg_length]; omega
        rw [hlen]
        obtain ⟨cs, c1, c2, c3⟩ := HM2.out
        refine ⟨by rw [flat2_length, hlen], .inr ⟨B, cap, cs, rfl, HBB.out, c1, HCAP.out, HCM.out, c2, ?_⟩⟩
        refine flat2_ext ?_ fun i x hx => ?_
        · rw [hlen, List.length_take, Array.length_toList, c2]
          have := HCAP.out
          omega
        · have hin : i < n := by have := (List.getElem?_eq_some_iff.1 hx).1; omega
          rw [← HS.out, seg_get g2 (by omega), Nat.zero_add] at hx
          obtain rfl := Option.some.inj hx
          obtain ⟨d1, d2⟩ := c3 i hin
          rw [List.getElem?_take_of_lt (by omega), List.getElem?_take_of_lt (by omega)]
          exact ⟨by simpa using d1, by simpa using d2⟩
end Go.Proofs.Yteojldbfebnccaa
