/- The document's row of leases: how it lies in memory. -/
import Derived.Test.YtfkbiecbnjddmaaLTake
namespace Go.Proofs.Ytfkbiecbnjddmaa
open Go.RowKit Go.MapKept Go.ChangeMaps Go.Proofs.YtfkbiecbnjddmaaW.PrintWords
set_option linter.unusedVariables false
set_option linter.unusedSimpArgs false
set_option maxRecDepth 100000
def kL : Kd Lz := Kd.pair (Kd.int .i64) (Kd.pair (Kd.int .u32) (Kd.int .u64))
theorem kL_open {w : World} {x : Lz} {cs : List Value} (h : kL.K w x cs) : cs = x.cs := by
  obtain ⟨_, _, rfl, rfl, _, _, rfl, rfl, rfl⟩ := h
  rfl
theorem kL_openM {w : World} {base : Nat} {ok : Nat → Prop} {x : Lz} {cs : List Value} (h : kL.M w base ok x cs) : cs = x.cs := by
  obtain ⟨_, _, rfl, rfl, _, _, rfl, rfl, rfl⟩ := h
  rfl
theorem kL_mk (w : World) (x : Lz) : kL.K w x x.cs := ⟨[_], [_, _], rfl, rfl, [_], [_], rfl, rfl, rfl⟩
theorem kL_mkM (w : World) (base : Nat) (ok : Nat → Prop) (x : Lz) : kL.M w base ok x x.cs := ⟨[_], [_, _], rfl, rfl, [_], [_], rfl, rfl, rfl⟩
theorem info56 : (Try.prog.info? 56).map (fun i => (i.zero, i.size, i.bytes)) = some (some (.agg #[.int .i64 0, .int .u32 0, .int .u64 0]), 3, 24) := by kernel_rfl
theorem reps_flat {R : Lz → List Value → Prop} (hR : ∀ x c, R x c → c = x.cs) : ∀ (xs : List Lz) (cs : List Value), Reps R 3 xs cs → cs = flat xs
  | [], cs, h => by
    have := h.1
    simp at this
    simp [this, flat]
  | x :: t, cs, h => by
    have h0 := hR _ _ (h.2 0 x rfl)
    have hl := h.1
    simp only [Nat.zero_mul, List.drop_zero] at h0
    have ih := reps_flat hR t (cs.drop 3) ⟨by rw [List.length_drop, hl, List.length_cons]; omega, fun j p hj => by
      have := h.2 (j + 1) p hj
      rw [List.drop_drop, show 3 + j * 3 = (j + 1) * 3 by omega]
      exact this⟩
    have e : flat (x :: t) = x.cs ++ flat t := by simp [flat]
    rw [e, ← h0, ← ih, List.take_append_drop]
theorem flat_reps {R : Lz → List Value → Prop} (hR : ∀ x : Lz, R x x.cs) : ∀ (xs : List Lz), Reps R 3 xs (flat xs)
  | [] => Reps.none _ _
  | x :: t => by
    have ih := flat_reps hR t
    refine ⟨flat_length _, fun j p hj => ?_⟩
    have e : flat (x :: t) = x.cs ++ flat t := by simp [flat]
    rw [e]
    cases j with
    | zero =>
      obtain rfl : x = p := by simpa using hj
      simpa [Lz.cs] using hR x
    | succ j =>
      have := ih.2 j p (by simpa using hj)
      rw [show (j + 1) * 3 = x.cs.length + j * 3 by simp [Lz.cs]; omega, ← List.drop_drop, List.drop_left]
      exact this
/-- the reference's row at block q -/
structure RefAt (W : World) (q : Nat) (A : Option Addr) (c : Nat) (L : List Lz) : Prop where
  box : W.heap[q]? = some (.cells #[.slice A L.length c] 45 (0, 0))
  cap : L.length ≤ c
  len : L.length ≤ 1000
  row : L = [] ∨ ∃ g o cs, A = some ⟨g, o, none⟩ ∧ W.heap[g]? = some (.cells cs 56 (0, 0)) ∧ ∀ j u, (flat L)[j]? = some u → cs[o + j]? = some u
theorem cell_of_some {W : World} {g : Nat} {cs : Array Value} {t : TypeId} {fr : Nat × Nat} (h : W.heap[g]? = some (.cells cs t fr)) {j : Nat} {u : Value} (hu : cs[j]? = some u) : W.cell? ⟨g, j, none⟩ = some u := by
  simp [World.cell?, h, hu]
theorem add_none (g o j : Nat) : (⟨g, o, none⟩ : Addr).add j = ⟨g, o + j, none⟩ := by
  unfold Addr.add
  by_cases hj : j = 0 <;> simp [hj]
theorem RefAt.C {W : World} {q : Nat} {A : Option Addr} {c : Nat} {L : List Lz} (h : RefAt W q A c L) : Kd.C kL W A L.length L := by
  refine ⟨rfl, by have := h.len; omega, fun hp => ?_⟩
  rcases h.row with rfl | ⟨g, o, cs, rfl, hb, hc⟩
  · simp at hp
  · refine ⟨_, rfl, fun j p hj => ⟨p.cs, rfl, kL_mk _ _, fun i u hu => ?_⟩⟩
    obtain ⟨a, b, d⟩ := flat_get L j p hj
    rw [add_none]
    refine cell_of_some hb (hc _ _ ?_)
    have h3 : i < 3 := by have := (List.getElem?_eq_some_iff.1 hu).1; simpa [Lz.cs] using this
    match i, h3 with
    | 0, _ => simp [Lz.cs] at hu; subst hu; exact a
    | 1, _ => simp [Lz.cs] at hu; subst hu; exact b
    | 2, _ => simp [Lz.cs] at hu; subst hu; exact d
theorem RefAt.get {W : World} {q : Nat} {A : Option Addr} {c : Nat} {L : List Lz} (h : RefAt W q A c L) {i : Nat} {x : Lz} (hx : L[i]? = some x) :
    ∃ g o, A = some ⟨g, o, none⟩ ∧ W.cell? ⟨g, o + i * 3, none⟩ = some (.int .i64 x.1) ∧ W.cell? ⟨g, o + i * 3 + 1, none⟩ = some (.int .u32 x.2.1) ∧ W.cell? ⟨g, o + i * 3 + 2, none⟩ = some (.int .u64 x.2.2) := by
  rcases h.row with rfl | ⟨g, o, cs, rfl, hb, hc⟩
  · simp at hx
  · obtain ⟨a, b, d⟩ := flat_get L i x hx
    exact ⟨g, o, rfl, cell_of_some hb (hc _ _ a), cell_of_some hb (by have := hc _ _ b; rwa [← Nat.add_assoc] at this), cell_of_some hb (by have := hc _ _ d; rwa [← Nat.add_assoc] at this)⟩
theorem RefAt.keep {W W' : World} {q : Nat} {A : Option Addr} {c : Nat} {L : List Lz} (h : RefAt W q A c L) (hm : ∀ (i : Nat) (t : TypeId) (cs : Array Value), W.heap[i]? = some (.cells cs t (0, 0)) → (t = 45 ∨ t = 56) → W'.heap[i]? = W.heap[i]?) : RefAt W' q A c L := by
  refine ⟨(hm _ _ _ h.box (.inl rfl)).trans h.box, h.cap, h.len, ?_⟩
  rcases h.row with rfl | ⟨g, o, cs, rfl, hb, hc⟩
  · exact .inl rfl
  · exact .inr ⟨g, o, cs, rfl, (hm _ _ _ hb (.inr rfl)).trans hb, hc⟩
theorem RefAt.below {W W' : World} {q : Nat} {A : Option Addr} {c : Nat} {L : List Lz} (h : RefAt W q A c L) (hb : Below W.heap.size W W') : RefAt W' q A c L :=
  h.keep fun i t cs hi _ => hb.block i (blk_lt hi)
theorem RefAt.off {W W' : World} {q : Nat} {A : Option Addr} {c : Nat} {L : List Lz} (h : RefAt W q A c L) {s : St} {xs : List Lz} (hi : Is W s xs) (ho : Off s.foot W W') : RefAt W' q A c L :=
  h.keep fun i t cs hc ht => ho.block i (blk_lt hc) (by rcases ht with rfl | rfl <;> exact hi.foot_ne hc (by decide) (by decide))
theorem RowAt.offRef {W W' : World} {r q : Nat} {s : St} {xs : List Lz} {cs : Array Value} (h : RowAt W r s xs) (hq : W.heap[q]? = some (.cells cs 45 (0, 0))) (ho : Off (fun i => i = q) W W') : RowAt W' r s xs := by
  refine h.move fun i hi hf => ho.block i hi ?_
  rintro rfl
  rcases hf with hf | rfl
  · exact h.is.foot_ne hq (by decide) (by decide) hf
  · have := h.row
    rw [hq] at this
    simp at this
/-- what a row made anew says of the reference's row -/
theorem RefAt.of_own {W : World} {q base : Nat} {v : Value} {L : List Lz} (hl : L.length ≤ 1000) (hown : W.ownsRow base 56 3 v L.length (flat L)) (hb : W.heap[q]? = some (.cells #[v] 45 (0, 0))) : ∃ A c, v = .slice A L.length c ∧ RefAt W q A c L := by
  rcases hown.2 with ⟨rfl, hn⟩ | ⟨g, cap, cur, rfl, _, hg, hle, _, _, ht⟩
  · have : L = [] := List.eq_nil_of_length_eq_zero hn
    subst this
    exact ⟨none, 0, rfl, hb, Nat.le_refl _, hl, .inl rfl⟩
  · refine ⟨_, _, rfl, hb, hle, hl, .inr ⟨g, 0, cur, rfl, hg, fun j u hu => ?_⟩⟩
    rw [Nat.zero_add, ← Array.getElem?_toList]
    rw [← ht] at hu
    rw [List.getElem?_take] at hu
    split at hu
    · exact hu
    · cases hu
theorem RefAt.drop {W W' : World} {q : Nat} {A : Option Addr} {c : Nat} {L : List Lz} (h : RefAt W q A c L) {m : Nat} (hm : m ≤ L.length) {A' : Option Addr} (hA : A' = if c = m then A else A.map (·.add (m * 3))) (hb : W'.heap[q]? = some (.cells #[.slice A' (L.length - m) (c - m)] 45 (0, 0))) (hk : ∀ (i : Nat) (cs : Array Value), W.heap[i]? = some (.cells cs 56 (0, 0)) → W'.heap[i]? = W.heap[i]?) : RefAt W' q A' (c - m) (L.drop m) := by
  have hl : (L.drop m).length = L.length - m := List.length_drop
  have hc := h.cap
  have hn := h.len
  refine ⟨by rw [hl]; exact hb, by omega, by omega, ?_⟩
  rcases h.row with rfl | ⟨g, o, cs, rfl, hg, hcell⟩
  · exact .inl (by simp)
  · by_cases he : L.length = m
    · exact .inl (by rw [← he]; simp)
    · right
      rw [if_neg (by omega)] at hA
      subst hA
      refine ⟨g, o + m * 3, cs, by simp [add_none], (hk _ _ hg).trans hg, fun j u hu => ?_⟩
      have e : flat (L.drop m) = (flat L).drop (m * 3) := by
        have h1 : flat L = flat (L.take m) ++ flat (L.drop m) := by rw [← flat_append, List.take_append_drop]
        rw [h1]
        exact (List.drop_left' (by rw [flat_length, List.length_take]; omega)).symm
      rw [e, List.getElem?_drop] at hu
      have := hcell _ _ hu
      rwa [Nat.add_assoc]
theorem own_of_kR {W : World} {base : Nat} {ok : Nat → Prop} {v : Value} {L : List Lz} (h : Kd.R kL 56 W base ok v L) : W.ownsRow base 56 3 v L.length (flat L) := by
  obtain ⟨_, inner, ho, hr⟩ := h
  have : inner = flat L := reps_flat (fun x c hx => kL_openM hx) L inner hr
  subst this
  exact ho
theorem kR_of_own {W : World} {base : Nat} {v : Value} {L : List Lz} (h : W.ownsRow base 56 3 v L.length (flat L)) : Kd.R kL 56 W base (fun _ => True) v L :=
  ⟨fun _ _ => trivial, flat L, h, flat_reps (fun x => kL_mkM _ _ _ x) L⟩
theorem kR_empty (W : World) (base : Nat) (hb : base ≤ W.heap.size) : Kd.R kL 56 (W.alloc (.cells #[] 56)) base (fun _ => True) (.slice (some ⟨W.heap.size, 0, none⟩) 0 0) [] := by
  refine kR_of_own ⟨rfl, .inr ⟨W.heap.size, 0, #[], rfl, hb, blk_new W _, Nat.le_refl _, by unfold maxLen; omega, rfl, rfl⟩⟩
/-- where one of a key stands -/
def FindAt (L : List Lz) (k : Int × Int) (p : Int) : Prop := (p = -1 ∧ ∀ x ∈ L, x.key ≠ k) ∨ ∃ (i : Nat) (x : Lz), p = (i : Int) ∧ L[i]? = some x ∧ x.key = k
set_option maxHeartbeats 2000000
theorem find_calls {W : World} {q : Nat} {A : Option Addr} {c : Nat} {L : List Lz} (h : RefAt W q A c L) (k : Int × Int) :
    Calls Try.prog 30 #[.pointer (some ⟨q, 0, none⟩), .int .i64 k.1, .int .u32 k.2] W fun e w' => ∃ p, e = .returned (.int .i64 p) ∧ FindAt L k p ∧ W = w' := by
  have H := Lib.hid h
  clear h
  have q0 : W.cell? ⟨q, 0, none⟩ = some (.slice A L.length c) := cell_of_row _ _ 0 _ _ _ H.out.box
  obtain ⟨n, hn⟩ : ∃ n, L.length = n := ⟨_, rfl⟩
  rw [hn] at q0
  have HN := Lib.hid hn
  have n1 : n ≤ 1000 := by have := H.out.len; omega
  clear hn
  go_enter Try.func30, Try.ntmps30
  go_wp2_with fail
  go_loop [7] (fun v7 => ∃ i : Nat, v7 = .int .i64 i ∧ i ≤ n ∧ Hid (∀ (j : Nat) (y : Lz), j < i → L[j]? = some y → y.key ≠ k)) (fun v7 => n - (intOf v7).toNat)
  case atStart => exact ⟨0, rfl, Nat.zero_le _, Lib.hid (fun j y hj => by omega)⟩
  case round =>
    obtain ⟨i, rfl, hi, HK⟩ := hrel
    by_cases hlt : i < n
    · obtain ⟨x, hx⟩ : ∃ x, L[i]? = some x := ⟨_, List.getElem?_eq_getElem (by rw [HN.out]; exact hlt)⟩
      obtain ⟨g, o, rfl, x0, x1, x2⟩ := H.out.get hx
      have HX := Lib.hid hx
      clear hx
      have p0 : (0 : Int) ≤ (i : Int) := by omega
      have q1 : (i : Int) < (n : Int) := by omega
      have q2 : decide ((i : Int) < (n : Int)) = true := decide_eq_true q1
      by_cases h1 : x.1 = k.1
      · have b1 : (x.1 == k.1) = true := by simp [h1]
        by_cases h2 : x.2.1 = k.2
        · have b2 : (x.2.1 == k.2) = true := by simp [h2]
          have HE := Lib.hid (show x.key = k by unfold Lz.key; rw [h1, h2])
          clear h1 h2
          go_wp2_with fail
          go_ret
          exact ⟨_, rfl, .inr ⟨i, x, rfl, HX.out, HE.out⟩, rfl⟩
        · have b2 : (x.2.1 == k.2) = false := by simp [h2]
          have HE := Lib.hid (show x.key ≠ k by unfold Lz.key; rintro rfl; exact h2 rfl)
          clear h1 h2
          go_wp2_with fail
          go_round
          case rel => exact ⟨i + 1, by go_num, by omega, Lib.hid (fun j y hj hy => by
            rcases Nat.lt_or_ge j i with h | h
            · exact HK.out j y h hy
            · obtain rfl : j = i := by omega
              rw [HX.out] at hy
              cases hy
              exact HE.out)⟩
          case measure => simp [intOf]; omega
      · have b1 : (x.1 == k.1) = false := by simp [h1]
        have HE := Lib.hid (show x.key ≠ k by unfold Lz.key; rintro rfl; exact h1 rfl)
        clear h1
        go_wp2_with fail
        go_round
        case rel => exact ⟨i + 1, by go_num, by omega, Lib.hid (fun j y hj hy => by
            rcases Nat.lt_or_ge j i with h | h
            · exact HK.out j y h hy
            · obtain rfl : j = i := by omega
              rw [HX.out] at hy
              cases hy
              exact HE.out)⟩
        case measure => simp [intOf]; omega
    · have q2 : decide ((i : Int) < (n : Int)) = false := decide_eq_false (by omega)
      obtain rfl : i = n := by omega
      go_wp2_with fail
      go_ret
      refine ⟨_, rfl, .inl ⟨rfl, fun x hx => ?_⟩, rfl⟩
      obtain ⟨j, hj⟩ := List.getElem?_of_mem hx
      exact HK.out j x (by have := (List.getElem?_eq_some_iff.1 hj).1; rw [HN.out] at this; exact this) hj
end Go.Proofs.Ytfkbiecbnjddmaa
