/-
  The plain law of the two sums: what the program reckons in rows of bytes is what is reckoned byte by byte, by what is left.
-/
import Derived.Test.YtjlcigdhhkfdiaaSumWorks
import Derived.Laws.BitsLemmas
namespace Go.Proofs.Ytjlcigdhhkfdiaa
namespace Sm

/-- one byte, by what is left -/
def stepM (h : Int × Int) (c : UInt8) : Int × Int := ((h.1 + (c.toNat : Int)) % 65521, (h.2 + (h.1 + (c.toNat : Int)) % 65521) % 65521)
/-- both are below the modulus -/
def Ok (h : Int × Int) : Prop := 0 ≤ h.1 ∧ h.1 < 65521 ∧ 0 ≤ h.2 ∧ h.2 < 65521
theorem stepM_ok (h : Int × Int) (c : UInt8) : Ok (stepM h c) := by
  unfold Ok stepM; simp only; omega
theorem fold_ok (l : List UInt8) : ∀ h, Ok h → Ok (l.foldl stepM h) := by
  induction l with
  | nil => exact fun h hh => hh
  | cons c l ih => exact fun h _ => ih _ (stepM_ok h c)

theorem byte_lt (c : UInt8) : (c.toNat : Int) ≤ 255 := by have := c.toNat_lt; omega

theorem chunk (l : List UInt8) : ∀ (j : Nat) (h g : Int × Int), 0 ≤ h.1 → h.1 ≤ 65520 + 255 * (j : Int) → 0 ≤ h.2 → h.2 ≤ 65520 + 587760 * (j : Int) → j + l.length ≤ 2048 →
    h.1 % 65521 = g.1 → h.2 % 65521 = g.2 → (Int.tmod (l.foldl stepW h).1 65521, Int.tmod (l.foldl stepW h).2 65521) = l.foldl stepM g := by
  induction l with
  | nil =>
    intro j h g a0 a1 b0 b1 hl e1 e2
    simp only [List.foldl_nil]
    rw [Int.tmod_eq_emod_of_nonneg a0, Int.tmod_eq_emod_of_nonneg b0, e1, e2]
  | cons c l ih =>
    intro j h g a0 a1 b0 b1 hl e1 e2
    have hc := byte_lt c
    have hc0 : 0 ≤ (c.toNat : Int) := by omega
    simp only [List.length_cons] at hl
    simp only [List.foldl_cons]
    have w1 : (stepW h c).1 = h.1 + c.toNat := by simp only [stepW]; omega
    have w2 : (stepW h c).2 = h.2 + (h.1 + c.toNat) := by simp only [stepW]; omega
    refine ih (j + 1) (stepW h c) (stepM g c) ?_ ?_ ?_ ?_ (by omega) ?_ ?_
    · rw [w1]; omega
    · rw [w1]; omega
    · rw [w2]; omega
    · rw [w2]; omega
    · rw [w1]; simp only [stepM]; omega
    · rw [w2]; simp only [stepM]; omega

theorem piece_eq (l : List UInt8) (hl : l.length ≤ 2048) (h : Int × Int) (ho : Ok h) : piece h l = l.foldl stepM h := by
  obtain ⟨a, b, c, d⟩ := ho
  exact chunk l 0 h h a (by omega) c (by omega) (by omega) (Int.emod_eq_of_lt a b) (Int.emod_eq_of_lt c d)

theorem pieces_eq : ∀ (k : Nat) (l : List UInt8) (h : Int × Int), l.length ≤ 2048 * (k + 1) → Ok h → pieces (k + 1) h l = l.foldl stepM h
  | 0, l, h, hl, ho => by
    rw [pieces, if_neg (by omega)]
    exact piece_eq l (by omega) h ho
  | k + 1, l, h, hl, ho => by
    rw [pieces]
    by_cases hc : 2048 < l.length
    · rw [if_pos hc, piece_eq _ (by rw [List.length_take]; omega) h ho, pieces_eq k _ _ (by rw [List.length_drop]; omega) (fold_ok _ _ ho), ← List.foldl_append, List.take_append_drop]
    · rw [if_neg hc]; exact piece_eq l (by omega) h ho

/-- the number of both -/
def num (h : Int × Int) : Int := h.2 * 65536 + h.1
end Sm

theorem and_mask (x : Int) (h0 : 0 ≤ x) (h1 : x < 4294967296) : Go.bits .and .u32 x 65535 = x % 65536 :=
  bits_mask .u32 32 (by decide) (fun n a b => by rw [IntKind.wrap_u32]; omega) 16 (by decide) x h0 (by simpa using h1)
theorem halvesOf_eq (n : Int) (h0 : 0 ≤ n) (h1 : n < 4294967296) : halvesOf n = (n % 65536 % 65521, n / 65536 % 65521) := by
  unfold halvesOf
  rw [and_mask n h0 h1, Int.tmod_eq_emod_of_nonneg (by omega), Int.tmod_eq_emod_of_nonneg (by omega)]
theorem halvesOf_ok (n : Int) (h0 : 0 ≤ n) (h1 : n < 4294967296) : Sm.Ok (halvesOf n) := by
  rw [halvesOf_eq n h0 h1]; unfold Sm.Ok; simp only; omega
theorem or_join (h : Int × Int) (ho : Sm.Ok h) : Go.bits .or .u32 (h.2 * 65536 % 4294967296) h.1 = Sm.num h := by
  obtain ⟨a, b, c, d⟩ := ho
  have e : h.2 * 65536 % 4294967296 = h.2 * 65536 := by omega
  rw [e]
  have := bits_join .u32 32 (by decide) (fun n a b => by rw [IntKind.wrap_u32]; omega) 16 (h.2 * 65536) h.1 (by omega) (by omega) (by omega) a (by omega) (by omega)
  rw [this]; rfl
theorem moreV_eq (n : Int) (l : List UInt8) (h0 : 0 ≤ n) (h1 : n < 4294967296) : moreV n l = Sm.num (l.foldl Sm.stepM (halvesOf n)) := by
  have ho := halvesOf_ok n h0 h1
  unfold moreV
  rw [Sm.pieces_eq l.length l _ (by omega) ho]
  exact or_join _ (Sm.fold_ok _ _ ho)

theorem num_bd (h : Int × Int) (ho : Sm.Ok h) : 0 ≤ Sm.num h ∧ Sm.num h < 4294967296 := by
  obtain ⟨a, b, c, d⟩ := ho; unfold Sm.num; omega
theorem halvesOf_num (h : Int × Int) (ho : Sm.Ok h) : halvesOf (Sm.num h) = h := by
  have hb := num_bd h ho
  rw [halvesOf_eq _ hb.1 hb.2]
  obtain ⟨a, b, c, d⟩ := ho
  obtain ⟨x, y⟩ := h
  simp only [Sm.num] at *
  refine Prod.ext ?_ ?_ <;> simp only <;> omega
theorem num_inj {h g : Int × Int} (ho : Sm.Ok h) (go : Sm.Ok g) (e : Sm.num h = Sm.num g) : h = g := by
  rw [← halvesOf_num h ho, ← halvesOf_num g go, e]
theorem ok10 : Sm.Ok (1, 0) := by unfold Sm.Ok; decide
theorem halvesOf_one : halvesOf 1 = (1, 0) := halvesOf_num (1, 0) ok10

/-- The sum of a text. -/
def Sm.of (l : List UInt8) : Int × Int := l.foldl Sm.stepM (1, 0)
theorem of_ok (l : List UInt8) : Sm.Ok (Sm.of l) := Sm.fold_ok l _ ok10
theorem ofV_eq (l : List UInt8) : moreV 1 l = Sm.num (Sm.of l) := by rw [moreV_eq 1 l (by omega) (by omega), halvesOf_one]; rfl
theorem moreV_num (h : Int × Int) (ho : Sm.Ok h) (l : List UInt8) : moreV (Sm.num h) l = Sm.num (l.foldl Sm.stepM h) := by
  have hb := num_bd h ho
  rw [moreV_eq _ l hb.1 hb.2, halvesOf_num h ho]

/-- Joining, by what is left. -/
def Sm.join (h g : Int × Int) (n : Int) : Int × Int := ((h.1 + g.1 - 1) % 65521, (h.2 + g.2 + n * (h.1 - 1)) % 65521)
theorem join_ok (h g : Int × Int) (n : Int) : Sm.Ok (Sm.join h g n) := by unfold Sm.Ok Sm.join; simp only; omega

theorem snoc_induction {α : Type} {P : List α → Prop} (h0 : P []) (hs : ∀ l a, P l → P (l ++ [a])) (l : List α) : P l := by
  have : ∀ r : List α, P r.reverse := by
    intro r
    induction r with
    | nil => exact h0
    | cons a r ih => rw [List.reverse_cons]; exact hs _ _ ih
  simpa using this l.reverse

theorem fold_join (h : Int × Int) (ho : Sm.Ok h) (l : List UInt8) : l.foldl Sm.stepM h = Sm.join h (Sm.of l) l.length := by
  induction l using snoc_induction with
  | h0 =>
    obtain ⟨a, b, c, d⟩ := ho
    obtain ⟨x, y⟩ := h
    simp only [List.foldl_nil, Sm.join, Sm.of, List.length_nil] at *
    refine Prod.ext ?_ ?_ <;> simp only <;> omega
  | hs l c ih =>
    rw [Sm.of, List.foldl_append, List.foldl_append, ih, ← Sm.of]
    have hz : ((l ++ [c]).length : Int) * (h.1 - 1) = (l.length : Int) * (h.1 - 1) + (h.1 - 1) := by
      rw [List.length_append, List.length_singleton, Int.natCast_add, Int.add_mul]; simp
    simp only [List.foldl_cons, List.foldl_nil, Sm.stepM, Sm.join]
    rw [hz]
    obtain ⟨z, hz'⟩ : ∃ z, (l.length : Int) * (h.1 - 1) = z := ⟨_, rfl⟩
    rw [hz']
    have ok := of_ok l
    obtain ⟨a, b, c', d⟩ := ok
    refine Prod.ext ?_ ?_ <;> simp only <;> omega

theorem joinedV_eq (h g : Int × Int) (ho : Sm.Ok h) (go : Sm.Ok g) (n : Nat) (hn : n < 18446744073709551616) : joinedV (Sm.num h) (Sm.num g) n = Sm.num (Sm.join h g n) := by
  unfold joinedV
  rw [halvesOf_num h ho, halvesOf_num g go, if_pos (by omega)]
  have ho' := ho
  have go' := go
  obtain ⟨a, b, c, d⟩ := ho
  obtain ⟨a', b', c', d'⟩ := go
  have hwn : IntKind.u64.wrap (n : Int) = n := by
    simp only [IntKind.wrap, IntKind.bits, IntKind.signed]; simp; omega
  have hm : (IntKind.u64.wrap (n : Int)).tmod 65521 % 4294967296 = (n : Int) % 65521 := by
    rw [hwn, Int.tmod_eq_emod_of_nonneg (by omega)]; omega
  have hx : (h.1 + 65521 - 1) % 4294967296 % 65521 = (h.1 - 1) % 65521 := by omega
  have hlow : Int.tmod (joinLow h g) 65521 = (Sm.join h g n).1 := by
    unfold joinLow Sm.join
    simp only
    rw [hx, Int.tmod_eq_emod_of_nonneg (by omega)]
    omega
  have hhigh : Int.tmod (joinHigh h g n) 65521 = (Sm.join h g n).2 := by
    unfold joinHigh Sm.join
    simp only
    rw [hx, hm]
    have q0 : 0 ≤ (h.1 - 1) % 65521 * ((n : Int) % 65521) := Int.mul_nonneg (by omega) (by omega)
    have q1 : (h.1 - 1) % 65521 * ((n : Int) % 65521) ≤ 65520 * 65520 := Int.mul_le_mul (by omega) (by omega) (by omega) (by omega)
    have qm : ((h.1 - 1) % 65521 * ((n : Int) % 65521)) % 65521 = (n * (h.1 - 1)) % 65521 := by
      rw [← Int.mul_emod, Int.mul_comm]
    obtain ⟨p, hp⟩ : ∃ p, (h.1 - 1) % 65521 * ((n : Int) % 65521) = p := ⟨_, rfl⟩
    obtain ⟨z, hz⟩ : ∃ z, (n : Int) * (h.1 - 1) = z := ⟨_, rfl⟩
    rw [hp] at q0 q1 qm ⊢
    rw [hz] at qm ⊢
    have hwp : IntKind.u64.wrap p = p := by
      simp only [IntKind.wrap, IntKind.bits, IntKind.signed]; simp; omega
    rw [hwp, Int.tmod_eq_emod_of_nonneg q0, Int.tmod_eq_emod_of_nonneg (by omega)]
    omega
  rw [hlow, hhigh]
  exact or_join _ (join_ok h g n)
end Go.Proofs.Ytjlcigdhhkfdiaa
