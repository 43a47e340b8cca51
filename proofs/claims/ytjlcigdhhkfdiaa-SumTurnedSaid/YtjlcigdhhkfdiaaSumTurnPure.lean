/- The plain law behind SumTurned: a text's sum is another one, if one byte is, or two unlike neighbours are exchanged. -/
import Derived.Test.YtjlcigdhhkfdiaaSumLaw
import Derived.Laws.BitsAllLaws
namespace Go.Proofs.Ytjlcigdhhkfdiaa
namespace Sm

def sumB : List UInt8 → Int
  | [] => 0
  | c :: l => (c.toNat : Int) + sumB l
theorem fold_low (l : List UInt8) : ∀ h, Ok h → (l.foldl stepM h).1 = (h.1 + sumB l) % 65521 := by
  induction l with
  | nil => intro h ho; obtain ⟨a, b, _, _⟩ := ho; simp only [List.foldl_nil, sumB]; omega
  | cons c l ih =>
    intro h ho
    rw [List.foldl_cons, ih _ (stepM_ok h c), sumB]
    simp only [stepM]
    omega
theorem fold_high (l : List UInt8) : ∀ (x y y' : Int), (l.foldl stepM (x, y)).2 % 65521 = (l.foldl stepM (x, y')).2 % 65521 → y % 65521 = y' % 65521 := by
  induction l with
  | nil => intro x y y' h; exact h
  | cons c l ih =>
    intro x y y' h
    rw [List.foldl_cons, List.foldl_cons] at h
    have := ih _ _ _ h
    simp only at this
    omega

theorem mid (p q : List UInt8) (c c' : UInt8) : of (p ++ c' :: q) = of (p ++ c :: q) ↔ c' = c := by
  refine ⟨fun h => ?_, fun h => by rw [h]⟩
  have h1 := congrArg Prod.fst h
  rw [of, of, List.foldl_append, List.foldl_append, List.foldl_cons, List.foldl_cons, fold_low _ _ (stepM_ok _ _), fold_low _ _ (stepM_ok _ _)] at h1
  simp only [stepM] at h1
  have hc := byte_lt c
  have hc' := byte_lt c'
  have : c'.toNat = c.toNat := by omega
  exact UInt8.toNat_inj.1 this
theorem set_iff (l : List UInt8) (k : Nat) (hk : k < l.length) (c' : UInt8) : of (l.set k c') = of l ↔ c' = l[k] := by
  have e : l = l.take k ++ l[k] :: l.drop (k + 1) := by rw [← List.drop_eq_getElem_cons hk, List.take_append_drop]
  rw [List.set_eq_take_append_cons_drop, if_pos hk]
  conv => lhs; rhs; rw [e]
  exact mid _ _ _ _
theorem swap_mid (p q : List UInt8) (a b : UInt8) : of (p ++ b :: a :: q) = of (p ++ a :: b :: q) ↔ b = a := by
  refine ⟨fun h => ?_, fun h => by rw [h]⟩
  have h1 := congrArg Prod.snd h
  rw [of, of, List.foldl_append, List.foldl_append, List.foldl_cons, List.foldl_cons, List.foldl_cons, List.foldl_cons] at h1
  obtain ⟨g, hg⟩ : ∃ g, List.foldl stepM (1, 0) p = g := ⟨_, rfl⟩
  rw [hg] at h1
  have hx : (stepM (stepM g b) a) = ((g.1 + a.toNat + b.toNat) % 65521, (g.2 + (g.1 + b.toNat) + (g.1 + a.toNat + b.toNat)) % 65521) := by
    simp only [stepM]; refine Prod.ext ?_ ?_ <;> simp only <;> omega
  have hy : (stepM (stepM g a) b) = ((g.1 + a.toNat + b.toNat) % 65521, (g.2 + (g.1 + a.toNat) + (g.1 + a.toNat + b.toNat)) % 65521) := by
    simp only [stepM]; refine Prod.ext ?_ ?_ <;> simp only <;> omega
  rw [hx, hy] at h1
  have h2 := fold_high _ _ _ _ (congrArg (· % 65521) h1)
  have ha := byte_lt a
  have hb := byte_lt b
  have : b.toNat = a.toNat := by omega
  exact UInt8.toNat_inj.1 this
theorem set_two (p q : List UInt8) (a b x y : UInt8) : ((p ++ a :: b :: q).set (p.length + 1) x).set p.length y = p ++ y :: x :: q := by
  simp
theorem swap_iff (l : List UInt8) (k : Nat) (a b : UInt8) (hk : k + 1 < l.length) (ha : l[k]'(by omega) = a) (hb : l[k + 1] = b) :
    of ((l.set (k + 1) a).set k b) = of l ↔ b = a := by
  have e : l = l.take k ++ a :: b :: l.drop (k + 1 + 1) := by
    rw [← ha, ← hb, ← List.drop_eq_getElem_cons hk, ← List.drop_eq_getElem_cons (by omega), List.take_append_drop]
  obtain ⟨p, hp⟩ : ∃ p, l.take k = p := ⟨_, rfl⟩
  obtain ⟨q, hq⟩ : ∃ q, l.drop (k + 1 + 1) = q := ⟨_, rfl⟩
  have hl : p.length = k := by rw [← hp, List.length_take]; omega
  rw [hp, hq] at e
  rw [e, ← hl, set_two]
  exact swap_mid _ _ _ _
end Sm
theorem xor_byte (c b : UInt8) : Go.bits .xor .u8 (c.toNat : Int) (b.toNat : Int) = ((c ^^^ b).toNat : Int) := by
  rw [u8_xor_nat _ _ c.toNat_lt b.toNat_lt, UInt8.toNat_xor]
theorem xor_back (c b : UInt8) : (c ^^^ b) ^^^ b = c := by
  rw [UInt8.xor_assoc, UInt8.xor_self, UInt8.xor_zero]
theorem xor_ne (c b : UInt8) : c ^^^ b = c ↔ b = 0 := by
  constructor
  · intro h
    have : c ^^^ (c ^^^ b) = c ^^^ c := by rw [h]
    rwa [← UInt8.xor_assoc, UInt8.xor_self, UInt8.zero_xor] at this
  · intro h; rw [h, UInt8.xor_zero]
end Go.Proofs.Ytjlcigdhhkfdiaa
