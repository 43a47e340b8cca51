/- The walk of SumTurned: it answers true at every text, place and byte. -/
import Derived.Test.YtjlcigdhhkfdiaaSumTurnPure
import Derived.Laws.BytesArg
import Derived.Lib.ConvBytes
import Derived.BigRegion
import Derived.Deep.RegionHeld3
namespace Go.Proofs.Ytjlcigdhhkfdiaa
open Go.RowKit Go.Proofs.YtjlcigdhhkfdiaaW.PrintWords Go.Proofs.YtjlcigdhhkfdiaaW.PrintLast Go.Proofs.YtjlcigdhhkfdiaaW.PrintMore
attribute [local go_sem] max2_int min2_int max_two min_two max_three min_three max_four min_four

def encB (c : UInt8) : Value := .int .u8 c.toNat
/-- Block G holds the bytes l, and room behind. -/
def Row (W : World) (G : Nat) (l : List UInt8) (m : Nat) : Prop :=
  ∃ tail : List Value, W.heap[G]? = some (.cells (l.map encB ++ tail).toArray 5 (m, m + 1)) ∧ l.length ≤ m
theorem Row.cell {W : World} {G : Nat} {l : List UInt8} {m : Nat} (h : Row W G l m) (j : Nat) (c : UInt8) (hj : l[j]? = some c) : W.cell? ⟨G, j, none⟩ = some (.int .u8 c.toNat) := by
  obtain ⟨tail, h, _⟩ := h
  rw [blk_cell h]
  have hlt := (List.getElem?_eq_some_iff.1 hj).1
  simp [List.getElem?_append_left (show j < (l.map encB).length by simpa using hlt), hj, encB]
theorem Row.free {W : World} {G : Nat} {l : List UInt8} {m : Nat} (h : Row W G l m) (j : Nat) (hj : j < l.length) : W.frozen? ⟨G, j, none⟩ = false := by
  obtain ⟨tail, h, hm⟩ := h
  simp only [World.frozen?, h]
  simp; omega
theorem Row.set {W : World} {G : Nat} {l : List UInt8} {m : Nat} (h : Row W G l m) (j : Nat) (c : UInt8) (hj : j < l.length) : Row (W.setCell ⟨G, j, none⟩ (.int .u8 c.toNat)) G (l.set j c) m := by
  obtain ⟨tail, h, hm⟩ := h
  refine ⟨tail, ?_, by rw [List.length_set]; exact hm⟩
  rw [blk_set h]
  congr 2
  simp [hj, encB, List.map_set]
theorem Row.kept {W W' : World} {G : Nat} {l : List UInt8} {m : Nat} (h : Row W G l m) (hb : Below W.heap.size W W') : Row W' G l m := by
  obtain ⟨tail, h, hm⟩ := h
  exact ⟨tail, (hb.block G (blk_lt h)).trans h, hm⟩
theorem Row.new (W : World) (s : ByteArray) : ∃ m, Row (Lib.bytesWorld W 5 s) W.heap.size s.data.toList m := by
  refine ⟨(Lib.bytesCells W 5 s).size, List.replicate (grownCap W s.size 0 5 - s.size) (.int .u8 0), ?_, ?_⟩
  · rw [Lib.bytesWorld_at_new]
    congr 2
    simp [Lib.bytesCells, encB]
  · simp [Lib.bytesCells]
theorem Row.text {W : World} {G : Nat} {l : List UInt8} {m : Nat} (h : Row W G l m) (n cap : Nat) (hn : l.length = n) :
    (convert 32 9 (.slice (some ⟨G, 0, none⟩) n cap)).run Try.prog W = .ok (.string ⟨l.toArray⟩) W := by
  subst hn
  have := run_convert_bytes_arg (P := Try.prog) W 32 5 Try.underlying32 Try.underlying5 G 0 l.length cap (l.map fun c => (c.toNat : Int)) (by simp)
    (fun i hi => by
      rw [Nat.zero_add, h.cell i l[i] (List.getElem?_eq_getElem hi)]
      simp [List.getD, hi]) 9 Try.underlying9
  rw [this]
  congr 2
  have e : (l.map fun c => (c.toNat : Int)).map (fun n => UInt8.ofNat n.toNat) = l := by
    rw [List.map_map]
    conv => rhs; rw [← List.map_id l]
    exact List.map_congr_left fun c _ => by simp
  simp only [strOfNums, e]

theorem of_text (l : List UInt8) (hl : l.length ≤ 4000) (w : World) :
    Calls Try.prog 8 #[.string ⟨l.toArray⟩] w fun e w' => e = .returned (.int .u32 (Sm.num (Sm.of l))) ∧ Below w.heap.size w w' :=
  of_at ⟨l.toArray⟩ _ (by simpa [ByteArray.size] using Nat.le_trans hl (by omega)) (by rw [ofV_eq]) w
theorem of_str (t : ByteArray) (hl : t.size ≤ 4000) (w : World) :
    Calls Try.prog 8 #[.string t] w fun e w' => e = .returned (.int .u32 (Sm.num (Sm.of t.data.toList))) ∧ Below w.heap.size w w' :=
  of_at t _ (by omega) (by rw [ofV_eq]) w

/-- What is so in each world of the last test. -/
theorem both_S {w W : World} {G : Nat} {l7 : List UInt8} {m n cp : Nat} {s : ByteArray} {v : Int} (hn : l7.length = n) (hc : ∀ W : World, Calls Try.prog 8 #[.string s] W fun e w' => e = .returned (.int .u32 v) ∧ Below W.heap.size W w')
    (hr : Hid (Row W G l7 m)) (hb : Hid (Below w.heap.size w W)) :
    Calls Try.prog 8 #[.string s] W fun e w' => e = .returned (.int .u32 v) ∧ (convert 32 9 (.slice (some ⟨G, 0, none⟩) n cp)).run Try.prog w' = .ok (.string ⟨l7.toArray⟩) w' ∧ Hid (Row w' G l7 m) ∧ Hid (Below w.heap.size w w') :=
  (hc W).mono fun e w' ⟨he, hb'⟩ => by
    have r := hr.out.kept hb'
    exact ⟨he, r.text n cp hn, r, hb.out.trans (hb'.mono hb.out.size)⟩

set_option maxRecDepth 100000 in
set_option maxHeartbeats 4000000 in
theorem turned_walk (s : ByteArray) (a b : Int) (a0 : 0 ≤ a) (a1 : a ≤ 65535) (b0 : 0 ≤ b) (b1 : b ≤ 255) (w : World) :
    Calls Try.prog 5 #[.string s, .int .u16 a, .int .u8 b] w fun e w' => e = .returned (.bool true) ∧ Below w.heap.size w w' := by
  have hcut : ∃ t : ByteArray, t.size ≤ 4000 ∧ ((4000 < s.size ∧ s.extract 0 4000 = t) ∨ (s.size ≤ 4000 ∧ t = s)) := by
    by_cases h : 4000 < s.size
    · have e : (s.extract 0 4000).size = 4000 := by rw [ByteArray.size_extract]; omega
      exact ⟨s.extract 0 4000, by omega, .inl ⟨h, rfl⟩⟩
    · exact ⟨s, by omega, .inr ⟨by omega, rfl⟩⟩
  obtain ⟨t, ht4, hcut⟩ := hcut
  by_cases h0 : t.size = 0
  · rcases hcut with ⟨hlt, ht⟩ | ⟨hlt, rfl⟩
    · have e : (s.extract 0 4000).size = 4000 := by rw [ByteArray.size_extract]; omega
      rw [ht] at e
      omega
    · have h0' : ((t.size : Int) == 0) = true := by rw [h0]; rfl
      clear h0
      go_enter Try.func5, Try.ntmps5
      go_wp2_with fail
      refine (works_walk _).mono ?_
      rintro e w1 ⟨rfl, h1⟩
      have H1 := Lib.hid h1; clear h1
      go_wp2
      go_ret
      exact ⟨rfl, H1.out⟩
  · have h1 : 1 ≤ t.size := by omega
    have h0' : ((t.size : Int) == 0) = false := beq_eq_false_iff_ne.2 (by omega)
    obtain ⟨k, hk⟩ : ∃ k : Nat, a % (t.size : Int) = (k : Int) := ⟨(a % (t.size : Int)).toNat, by
      have : 0 ≤ a % (t.size : Int) := Int.emod_nonneg _ (by omega)
      omega⟩
    have hkl : k < t.size := by
      have : a % (t.size : Int) < (t.size : Int) := Int.emod_lt_of_pos a (by omega)
      omega
    clear h0
    rcases hcut with ⟨hlt, ht⟩ | ⟨hlt, rfl⟩
    all_goals
      go_enter Try.func5, Try.ntmps5
      go_wp2_with fail
      refine (works_walk _).mono ?_
      rintro e w1 ⟨rfl, h1⟩
      have H1 := Lib.hid h1; clear h1
      go_wp2_with fail
      rw [hk, Lib.run_convert_string_bytes w1 9 32 5 t Try.underlying9 Try.underlying32 Try.underlying5]
      have HK := Lib.hid hk
      clear hk hlt
      obtain ⟨m, hR2⟩ := Row.new w1 t
      obtain ⟨W2, hW2⟩ : ∃ W2, Lib.bytesWorld w1 5 t = W2 := ⟨_, rfl⟩
      have H2 := Lib.hid (show Below w.heap.size w W2 by rw [← hW2]; exact H1.out.trans ⟨rfl, rfl, rfl, by rw [Lib.bytesWorld_size]; omega, fun j hj => Lib.bytesWorld_at_old w1 5 t j (by have := H1.out.size; omega)⟩)
      have hwG : w.heap.size ≤ w1.heap.size := H1.out.size
      rw [hW2] at hR2 ⊢
      obtain ⟨G, hG⟩ : ∃ G, w1.heap.size = G := ⟨_, rfl⟩
      obtain ⟨cp, hcp⟩ : ∃ cp, grownCap w1 t.size 0 5 = cp := ⟨_, rfl⟩
      rw [hG] at hR2 hwG ⊢
      rw [hcp]
      have HR2 := Lib.hid hR2
      clear hW2 hG hcp hR2 H1
      obtain ⟨l, hl⟩ : ∃ l, t.data.toList = l := ⟨_, rfl⟩
      rw [hl] at HR2
      have hll : l.length = t.size := by rw [← hl, Array.length_toList]; rfl
      have hHL := Lib.hid hl
      have HLL := Lib.hid hll
      clear hl
      obtain ⟨c, hc⟩ : ∃ c, l[k]? = some c := ⟨l[k]'(by omega), List.getElem?_eq_getElem (by omega)⟩
      have HC := Lib.hid hc
      clear hc
      obtain ⟨B, hB⟩ : ∃ B : UInt8, (B.toNat : Int) = b := ⟨UInt8.ofNat b.toNat, by simp; omega⟩
      subst hB
      have c1 := HR2.out.cell k c HC.out
      have f1 := HR2.out.free k (by omega)
      clear hll
      obtain ⟨d, hd⟩ : ∃ d, c ^^^ B = d := ⟨_, rfl⟩
      have hx := xor_byte c B
      have hx2 := xor_byte d B
      rw [hd] at hx
      rw [← hd, xor_back, hd] at hx2
      have HX2 := Lib.hid hx2
      have HD := Lib.hid hd
      clear hd hx2
      go_wp2_with fail
      clear hx c1 f1
      have hR3 := HR2.out.set k d (by rw [HLL.out]; exact hkl)
      obtain ⟨W3, hW3⟩ : ∃ W3, W2.setCell ⟨G, k, none⟩ (.int .u8 d.toNat) = W3 := ⟨_, rfl⟩
      have H3 := Lib.hid (show Below w.heap.size w W3 by rw [← hW3]; exact H2.out.setCell hwG _)
      rw [hW3] at hR3 ⊢
      clear hW3 H2 HR2
      rw [hR3.text t.size cp (by rw [List.length_set, HLL.out])]
      have HR3 := Lib.hid hR3
      clear hR3
      go_wp2_with fail
      refine (of_text _ (by rw [List.length_set, HLL.out]; exact ht4) _).mono ?_
      rintro e w4 ⟨rfl, h4⟩
      have H4 := Lib.hid (H3.out.trans (h4.mono H3.out.size))
      have HR4 := Lib.hid (HR3.out.kept h4)
      clear h4 H3 HR3
      go_wp2_with fail
      refine (of_str t ht4 _).mono ?_
      rintro e w5 ⟨rfl, h5⟩
      have H5 := Lib.hid (H4.out.trans (h5.mono H4.out.size))
      have HR5 := Lib.hid (HR4.out.kept h5)
      clear h5 H4 HR4
      rw [hHL.out]
      obtain ⟨v, ev, eb⟩ : ∃ v : Bool, (Sm.num (Sm.of (l.set k d)) == Sm.num (Sm.of l)) = v ∧ ((B.toNat : Int) == 0) = v := by
        have hkl' : k < l.length := by rw [HLL.out]; exact hkl
        have hlc : l[k] = c := (List.getElem?_eq_some_iff.1 HC.out).2
        have hiff := Sm.set_iff l k hkl' d
        rw [hlc, ← HD.out, xor_ne] at hiff
        by_cases hB : B = 0
        · exact ⟨true, by rw [← HD.out, hiff.2 hB]; simp, by rw [hB]; rfl⟩
        · refine ⟨false, ?_, ?_⟩
          · rw [beq_eq_false_iff_ne]
            intro e
            exact hB (hiff.1 (by rw [HD.out]; exact num_inj (of_ok _) (of_ok _) e))
          · rw [beq_eq_false_iff_ne]
            intro e
            exact hB (UInt8.toNat_inj.1 (by simpa using e))
      have c1 := HR5.out.cell k d (by rw [List.getElem?_set_self (by rw [HLL.out]; exact hkl)])
      have f1 := HR5.out.free k (by rw [List.length_set, HLL.out]; exact hkl)
      have hx2 := HX2.out
      by_cases hk0 : k = 0
      · have hk0' : ((k : Int) == 0) = true := by rw [hk0]; rfl
        clear hk0
        go_wp2
        go_ret
        exact ⟨rfl, H5.out.setCell hwG _⟩
      · have hk0' : ((k : Int) == 0) = false := beq_eq_false_iff_ne.2 (by omega)
        have hk1 : 1 ≤ k := by omega
        clear hk0
        go_wp2_with fail
        obtain ⟨j, rfl⟩ : ∃ j, k = j + 1 := ⟨k - 1, by omega⟩
        rw [show ((j + 1 : Nat) : Int) = (j : Int) + 1 from by omega]
        have hjl : j < t.size := by omega
        clear hk1
        have hR6 := HR5.out.set (j + 1) c (by rw [List.length_set, HLL.out]; exact hkl)
        rw [List.set_set] at hR6
        have hlk : l.set (j + 1) c = l := by
          have hkl' : (j + 1) < l.length := by rw [HLL.out]; exact hkl
          rw [← (List.getElem?_eq_some_iff.1 HC.out).2]; exact List.set_getElem_self hkl'
        rw [hlk] at hR6
        obtain ⟨W6, hW6⟩ : ∃ W6, w5.setCell ⟨G, j + 1, none⟩ (.int .u8 c.toNat) = W6 := ⟨_, rfl⟩
        have H6 := Lib.hid (show Below w.heap.size w W6 by rw [← hW6]; exact H5.out.setCell hwG _)
        rw [hW6] at hR6 ⊢
        have HR6 := Lib.hid hR6
        clear hW6 hR6 hlk H5 HR5 c1 f1 hx2 hk0' ev eb
        obtain ⟨e, he⟩ : ∃ e, l[j]? = some e := ⟨l[j]'(by rw [HLL.out]; omega), List.getElem?_eq_getElem (by rw [HLL.out]; omega)⟩
        have HE := Lib.hid he
        clear he
        have c1 := HR6.out.cell (j + 1) c HC.out
        have c2 := HR6.out.cell (j) e HE.out
        have f1 := HR6.out.free (j + 1) (by rw [HLL.out]; exact hkl)
        have f2 := HR6.out.free (j) (by rw [HLL.out]; omega)
        obtain ⟨v', hy'⟩ := cell?_setCell_some (w := W6.drew) (p := ⟨G, j + 1, none⟩) (x := .int .u8 e.toNat) (q := ⟨G, j, none⟩) (v := .int .u8 e.toNat) (by go_simp)
        go_region
        go_wp2_with fail
        have hR7 := (HR6.out.set (j + 1) e (by rw [HLL.out]; exact hkl)).set (j) c (by rw [List.length_set, HLL.out]; omega)
        obtain ⟨l7, hl7⟩ : ∃ l7, (l.set (j + 1) e).set (j) c = l7 := ⟨_, rfl⟩
        have hll7 : l7.length = t.size := by rw [← hl7, List.length_set, List.length_set, HLL.out]
        rw [hl7] at hR7
        have HL7 := Lib.hid hl7
        have HLL7 := Lib.hid hll7
        clear hl7 hll7 c1 c2 f1 f2 hy'
        obtain ⟨W7, hW7⟩ : ∃ W7, ((W6.setCell ⟨G, j + 1, none⟩ (.int .u8 e.toNat)).setCell ⟨G, j, none⟩ (.int .u8 c.toNat)).drew = W7 := ⟨_, rfl⟩
        have H7 := Lib.hid (show Below w.heap.size w W7 by rw [← hW7]; exact ((H6.out.setCell hwG _).setCell hwG _).drew)
        have HR7 := Lib.hid (show Row W7 G l7 m by rw [← hW7]; exact hR7)
        rw [hW7]
        clear hW7 hR7 H6 HR6
        have q1 : 0 ≤ (j : Int) + 1 := by omega
        have hwr : IntKind.i64.wrap ((j : Int) + 1 - 1) = (j : Int) := by rw [IntKind.wrap_i64]; omega
        have hwr2 : IntKind.i64.wrap (j : Int) = (j : Int) := by rw [IntKind.wrap_i64]; omega
        have q2 : (j : Int) + 1 < (t.size : Int) := by omega
        have D2 : Hid (Row W7.drew G l7 m) := HR7.out
        have D3 : Hid (Below w.heap.size w W7.drew) := H7.out.drew
        have D1 : (convert 32 9 (.slice (some ⟨G, 0, none⟩) t.size cp)).run Try.prog W7.drew = .ok (.string ⟨l7.toArray⟩) W7.drew := D2.out.text t.size cp HLL7.out
        have hv : ((Sm.num (Sm.of l7) == Sm.num (Sm.of l)) == ((t[j + 1].toNat : Int) == (t[j].toNat : Int))) = true := by
          have g0 : t[j] = e := by
            have h1 : l[j]'(by rw [HLL.out]; omega) = e := (List.getElem?_eq_some_iff.1 HE.out).2
            rw [← h1]; simp only [← hHL.out]; exact rfl
          have g1 : t[j + 1] = c := by
            have h1 : l[j + 1]'(by rw [HLL.out]; omega) = c := (List.getElem?_eq_some_iff.1 HC.out).2
            rw [← h1]; simp only [← hHL.out]; exact rfl
          have hiff := Sm.swap_iff l j e c (by rw [HLL.out]; exact hkl) (List.getElem?_eq_some_iff.1 HE.out).2 (List.getElem?_eq_some_iff.1 HC.out).2
          rw [HL7.out] at hiff
          rw [g0, g1]
          by_cases hce : c = e
          · rw [hiff.2 hce, hce]; simp
          · have n1 : (Sm.num (Sm.of l7) == Sm.num (Sm.of l)) = false := beq_eq_false_iff_ne.2 (fun h => hce (hiff.1 (num_inj (of_ok _) (of_ok _) h)))
            have n2 : ((c.toNat : Int) == (e.toNat : Int)) = false := beq_eq_false_iff_ne.2 (fun h => hce (UInt8.toNat_inj.1 (by omega)))
            rw [n1, n2]; rfl
        have HV := Lib.hid hv
        clear hv
        have ct1 := of_text l7 (by rw [HLL7.out]; exact ht4)
        have ct2 := of_str t ht4
        rw [hHL.out] at ct2
        go_region_held3 (fun W => (convert 32 9 (.slice (some ⟨G, 0, none⟩) t.size cp)).run Try.prog W = .ok (.string ⟨l7.toArray⟩) W ∧ Hid (Row W G l7 m) ∧ Hid (Below w.heap.size w W))
          (first | assumption | exact D1 | exact D2 | exact D3 | exact ⟨D1, D2, D3⟩ | exact ⟨hA, hB, hC⟩)
          (first | (go_at_call 8; refine (both_S (cp := cp) HLL7.out ct1 (by assumption) (by assumption)).mono ?_; rintro e w' ⟨rfl, hA, hB, hC⟩) | (go_at_call 8; refine (both_S (cp := cp) HLL7.out ct2 (by assumption) (by assumption)).mono ?_; rintro e w' ⟨rfl, hA, hB, hC⟩))
        all_goals go_wp2_with fail
        all_goals go_ret
        all_goals exact ⟨congrArg (fun z => Ending.returned (.bool z)) HV.out, by assumption⟩
end Go.Proofs.Ytjlcigdhhkfdiaa
