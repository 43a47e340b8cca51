/- The map of a row of leases: from an event and an id to a place: how the model's look-up, store, delete and entry run on it. -/
import Derived.Test.YtfkbiecbnjddmaaBasex
import Derived.WalkKit
import Derived.KernelRfl
import Derived.DeepKeys4
import Derived.WideKeyEntry
import Derived.ChangeMaps4
namespace Go.Proofs.Ytfkbiecbnjddmaa
open Go.RowKit Go.MapKept Go.ChangeMaps Go.ChangeShapes
set_option linter.unusedSimpArgs false

theorem laidOut : laidOutB Try.prog = true := by kernel_rfl
def keyV (k : Int × Int) : Value := .agg #[.int .i64 k.1, .int .u32 k.2]
def okKey (k : Int × Int) : Prop := (Lit.int .i64 k.1).wf = true ∧ (Lit.int .u32 k.2).wf = true
theorem keyV_inj {a b : Int × Int} (h : keyV a = keyV b) : a = b := by
  cases a; cases b; simp [keyV] at h; simp [h]

/-- the type of keys: a struct of an int and a uint32 -/
structure KeyTy (k : TypeId) : Prop where
  law : WideMaps.KeyLaw Try.prog k
  key : ∀ x : Int × Int, okKey x → ∃ l, keyOf Try.prog k (keyV x) = some l

theorem key87 : KeyTy 87 where
  law := deep_law_laid laidOut (m := 3) (by omega) (of_decide_eq_true (by kernel_rfl)) (by kernel_rfl) (by kernel_rfl)
  key := by
    rintro ⟨a, b⟩ ⟨ha, hb⟩
    show ∃ l, keyOf Try.prog 87 (.agg #[.int .i64 a, .int .u32 b]) = some l
    replace ha : (Lit.int .i64 a).wf = true := ha
    replace hb : (Lit.int .u32 b).wf = true := hb
    have hu := Try.underlying87
    have h1 : 1 ≤ Try.prog.types.size := of_decide_eq_true (by kernel_rfl)
    obtain ⟨m, hm⟩ : ∃ m, Try.prog.types.size + 1 = m + 2 := ⟨Try.prog.types.size - 1, by omega⟩
    have hkt : Try.prog.keyType 87 = true := by kernel_rfl
    have hsz : Try.prog.cellsOf 87 = 2 := by kernel_rfl
    have h3 : Try.prog.cellsOf 3 = 1 := by kernel_rfl
    have h32 : Try.prog.cellsOf 32 = 1 := by kernel_rfl
    have u3 : Try.prog.underlying 3 = some (.int .i64) := by kernel_rfl
    have u32 : Try.prog.underlying 32 = some (.int .u32) := by kernel_rfl
    unfold keyOf
    simp only [hu]
    rw [if_pos (by simp [hkt, Value.formed, hu, hsz])]
    rw [hm]
    unfold Program.keyLits
    simp only [hu, Value.cells]
    simp [h3, h32, u3, u32, hsz, Program.keyLits, ha, hb]

/-- A map at block M, from keys to integers of kind kd: the relation R of its entries, and how many. -/
def MapIs (W : World) (M : Nat) (kd : IntKind) (R : Int × Int → Int → Prop) (n : Nat) : Prop :=
  ∃ es clock, W.heap[M]? = some (.map es clock) ∧ Stamped es clock ∧ es.size = n ∧
    (∀ e ∈ es.toList, ∃ k p, okKey k ∧ e.key = keyV k ∧ e.val = .int kd p) ∧
    ∀ k p, R k p ↔ ∃ e ∈ es.toList, e.key = keyV k ∧ e.val = .int kd p

theorem MapIs.congr {W W' : World} {M : Nat} {kd : IntKind} {R R' : Int × Int → Int → Prop} {n : Nat} (h : MapIs W M kd R n) (hb : W'.heap[M]? = W.heap[M]?) (hR : ∀ k p, R' k p ↔ R k p) : MapIs W' M kd R' n := by
  obtain ⟨es, cl, h1, h2, h3, h4, h5⟩ := h
  exact ⟨es, cl, hb.trans h1, h2, h3, h4, fun k p => (hR k p).trans (h5 k p)⟩
theorem MapIs.lt {W : World} {M : Nat} {kd : IntKind} {R : Int × Int → Int → Prop} {n : Nat} (h : MapIs W M kd R n) : M < W.heap.size := by
  obtain ⟨es, cl, h1, _⟩ := h
  exact (Array.getElem?_eq_some_iff.1 h1).1
theorem MapIs.block {W : World} {M : Nat} {kd : IntKind} {R : Int × Int → Int → Prop} {n : Nat} (h : MapIs W M kd R n) : ∃ es clock, W.heap[M]? = some (.map es clock) := by
  obtain ⟨es, cl, h1, _⟩ := h
  exact ⟨es, cl, h1⟩
theorem MapIs.nodup {W : World} {M : Nat} {kd : IntKind} {R : Int × Int → Int → Prop} {n : Nat} (h : MapIs W M kd R n) {k : Int × Int} {p q : Int} (hp : R k p) (hq : R k q) : p = q := by
  obtain ⟨es, cl, h1, h2, h3, h4, h5⟩ := h
  obtain ⟨e, he, k1, v1⟩ := (h5 k p).1 hp
  obtain ⟨e', he', k2, v2⟩ := (h5 k q).1 hq
  have : e = e' := by
    have hn := ((stamped_iff es cl).1 h2).2.2
    obtain ⟨i, hi⟩ := List.getElem?_of_mem he
    obtain ⟨j, hj⟩ := List.getElem?_of_mem he'
    obtain ⟨hi1, hi2⟩ := List.getElem?_eq_some_iff.1 hi
    obtain ⟨hj1, hj2⟩ := List.getElem?_eq_some_iff.1 hj
    rw [List.pairwise_iff_getElem] at hn
    rcases Nat.lt_trichotomy i j with hlt | heq | hgt
    · exact absurd (by rw [hi2, hj2, k1, k2]) (hn i j hi1 hj1 hlt)
    · subst heq
      rw [hi] at hj
      exact Option.some.inj hj
    · exact absurd (by rw [hi2, hj2, k1, k2]) (hn j i hj1 hi1 hgt)
  subst this
  rw [v1] at v2
  simpa using v2

section
variable {kt t e : TypeId} {W : World} {M : Nat} {kd : IntKind} {R : Int × Int → Int → Prop} {n : Nat}

theorem MapIs.find (K : KeyTy kt) (h : MapIs W M kd R n) {k : Int × Int} (hk : okKey k) :
    ∃ es clock, W.heap[M]? = some (.map es clock) ∧ Stamped es clock ∧ es.size = n ∧ (∀ e ∈ es.toList, ∃ k p, okKey k ∧ e.key = keyV k ∧ e.val = .int kd p) ∧ (∀ k p, R k p ↔ ∃ e ∈ es.toList, e.key = keyV k ∧ e.val = .int kd p) ∧
      (((∀ w : World, (Instr.findKey kt (keyV k) es.toList).run Try.prog w = .ok none w) ∧ (∀ e ∈ es.toList, e.key ≠ keyV k) ∧ ∀ p, ¬ R k p) ∨
        ∃ j e0 p, (∀ w : World, (Instr.findKey kt (keyV k) es.toList).run Try.prog w = .ok (some (j, .int kd p)) w) ∧ es.toList[j]? = some e0 ∧ e0.key = keyV k ∧ e0.val = .int kd p ∧ R k p) := by
  obtain ⟨es, cl, h1, h2, h3, h4, h5⟩ := h
  refine ⟨es, cl, h1, h2, h3, h4, h5, ?_⟩
  obtain ⟨l, hl⟩ := K.key k hk
  have hkeys : ∀ e ∈ es.toList, ∃ l, keyOf Try.prog kt e.key = some l := by
    intro e he
    obtain ⟨k', p, hk', e1, _⟩ := h4 e he
    rw [e1]
    exact K.key k' hk'
  rcases K.law.find W hl es.toList hkeys with ⟨_, hno⟩ | ⟨j, e0, _, hj, he⟩
  · refine .inl ⟨fun w => ?_, hno, fun p hp => ?_⟩
    · rcases K.law.find w hl es.toList hkeys with ⟨r, _⟩ | ⟨j, e0, _, hj, he⟩
      · exact r
      · exact absurd he (hno e0 (List.mem_of_getElem? hj))
    · obtain ⟨e, he, k1, _⟩ := (h5 k p).1 hp
      exact hno e he k1
  · obtain ⟨k', p, hk', e1, e2⟩ := h4 e0 (List.mem_of_getElem? hj)
    refine .inr ⟨j, e0, p, fun w => ?_, hj, he, e2, (h5 k p).2 ⟨e0, List.mem_of_getElem? hj, he, e2⟩⟩
    rcases K.law.find w hl es.toList hkeys with ⟨_, hno⟩ | ⟨j', e0', r, hj', he'⟩
    · exact absurd he (hno e0 (List.mem_of_getElem? hj))
    · have hn := ((stamped_iff es cl).1 h2).2.2
      rw [List.pairwise_iff_getElem] at hn
      obtain ⟨hi1, hi2⟩ := List.getElem?_eq_some_iff.1 hj
      obtain ⟨hj1, hj2⟩ := List.getElem?_eq_some_iff.1 hj'
      rcases Nat.lt_trichotomy j j' with hlt | heq | hgt
      · exact absurd (by rw [hi2, hj2, he, he']) (hn j j' hi1 hj1 hlt)
      · subst heq
        rw [hj] at hj'
        obtain rfl := Option.some.inj hj'
        rw [r, e2]
      · exact absurd (by rw [hi2, hj2, he, he']) (hn j' j hj1 hi1 hgt)

theorem MapIs.check (K : KeyTy kt) {k : Int × Int} (hk : okKey k) (b : Bool) (w : World) : (Instr.checkKey b 10000 kt (keyV k)).run Try.prog w = .ok () w := by
  obtain ⟨l, hl⟩ := K.key k hk
  exact K.law.check w b hl

/-- v, is := m[k] -/
theorem MapIs.lookup (K : KeyTy kt) (ht : Try.prog.underlying t = some (.map kt e)) (hz : ∀ w : World, (zeroValue e).run Try.prog w = .ok (.int kd 0) w) (h : MapIs W M kd R n) {k : Int × Int} (hk : okKey k) :
    (∃ p, R k p ∧ (Instr.lookup t (.map (some M)) (keyV k) true).run Try.prog W = .ok (.tuple #[.int kd p, .bool true]) W) ∨
    ((∀ p, ¬ R k p) ∧ (Instr.lookup t (.map (some M)) (keyV k) true).run Try.prog W = .ok (.tuple #[.int kd 0, .bool false]) W) := by
  obtain ⟨es, cl, h1, h2, h3, h4, h5, hf⟩ := h.find K hk
  rcases hf with ⟨f1, f2, f3⟩ | ⟨j, e0, p, f1, f2, f3, f4, f5⟩
  · exact .inr ⟨f3, by simp [Instr.lookup, run_underlying ht, MapKept.run_getObj_map h1, MapIs.check K hk, f1, hz, Result.andThen]⟩
  · exact .inl ⟨p, f5, by simp [Instr.lookup, run_underlying ht, MapKept.run_getObj_map h1, MapIs.check K hk, f1, Result.andThen]⟩

def putR (R : Int × Int → Int → Prop) (k : Int × Int) (v : Int) (k' : Int × Int) (p : Int) : Prop := (k' = k ∧ p = v) ∨ (k' ≠ k ∧ R k' p)
def delR (R : Int × Int → Int → Prop) (k : Int × Int) (k' : Int × Int) (p : Int) : Prop := k' ≠ k ∧ R k' p

theorem MapIs.pushed {es : Array MapEntry} {cl : Nat} (hb : W.heap[M]? = some (.map es cl)) (h2 : Stamped es cl) (h4 : ∀ e ∈ es.toList, ∃ k p, okKey k ∧ e.key = keyV k ∧ e.val = .int kd p) (h5 : ∀ k p, R k p ↔ ∃ e ∈ es.toList, e.key = keyV k ∧ e.val = .int kd p)
    {k : Int × Int} (hk : okKey k) (v : Int) (hno : ∀ e ∈ es.toList, e.key ≠ keyV k) : MapIs (setBlock W M (.map (es.push ⟨keyV k, .int kd v, cl⟩) (cl + 1))) M kd (putR R k v) (es.size + 1) := by
  refine ⟨_, _, heap_setBlock_same hb _, stamped_push h2 hno, by simp, ?_, ?_⟩
  · intro e he
    simp only [Array.toList_push, List.mem_append, List.mem_singleton] at he
    rcases he with he | rfl
    · exact h4 e he
    · exact ⟨k, v, hk, rfl, rfl⟩
  · intro k' p
    simp only [Array.toList_push, List.mem_append, List.mem_singleton, putR]
    constructor
    · rintro (⟨rfl, rfl⟩ | ⟨hne, hr⟩)
      · exact ⟨_, .inr rfl, rfl, rfl⟩
      · obtain ⟨e, he, e1, e2⟩ := (h5 k' p).1 hr
        exact ⟨e, .inl he, e1, e2⟩
    · rintro ⟨e, he | rfl, e1, e2⟩
      · refine .inr ⟨fun hkk => hno e he (by rw [e1, hkk]), (h5 k' p).2 ⟨e, he, e1, e2⟩⟩
      · exact .inl ⟨(keyV_inj e1).symm, by simpa using e2.symm⟩

theorem MapIs.modified {es : Array MapEntry} {cl : Nat} (hb : W.heap[M]? = some (.map es cl)) (h2 : Stamped es cl) (h4 : ∀ e ∈ es.toList, ∃ k p, okKey k ∧ e.key = keyV k ∧ e.val = .int kd p) (h5 : ∀ k p, R k p ↔ ∃ e ∈ es.toList, e.key = keyV k ∧ e.val = .int kd p)
    {k : Int × Int} (hk : okKey k) (v : Int) {j : Nat} {e0 : MapEntry} (hj : es.toList[j]? = some e0) (hkey : e0.key = keyV k) :
    MapIs (setBlock W M (.map (es.modify j fun e' => { e' with key := keyV k, val := .int kd v }) cl)) M kd (putR R k v) es.size := by
  have hj' : es[j]? = some e0 := by simpa using hj
  have hl : (es.modify j fun e' => { e' with key := keyV k, val := .int kd v }).toList = es.toList.set j ⟨keyV k, .int kd v, e0.born⟩ := by
    rw [Array.toList_modify, modify_eq_set _ _ _ _ hj]
  have hjl : j < es.toList.length := (List.getElem?_eq_some_iff.1 hj).1
  have hn := ((stamped_iff es cl).1 h2).2.2
  rw [List.pairwise_iff_getElem] at hn
  refine ⟨_, _, heap_setBlock_same hb _, stamped_modify h2 _ _ (fun _ _ => rfl) (fun e' _ he' => by rw [hj'] at he'; cases he'; exact hkey.symm), by simp, ?_, ?_⟩
  · intro e he
    rw [hl] at he
    rcases List.mem_or_eq_of_mem_set he with he | rfl
    · exact h4 e he
    · exact ⟨k, v, hk, rfl, rfl⟩
  · intro k' p
    rw [hl]
    constructor
    · rintro (⟨rfl, rfl⟩ | ⟨hne, hr⟩)
      · exact ⟨_, List.mem_set hjl _, rfl, rfl⟩
      · obtain ⟨e, he, e1, e2⟩ := (h5 k' p).1 hr
        obtain ⟨i, hi⟩ := List.getElem?_of_mem he
        refine ⟨e, ?_, e1, e2⟩
        have hij : j ≠ i := by
          rintro rfl
          rw [hj] at hi
          cases hi
          exact hne (keyV_inj (e1.symm.trans hkey))
        refine List.mem_of_getElem? (i := i) ?_
        rw [List.getElem?_set_ne hij]
        exact hi
    · rintro ⟨e, he, e1, e2⟩
      obtain ⟨i, hi⟩ := List.getElem?_of_mem he
      by_cases hij : j = i
      · subst hij
        rw [List.getElem?_set_self hjl] at hi
        obtain rfl := Option.some.inj hi
        exact .inl ⟨(keyV_inj e1).symm, by simpa using e2.symm⟩
      · rw [List.getElem?_set_ne hij] at hi
        refine .inr ⟨fun hkk => ?_, (h5 k' p).2 ⟨e, List.mem_of_getElem? hi, e1, e2⟩⟩
        obtain ⟨a1, a2⟩ := List.getElem?_eq_some_iff.1 hi
        obtain ⟨b1, b2⟩ := List.getElem?_eq_some_iff.1 hj
        rcases Nat.lt_or_gt_of_ne hij with hlt | hgt
        · exact hn j i b1 a1 hlt (by rw [a2, b2, hkey, e1, hkk])
        · exact hn i j a1 b1 hgt (by rw [a2, b2, hkey, e1, hkk])

/-- m[k] = v -/
theorem MapIs.update (K : KeyTy kt) (ht : Try.prog.underlying t = some (.map kt e)) (h : MapIs W M kd R n) {k : Int × Int} (hk : okKey k) (v : Int) :
    ∃ o n', (Instr.mapUpdate t (.map (some M)) (keyV k) (.int kd v)).run Try.prog W = .ok () (setBlock W M o) ∧ MapIs (setBlock W M o) M kd (putR R k v) n' ∧ ((∃ p, R k p) → n' = n) ∧ ((∀ p, ¬ R k p) → n' = n + 1) := by
  obtain ⟨l, hl⟩ := K.key k hk
  obtain ⟨es, cl, h1, h2, h3, h4, h5, hf⟩ := h.find K hk
  rcases hf with ⟨f1, f2, f3⟩ | ⟨j, e0, p, f1, f2, f3, f4, f5⟩
  · exact ⟨_, _, by simp [Instr.mapUpdate, run_underlying ht, MapKept.run_getObj_map h1, MapIs.check K hk, f1, MapKept.run_setObj_map _ h1, Result.andThen, setBlock], MapIs.pushed h1 h2 h4 h5 hk v f2, fun ⟨p, hp⟩ => absurd hp (f3 p), fun _ => by rw [h3]⟩
  · have hj : es[j]? = some e0 := by simpa using f2
    exact ⟨_, _, by simp [Instr.mapUpdate, run_underlying ht, MapKept.run_getObj_map h1, MapIs.check K hk, f1, hj, f3, K.law.stays W hl, MapKept.run_setObj_map _ h1, Result.andThen, setBlock], MapIs.modified h1 h2 h4 h5 hk v f2 f3, fun _ => h3, fun hno => absurd f5 (hno p)⟩

/-- delete(m, k) -/
theorem MapIs.delete {ty : TypeId} (K : KeyTy kt) (ht : Try.prog.underlying t = some (.map kt e)) (h : MapIs W M kd R n) {k : Int × Int} (hk : okKey k) :
    ∃ o n', (Builtin.delete_ #[t, kt] ty #[.map (some M), keyV k]).run Try.prog W = .ok (.tuple #[]) (setBlock W M o) ∧ MapIs (setBlock W M o) M kd (delR R k) n' ∧ ((∃ p, R k p) → n' + 1 = n) ∧ ((∀ p, ¬ R k p) → n' = n) := by
  obtain ⟨es, cl, h1, h2, h3, h4, h5, hf⟩ := h.find K hk
  rcases hf with ⟨f1, f2, f3⟩ | ⟨j, e0, p, f1, f2, f3, f4, f5⟩
  · refine ⟨.map es cl, n, by simp [Builtin.delete_, run_underlying ht, MapKept.run_getObj_map h1, MapIs.check K hk, f1, MapKept.run_setObj_map _ h1, Result.andThen, setBlock], ⟨es, cl, heap_setBlock_same h1 _, h2, h3, h4, fun k' p => ?_⟩, fun ⟨p, hp⟩ => absurd hp (f3 p), fun _ => rfl⟩
    constructor
    · exact fun ⟨_, hr⟩ => (h5 k' p).1 hr
    · exact fun hr => ⟨fun hkk => f3 p (hkk ▸ (h5 k' p).2 hr), (h5 k' p).2 hr⟩
  · have hjl : j < es.toList.length := (List.getElem?_eq_some_iff.1 f2).1
    have hjs : j < es.size := by simpa using hjl
    have hsub : (es.eraseIdxIfInBounds j).toList = es.toList.eraseIdx j := by
      unfold Array.eraseIdxIfInBounds
      rw [dif_pos hjs]
      simp
    have hsz : (es.eraseIdxIfInBounds j).size = es.size - 1 := by
      rw [← Array.length_toList, hsub, List.length_eraseIdx, if_pos hjl, Array.length_toList]
    have hn := ((stamped_iff es cl).1 h2).2.2
    rw [List.pairwise_iff_getElem] at hn
    refine ⟨.map (es.eraseIdxIfInBounds j) cl, es.size - 1, by simp [Builtin.delete_, run_underlying ht, MapKept.run_getObj_map h1, MapIs.check K hk, f1, MapKept.run_setObj_map _ h1, Result.andThen, setBlock], ⟨_, _, heap_setBlock_same h1 _, stamped_erase h2 j, hsz, fun e he => ?_, fun k' p => ?_⟩, fun _ => by omega, fun hno => absurd f5 (hno p)⟩
    · rw [hsub] at he
      exact h4 e ((List.eraseIdx_sublist _ _).subset he)
    · rw [hsub]
      constructor
      · rintro ⟨hne, hr⟩
        obtain ⟨e, he, e1, e2⟩ := (h5 k' p).1 hr
        refine ⟨e, ?_, e1, e2⟩
        obtain ⟨i, hi⟩ := List.getElem?_of_mem he
        have hij : i ≠ j := by
          rintro rfl
          rw [f2] at hi
          cases hi
          exact hne (keyV_inj (e1.symm.trans f3))
        exact List.mem_eraseIdx_iff_getElem?.2 ⟨i, hij, hi⟩
      · rintro ⟨e, he, e1, e2⟩
        obtain ⟨i, hij, hi⟩ := List.mem_eraseIdx_iff_getElem?.1 he
        refine ⟨fun hkk => ?_, (h5 k' p).2 ⟨e, List.mem_of_getElem? hi, e1, e2⟩⟩
        obtain ⟨a1, a2⟩ := List.getElem?_eq_some_iff.1 hi
        obtain ⟨b1, b2⟩ := List.getElem?_eq_some_iff.1 f2
        rcases Nat.lt_or_gt_of_ne hij with hlt | hgt
        · exact hn i j a1 b1 hlt (by rw [a2, b2, f3, e1, hkk])
        · exact hn j i b1 a1 hgt (by rw [a2, b2, f3, e1, hkk])

theorem setBlock_self {w : World} {b : Nat} {o : Obj} (h : w.heap[b]? = some o) : setBlock w b o = w := by
  obtain ⟨h1, h2⟩ := Array.getElem?_eq_some_iff.1 h
  have : w.heap.setIfInBounds b o = w.heap := by
    apply Array.ext
    · simp
    · intro i hi hi'
      rw [Array.getElem_setIfInBounds]
      split
      · rename_i e; subst e; exact h2.symm
      · rfl
  simp [setBlock, this]

/-- m[k] op v, the entry there: its stamp stays, whatever is stored -/
structure EntryAt (es : Array MapEntry) (k : Int × Int) (st : Nat) : Prop where
  here : ∃ e ∈ es.toList, e.key = keyV k ∧ e.born = st

theorem MapIs.entry (K : KeyTy kt) (ht : Try.prog.underlying t = some (.map kt e)) (h : MapIs W M kd R n) {k : Int × Int} (hk : okKey k) {p : Int} (hp : R k p) :
    ∃ st : Nat, (Instr.mapEntry t (.map (some M)) (keyV k)).run Try.prog W = .ok (.tuple #[.int kd p, goInt st]) W ∧ (∀ es clock, W.heap[M]? = some (.map es clock) → EntryAt es k st) := by
  obtain ⟨l, hl⟩ := K.key k hk
  have h0 := h
  obtain ⟨es, cl, h1, h2, h3, h4, h5, hf⟩ := h.find K hk
  rcases hf with ⟨f1, f2, f3⟩ | ⟨j, e0, q, f1, f2, f3, f4, f5⟩
  · exact absurd hp (f3 p)
  · have hj : es[j]? = some e0 := by simpa using f2
    obtain rfl := h0.nodup hp f5
    have hsame : es.modify j (fun e => { e with key := keyV k }) = es := by
      apply Array.ext'
      rw [Array.toList_modify, modify_eq_set _ _ _ _ f2]
      have : ({ e0 with key := keyV k } : MapEntry) = e0 := by rw [← f3]
      rw [this]
      exact WideElems.set_self _ _ _ f2
    refine ⟨e0.born, ?_, fun es' cl' hb => ?_⟩
    · have hself := setBlock_self h1
      rw [setBlock] at hself
      simp [Instr.mapEntry, run_underlying ht, MapKept.run_getObj_map h1, MapIs.check K hk, f1, hj, f3, K.law.stays W hl, hsame, MapKept.run_setObj_map _ h1, Result.andThen, hself, f4]
    · rw [h1] at hb
      cases hb
      exact ⟨e0, List.mem_of_getElem? f2, f3, rfl⟩

theorem MapIs.entryStore (h : MapIs W M kd R n) {k : Int × Int} (hk : okKey k) {st : Nat} (hst : ∀ es clock, W.heap[M]? = some (.map es clock) → EntryAt es k st) (v : Int) :
    ∃ es' cl', (Instr.entryStore t (.map (some M)) (goInt st) (.int kd v)).run Try.prog W = .ok () (setBlock W M (.map es' cl')) ∧ MapIs (setBlock W M (.map es' cl')) M kd (putR R k v) n ∧
      ∀ es cl, W.heap[M]? = some (.map es cl) → ∀ k' st', EntryAt es k' st' → EntryAt es' k' st' := by
  obtain ⟨es, cl, h1, h2, h3, h4, h5⟩ := h
  obtain ⟨e0, he0, f3, rfl⟩ := (hst es cl h1).here
  obtain ⟨j, f2⟩ := List.getElem?_of_mem he0
  have hidx : es.findIdx? (fun e => ((e.born : Nat) : Int) == ((e0.born : Nat) : Int)) = some j := by
    rw [WideElems.findIdx_arr]
    exact WideElems.findIdx_born h2.2.1 f2
  have hmod : es.modify j (fun e => { e with val := .int kd v }) = es.modify j (fun e' => { e' with key := keyV k, val := .int kd v }) := by
    apply Array.ext'
    rw [Array.toList_modify, Array.toList_modify, modify_eq_set _ _ _ _ f2, modify_eq_set _ _ _ _ f2, ← f3]
  refine ⟨_, _, by simp [Instr.entryStore, MapKept.run_getObj_map h1, asInt, asIntOf, goInt, hidx, hmod, MapKept.run_setObj_map _ h1, Result.andThen, setBlock], h3 ▸ MapIs.modified h1 h2 h4 h5 hk v f2 f3, ?_⟩
  intro es1 cl1 hb k' st' hat
  rw [h1] at hb
  cases hb
  obtain ⟨e, he, e1, e2⟩ := hat.here
  have hl : (es.modify j fun e' => { e' with key := keyV k, val := .int kd v }).toList = es.toList.set j ⟨keyV k, .int kd v, e0.born⟩ := by
    rw [Array.toList_modify, modify_eq_set _ _ _ _ f2]
  have hjl : j < es.toList.length := (List.getElem?_eq_some_iff.1 f2).1
  obtain ⟨i, hi⟩ := List.getElem?_of_mem he
  by_cases hij : j = i
  · subst hij
    rw [f2] at hi
    obtain rfl := Option.some.inj hi
    exact ⟨⟨⟨keyV k, .int kd v, e0.born⟩, by rw [hl]; exact List.mem_set hjl _, f3.symm.trans e1, e2⟩⟩
  · exact ⟨⟨e, by rw [hl]; exact List.mem_of_getElem? (i := i) (by rw [List.getElem?_set_ne hij]; exact hi), e1, e2⟩⟩
end

end Go.Proofs.Ytfkbiecbnjddmaa
