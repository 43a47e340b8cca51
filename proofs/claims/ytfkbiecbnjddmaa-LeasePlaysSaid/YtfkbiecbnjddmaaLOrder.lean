/- LeaseOrder: the map of what is there, and the walk. -/
import Derived.Test.YtfkbiecbnjddmaaLActs
import Derived.Test.YtfkbiecbnjddmaaLWorks
import Derived.Test.YtfkbiecbnjddmaaLGiven
namespace Go.Proofs.Ytfkbiecbnjddmaa
open Go.RowKit Go.MapKept Go.ChangeMaps Go.ChangeShapes Go.Proofs.YtfkbiecbnjddmaaW.PrintWords
set_option linter.unusedVariables false
set_option linter.unusedSimpArgs false
theorem key67 : KeyTy 67 where
  law := deep_law_laid laidOut (m := 3) (by omega) (of_decide_eq_true (by kernel_rfl)) (by kernel_rfl) (by kernel_rfl)
  key := by
    rintro ⟨a, b⟩ ⟨ha, hb⟩
    show ∃ l, keyOf Try.prog 67 (.agg #[.int .i64 a, .int .u32 b]) = some l
    replace ha : (Lit.int .i64 a).wf = true := ha
    replace hb : (Lit.int .u32 b).wf = true := hb
    have hu := Try.underlying67
    have h1 : 1 ≤ Try.prog.types.size := of_decide_eq_true (by kernel_rfl)
    obtain ⟨m, hm⟩ : ∃ m, Try.prog.types.size + 1 = m + 2 := ⟨Try.prog.types.size - 1, by omega⟩
    have hkt : Try.prog.keyType 67 = true := by kernel_rfl
    have hsz : Try.prog.cellsOf 67 = 2 := by kernel_rfl
    have h3 : Try.prog.cellsOf 3 = 1 := by kernel_rfl
    have h32 : Try.prog.cellsOf 32 = 1 := by kernel_rfl
    have u3 : Try.prog.underlying 3 = some (.int .i64) := by kernel_rfl
    have u32 : Try.prog.underlying 32 = some (.int .u32) := by kernel_rfl
    unfold keyOf
    simp only [hu]
    rw [if_pos (by simp [hkt, Value.formed, hu, hsz])]
    rw [hm]
    unfold Program.keyLits
    simp only [hu, Value.cells]
    simp [h3, h32, u3, u32, hsz, Program.keyLits, ha, hb]
theorem zero22 (w : World) : (zeroValue 22).run Try.prog w = .ok (.int .u64 0) w := by kernel_rfl
theorem made65 (W : World) : (Instr.makeMap 65 none).run Try.prog W = .ok (.map (some W.heap.size)) (W.alloc (.map #[] 0)) := by
  simp [Instr.makeMap, Result.andThen]
/-- which key is there, and till when -/
def Till' (xs : List Lz) (k : Int × Int) (p : Int) : Prop := ∃ x, x ∈ xs ∧ x.key = k ∧ x.2.2 = p
theorem Till'.perm {xs ys : List Lz} (h : xs.Perm ys) (k : Int × Int) (p : Int) : Till' xs k p ↔ Till' ys k p := by
  constructor
  · rintro ⟨x, hx, h1, h2⟩; exact ⟨x, h.mem_iff.1 hx, h1, h2⟩
  · rintro ⟨x, hx, h1, h2⟩; exact ⟨x, h.mem_iff.2 hx, h1, h2⟩
/-- the map at block T tells of the leases xs -/
def There (W : World) (T : Nat) (xs : List Lz) : Prop := MapIs W T .u64 (Till' xs) xs.length
theorem There.del_none {W : World} {T : Nat} {xs : List Lz} (h : There W T xs) {k : Int × Int} (hk : okKey k) (hno : k ∉ xs.map Lz.key) (ty : TypeId) :
    ∃ o, (Builtin.delete_ #[65, 67] ty #[.map (some T), keyV k]).run Try.prog W = .ok (.tuple #[]) (setBlock W T o) ∧ There (setBlock W T o) T xs := by
  have h' : MapIs W T .u64 (Till' xs) xs.length := h
  obtain ⟨o, n', hr, hm, _, hn⟩ := h'.delete (ty := ty) key67 Try.underlying65 hk
  have hn' : n' = xs.length := hn (fun p ⟨x, hx, h1, _⟩ => hno (h1 ▸ List.mem_map.2 ⟨x, hx, rfl⟩))
  subst hn'
  refine ⟨o, hr, hm.congr rfl fun k' p => ?_⟩
  constructor
  · intro hx
    refine ⟨fun e => ?_, hx⟩
    obtain ⟨x, hx, h1, _⟩ := hx
    exact hno (e ▸ h1 ▸ List.mem_map.2 ⟨x, hx, rfl⟩)
  · exact fun ⟨_, hx⟩ => hx
theorem key_unique : ∀ {xs : List Lz} (hn : (xs.map Lz.key).Nodup) {x z : Lz} (hx : x ∈ xs) (hz : z ∈ xs) (h : x.key = z.key), x = z
  | [], _, _, _, hx, _, _ => by simp at hx
  | a :: r, hn, x, z, hx, hz, h => by
    rw [List.map_cons, List.nodup_cons] at hn
    rcases List.mem_cons.1 hx with h1 | h1
    · rcases List.mem_cons.1 hz with h2 | h2
      · rw [h1, h2]
      · exact absurd (List.mem_map.2 ⟨z, h2, by rw [← h, h1]⟩) hn.1
    · rcases List.mem_cons.1 hz with h2 | h2
      · exact absurd (List.mem_map.2 ⟨x, h1, by rw [h, h2]⟩) hn.1
      · exact key_unique hn.2 h1 h2 h
theorem There.del_one {W : World} {T : Nat} {xs : List Lz} (h : There W T xs) {z : Lz} (hk : okKey z.key) (hz : z ∈ xs) (hn : (xs.map Lz.key).Nodup) (ty : TypeId) :
    ∃ o, (Builtin.delete_ #[65, 67] ty #[.map (some T), keyV z.key]).run Try.prog W = .ok (.tuple #[]) (setBlock W T o) ∧ There (setBlock W T o) T (xs.erase z) := by
  have h' : MapIs W T .u64 (Till' xs) xs.length := h
  obtain ⟨o, n', hr, hm, hn1, _⟩ := h'.delete (ty := ty) key67 Try.underlying65 hk
  have hn' : n' = (xs.erase z).length := by
    have := hn1 ⟨z.2.2, z, hz, rfl, rfl⟩
    rw [List.length_erase_of_mem hz]
    omega
  subst hn'
  have hnx : xs.Nodup := by
    have := List.nodup_iff_pairwise_ne.1 hn
    rw [List.pairwise_map] at this
    exact List.nodup_iff_pairwise_ne.2 (this.imp (fun h e => h (by rw [e])))
  refine ⟨o, hr, hm.congr rfl fun k' p => ?_⟩
  constructor
  · rintro ⟨x, hx, h1, h2⟩
    rw [hnx.mem_erase_iff] at hx
    exact ⟨fun e => hx.1 (key_unique hn hx.2 hz (h1.trans e)), x, hx.2, h1, h2⟩
  · rintro ⟨hne, x, hx, h1, h2⟩
    refine ⟨x, (hnx.mem_erase_iff).2 ⟨fun e => hne (by rw [← h1, e]), hx⟩, h1, h2⟩
theorem There.put {W : World} {T : Nat} {xs : List Lz} (h : There W T xs) {x : Lz} (hk : okKey x.key) (hno : x.key ∉ xs.map Lz.key) :
    ∃ o, (Instr.mapUpdate 65 (.map (some T)) (keyV x.key) (.int .u64 x.2.2)).run Try.prog W = .ok () (setBlock W T o) ∧ There (setBlock W T o) T (xs ++ [x]) := by
  have h' : MapIs W T .u64 (Till' xs) xs.length := h
  obtain ⟨o, n', hr, hm, _, hn⟩ := h'.update key67 Try.underlying65 hk x.2.2
  have hn' : n' = (xs ++ [x]).length := by
    rw [List.length_append, List.length_singleton]
    exact hn (fun p ⟨y, hy, h1, _⟩ => hno (h1 ▸ List.mem_map.2 ⟨y, hy, rfl⟩))
  subst hn'
  refine ⟨o, hr, hm.congr rfl fun k' p => ?_⟩
  constructor
  · rintro ⟨y, hy, h1, h2⟩
    rcases List.mem_append.1 hy with hy | hy
    · exact .inr ⟨fun e => hno (e ▸ h1 ▸ List.mem_map.2 ⟨y, hy, rfl⟩), y, hy, h1, h2⟩
    · rw [List.mem_singleton.1 hy] at h1 h2
      exact .inl ⟨h1.symm, h2.symm⟩
  · rintro (⟨rfl, rfl⟩ | ⟨_, y, hy, h1, h2⟩)
    · exact ⟨x, by simp, rfl, rfl⟩
    · exact ⟨y, List.mem_append_left _ hy, h1, h2⟩
/-- len(there) -/
theorem There.len {W : World} {T : Nat} {xs : List Lz} (h : There W T xs) : ∃ es clock, W.heap[T]? = some (.map es clock) ∧ es.size = xs.length := by
  have h' : MapIs W T .u64 (Till' xs) xs.length := h
  obtain ⟨es, cl, h1, _, h3, _⟩ := h'
  exact ⟨es, cl, h1, h3⟩
theorem There.of_perm {W : World} {T : Nat} {xs ys : List Lz} (h : There W T xs) (hp : ys.Perm xs) : There W T ys := by
  have h' : MapIs W T .u64 (Till' xs) xs.length := h
  unfold There
  rw [hp.length_eq]
  exact h'.congr rfl (fun k p => Till'.perm hp k p)
end Go.Proofs.Ytfkbiecbnjddmaa
