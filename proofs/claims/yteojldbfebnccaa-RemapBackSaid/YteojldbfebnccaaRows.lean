/-
  No cell of these rows narrows 'for every input' (looked for: loops, veiled, ifaces, maps, wideKeys, modest, calm, conditions, laid).
  DERIVED. THE GIVEN ROWS OF THIS SEAT. 5 by the template 'for every input the law returns true; each argument reads behind the call as it read before'; 0 by the template 'total and deterministic' (their statements: YteojldbfebnccaaTotals.lean).
  GIVEN WITH THE SEED: the statements are not yours to turn. If you find one false, say at which input.
  Laid BY PROGRAM, IN A SANDBOX (cutbox-rows.mjs): the forced cells as the released guide's own fill.sh prints them over the translation d122e5c90e191b0f… (all of the seat's roots in one cut). By AI agents, Wed Nov 11 2026. No macro, syntax, notation, axiom, sorry.
-/
import Derived.Test.YteojldbfebnccaaChecked
import GoSem.Claim
import GoSem.ClaimJoined
import GoSem.ClaimMapViews
import Derived.JoinedTies
import Derived.KernelRfl
namespace Go.Proofs.Yteojldbfebnccaa
/- THE CELL 'sum', in the pinned program and in every row, IS THE sha256 OF THE DUMP (.gsa) THAT YteojldbfebnccaaProg.lean LOADS. Nothing in Lean hashes anything: it is a label: what it is worth is what the hold of that sum in a sandbox is worth. -/
noncomputable def Try.pinned : Pinned := { name := "yteojldbfebnccaa", sum := "d122e5c90e191b0f27375562e11064f233f4d8f5fcc7a4c4cb1c03e7a4ce7120", checked := Try.checked }
namespace Rows
def none {H : Type} : Left H := { results := [], args := [] }

/-- 'foyerlaw19.RemapBack': WHATEVER THE INPUT: true; the input reads as it did. -/
def remapBackSpec : ChangeSpec := { name := "remapBack", fn := fun _ => fun
  | [d] => { results := [.lit (.bool true)], args := [d] }
  | _ => none }
def remapBackRow : OpenClaim := { program := "yteojldbfebnccaa", sum := "d122e5c90e191b0f27375562e11064f233f4d8f5fcc7a4c4cb1c03e7a4ce7120", func := "foyer/foyerlaw19.RemapBack", spec := "remapBack", unfollowed := true, recurses := true, apart := false }
def RemapBackSaid : Prop := remapBackRow.holds Try.pinned (OpenSpec.ofChange remapBackSpec)

/-- ITS FALSE NEIGHBOUR: 'it returns false'. Refute it at one input. -/
def remapBackWrong : ChangeSpec := { name := "remapBack", fn := fun _ => fun
  | [d] => { results := [.lit (.bool false)], args := [d] }
  | _ => none }
def RemapBackWrongFalsely : Prop := remapBackRow.holds Try.pinned (OpenSpec.ofChange remapBackWrong)

/-- 'foyerlaw19.RemapKnown': WHATEVER THE INPUT: true; the input reads as it did. -/
def remapKnownSpec : ChangeSpec := { name := "remapKnown", fn := fun _ => fun
  | [] => { results := [.lit (.bool true)], args := [] }
  | _ => none }
def remapKnownRow : OpenClaim := { program := "yteojldbfebnccaa", sum := "d122e5c90e191b0f27375562e11064f233f4d8f5fcc7a4c4cb1c03e7a4ce7120", func := "foyer/foyerlaw19.RemapKnown", spec := "remapKnown", unfollowed := true, recurses := true, apart := false }
def RemapKnownSaid : Prop := remapKnownRow.holds Try.pinned (OpenSpec.ofChange remapKnownSpec)

/-- ITS FALSE NEIGHBOUR: 'it returns false'. Refute it at one input. -/
def remapKnownWrong : ChangeSpec := { name := "remapKnown", fn := fun _ => fun
  | [] => { results := [.lit (.bool false)], args := [] }
  | _ => none }
def RemapKnownWrongFalsely : Prop := remapKnownRow.holds Try.pinned (OpenSpec.ofChange remapKnownWrong)

/-- 'foyerlaw19.RemapWrong': WHATEVER THE INPUT: true; the input reads as it did. -/
def remapWrongSpec : ChangeSpec := { name := "remapWrong", fn := fun _ => fun
  | [d1, d2] => { results := [.lit (.bool true)], args := [d1, d2] }
  | _ => none }
def remapWrongRow : OpenClaim := { program := "yteojldbfebnccaa", sum := "d122e5c90e191b0f27375562e11064f233f4d8f5fcc7a4c4cb1c03e7a4ce7120", func := "foyer/foyerlaw19.RemapWrong", spec := "remapWrong", unfollowed := true, recurses := true, apart := false }
def RemapWrongSaid : Prop := remapWrongRow.holds Try.pinned (OpenSpec.ofChange remapWrongSpec)

/-- ITS FALSE NEIGHBOUR: 'it returns false'. Refute it at one input. -/
def remapWrongWrong : ChangeSpec := { name := "remapWrong", fn := fun _ => fun
  | [d1, d2] => { results := [.lit (.bool false)], args := [d1, d2] }
  | _ => none }
def RemapWrongWrongFalsely : Prop := remapWrongRow.holds Try.pinned (OpenSpec.ofChange remapWrongWrong)

/-- 'foyerlaw19.RemapTold': WHATEVER THE INPUT: true; the input reads as it did. -/
def remapToldSpec : ChangeSpec := { name := "remapTold", fn := fun _ => fun
  | [d1, d2, d3] => { results := [.lit (.bool true)], args := [d1, d2, d3] }
  | _ => none }
def remapToldRow : OpenClaim := { program := "yteojldbfebnccaa", sum := "d122e5c90e191b0f27375562e11064f233f4d8f5fcc7a4c4cb1c03e7a4ce7120", func := "foyer/foyerlaw19.RemapTold", spec := "remapTold", unfollowed := true, recurses := true, apart := false }
def RemapToldSaid : Prop := remapToldRow.holds Try.pinned (OpenSpec.ofChange remapToldSpec)

/-- ITS FALSE NEIGHBOUR: 'it returns false'. Refute it at one input. -/
def remapToldWrong : ChangeSpec := { name := "remapTold", fn := fun _ => fun
  | [d1, d2, d3] => { results := [.lit (.bool false)], args := [d1, d2, d3] }
  | _ => none }
def RemapToldWrongFalsely : Prop := remapToldRow.holds Try.pinned (OpenSpec.ofChange remapToldWrong)

/-- 'foyerlaw19.RemapPlans': WHATEVER THE INPUT: true; the input reads as it did. -/
def remapPlansSpec : ChangeSpec := { name := "remapPlans", fn := fun _ => fun
  | [d1, d2] => { results := [.lit (.bool true)], args := [d1, d2] }
  | _ => none }
def remapPlansRow : OpenClaim := { program := "yteojldbfebnccaa", sum := "d122e5c90e191b0f27375562e11064f233f4d8f5fcc7a4c4cb1c03e7a4ce7120", func := "foyer/foyerlaw19.RemapPlans", spec := "remapPlans", unfollowed := true, recurses := true, apart := false }
def RemapPlansSaid : Prop := remapPlansRow.holds Try.pinned (OpenSpec.ofChange remapPlansSpec)

/-- ITS FALSE NEIGHBOUR: 'it returns false'. Refute it at one input. -/
def remapPlansWrong : ChangeSpec := { name := "remapPlans", fn := fun _ => fun
  | [d1, d2] => { results := [.lit (.bool false)], args := [d1, d2] }
  | _ => none }
def RemapPlansWrongFalsely : Prop := remapPlansRow.holds Try.pinned (OpenSpec.ofChange remapPlansWrong)

/- THE SECOND FORM. 'bulk': how many values and letters a reading holds, each counted each time it is reached (what is shared counts as often as it is met; a slice's spare places count too). A statement '..UptoSaid' is the law's where the arguments, and the package variables that the reading takes, are together of bulk at most 1048576: NARROWER than '..Said'. Prove '..Said' where nothing that the law and all that it calls make is longer than what came in: it says more and counts as full. Else prove '..UptoSaid'. A law counts once. -/
mutual
def uptoBulk {H : Type} : DataW H → Nat
  | .lit (.string bytes) => bytes.length + 1
  | .lit _ => 1
  | .nil => 1
  | .ptr d => uptoBulk d + 1
  | .slice elems spare => uptoBulkAll elems + uptoBulkAll spare + 1
  | .agg parts => uptoBulkAll parts + 1
  | .iface _ d => uptoBulk d + 1
  | .map entries => uptoBulkEntries entries + 1
  | .held _ => 1
def uptoBulkAll {H : Type} : List (DataW H) → Nat
  | [] => 0
  | d :: r => uptoBulk d + uptoBulkAll r
def uptoBulkEntries {H : Type} : List (Lit × DataW H) → Nat
  | [] => 0
  | x :: r => uptoBulkEntry x + uptoBulkEntries r
def uptoBulkEntry {H : Type} : Lit × DataW H → Nat
  | (.string bytes, d) => bytes.length + uptoBulk d + 1
  | (_, d) => uptoBulk d + 1
 end
def uptoSmall : (H : Type) → List (DataW H) → Bool := fun _ ds => decide (uptoBulkAll ds ≤ 1048576)
def OpenSpec.upto (s : _root_.Go.ChangeSpec) : _root_.Go.OpenSpec := { _root_.Go.OpenSpec.ofChange s with cond := some uptoSmall }

/-- 'foyerlaw19.RemapBack', WHERE WHAT IT READS IS OF BULK AT MOST 1048576: true; the input reads as it did. -/
def remapBackUptoRow : OpenClaim := { program := "yteojldbfebnccaa", sum := "d122e5c90e191b0f27375562e11064f233f4d8f5fcc7a4c4cb1c03e7a4ce7120", func := "foyer/foyerlaw19.RemapBack", spec := "remapBack", unfollowed := true, recurses := true, apart := false, narrowed := true }
def RemapBackUptoSaid : Prop := remapBackUptoRow.holds Try.pinned (OpenSpec.upto remapBackSpec)

/-- 'foyerlaw19.RemapKnown', WHERE WHAT IT READS IS OF BULK AT MOST 1048576: true; the input reads as it did. -/
def remapKnownUptoRow : OpenClaim := { program := "yteojldbfebnccaa", sum := "d122e5c90e191b0f27375562e11064f233f4d8f5fcc7a4c4cb1c03e7a4ce7120", func := "foyer/foyerlaw19.RemapKnown", spec := "remapKnown", unfollowed := true, recurses := true, apart := false, narrowed := true }
def RemapKnownUptoSaid : Prop := remapKnownUptoRow.holds Try.pinned (OpenSpec.upto remapKnownSpec)

/-- 'foyerlaw19.RemapWrong', WHERE WHAT IT READS IS OF BULK AT MOST 1048576: true; the input reads as it did. -/
def remapWrongUptoRow : OpenClaim := { program := "yteojldbfebnccaa", sum := "d122e5c90e191b0f27375562e11064f233f4d8f5fcc7a4c4cb1c03e7a4ce7120", func := "foyer/foyerlaw19.RemapWrong", spec := "remapWrong", unfollowed := true, recurses := true, apart := false, narrowed := true }
def RemapWrongUptoSaid : Prop := remapWrongUptoRow.holds Try.pinned (OpenSpec.upto remapWrongSpec)

/-- 'foyerlaw19.RemapTold', WHERE WHAT IT READS IS OF BULK AT MOST 1048576: true; the input reads as it did. -/
def remapToldUptoRow : OpenClaim := { program := "yteojldbfebnccaa", sum := "d122e5c90e191b0f27375562e11064f233f4d8f5fcc7a4c4cb1c03e7a4ce7120", func := "foyer/foyerlaw19.RemapTold", spec := "remapTold", unfollowed := true, recurses := true, apart := false, narrowed := true }
def RemapToldUptoSaid : Prop := remapToldUptoRow.holds Try.pinned (OpenSpec.upto remapToldSpec)

/-- 'foyerlaw19.RemapPlans', WHERE WHAT IT READS IS OF BULK AT MOST 1048576: true; the input reads as it did. -/
def remapPlansUptoRow : OpenClaim := { program := "yteojldbfebnccaa", sum := "d122e5c90e191b0f27375562e11064f233f4d8f5fcc7a4c4cb1c03e7a4ce7120", func := "foyer/foyerlaw19.RemapPlans", spec := "remapPlans", unfollowed := true, recurses := true, apart := false, narrowed := true }
def RemapPlansUptoSaid : Prop := remapPlansUptoRow.holds Try.pinned (OpenSpec.upto remapPlansSpec)

end Rows
end Go.Proofs.Yteojldbfebnccaa
