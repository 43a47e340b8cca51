/-
  No cell of these rows narrows 'for every input' (looked for: loops, veiled, ifaces, maps, wideKeys, modest, calm, conditions, laid).
  DERIVED. THE GIVEN ROWS OF THIS SEAT. 5 by the template 'for every input the law returns true; each argument reads behind the call as it read before'; 0 by the template 'total and deterministic' (their statements: YtfkbiecbnjddmaaTotals.lean).
  GIVEN WITH THE SEED: the statements are not yours to turn. If you find one false, say at which input.
  Laid BY PROGRAM, IN A SANDBOX (cutbox-rows.mjs): the forced cells as the released guide's own fill.sh prints them over the translation 94ebfcbd0702d25c… (all of the seat's roots in one cut). By AI agents, Wed Nov 11 2026. No macro, syntax, notation, axiom, sorry.
-/
import Derived.Test.YtfkbiecbnjddmaaChecked
import GoSem.Claim
import GoSem.ClaimJoined
import GoSem.ClaimMapViews
import Derived.JoinedTies
import Derived.KernelRfl
namespace Go.Proofs.Ytfkbiecbnjddmaa
/- THE CELL 'sum', in the pinned program and in every row, IS THE sha256 OF THE DUMP (.gsa) THAT YtfkbiecbnjddmaaProg.lean LOADS. Nothing in Lean hashes anything: it is a label: what it is worth is what the hold of that sum in a sandbox is worth. -/
noncomputable def Try.pinned : Pinned := { name := "ytfkbiecbnjddmaa", sum := "94ebfcbd0702d25cc3b721e72d8cc5ef4bd93decd8d3d3ffb456f2c4159111d3", checked := Try.checked }
namespace Rows
def none {H : Type} : Left H := { results := [], args := [] }

/-- 'foyerlaw26.LeaseSweeps': WHATEVER THE INPUT: true; the input reads as it did. -/
def leaseSweepsSpec : ChangeSpec := { name := "leaseSweeps", fn := fun _ => fun
  | [d1, d2, d3] => { results := [.lit (.bool true)], args := [d1, d2, d3] }
  | _ => none }
def leaseSweepsRow : OpenClaim := { program := "ytfkbiecbnjddmaa", sum := "94ebfcbd0702d25cc3b721e72d8cc5ef4bd93decd8d3d3ffb456f2c4159111d3", func := "foyer/foyerlaw26.LeaseSweeps", spec := "leaseSweeps", unfollowed := true, recurses := true, plainKeys := false, apart := false }
def LeaseSweepsSaid : Prop := leaseSweepsRow.holds Try.pinned (OpenSpec.ofChange leaseSweepsSpec)

/-- ITS FALSE NEIGHBOUR: 'it returns false'. Refute it at one input. -/
def leaseSweepsWrong : ChangeSpec := { name := "leaseSweeps", fn := fun _ => fun
  | [d1, d2, d3] => { results := [.lit (.bool false)], args := [d1, d2, d3] }
  | _ => none }
def LeaseSweepsWrongFalsely : Prop := leaseSweepsRow.holds Try.pinned (OpenSpec.ofChange leaseSweepsWrong)

/-- 'foyerlaw26.LeaseHolds': WHATEVER THE INPUT: true; the input reads as it did. -/
def leaseHoldsSpec : ChangeSpec := { name := "leaseHolds", fn := fun _ => fun
  | [d1, d2, d3] => { results := [.lit (.bool true)], args := [d1, d2, d3] }
  | _ => none }
def leaseHoldsRow : OpenClaim := { program := "ytfkbiecbnjddmaa", sum := "94ebfcbd0702d25cc3b721e72d8cc5ef4bd93decd8d3d3ffb456f2c4159111d3", func := "foyer/foyerlaw26.LeaseHolds", spec := "leaseHolds", unfollowed := true, recurses := true, plainKeys := false, apart := false }
def LeaseHoldsSaid : Prop := leaseHoldsRow.holds Try.pinned (OpenSpec.ofChange leaseHoldsSpec)

/-- ITS FALSE NEIGHBOUR: 'it returns false'. Refute it at one input. -/
def leaseHoldsWrong : ChangeSpec := { name := "leaseHolds", fn := fun _ => fun
  | [d1, d2, d3] => { results := [.lit (.bool false)], args := [d1, d2, d3] }
  | _ => none }
def LeaseHoldsWrongFalsely : Prop := leaseHoldsRow.holds Try.pinned (OpenSpec.ofChange leaseHoldsWrong)

/-- 'foyerlaw26.LeasePlays': WHATEVER THE INPUT: true; the input reads as it did. -/
def leasePlaysSpec : ChangeSpec := { name := "leasePlays", fn := fun _ => fun
  | [d] => { results := [.lit (.bool true)], args := [d] }
  | _ => none }
def leasePlaysRow : OpenClaim := { program := "ytfkbiecbnjddmaa", sum := "94ebfcbd0702d25cc3b721e72d8cc5ef4bd93decd8d3d3ffb456f2c4159111d3", func := "foyer/foyerlaw26.LeasePlays", spec := "leasePlays", unfollowed := true, recurses := true, plainKeys := false, apart := false }
def LeasePlaysSaid : Prop := leasePlaysRow.holds Try.pinned (OpenSpec.ofChange leasePlaysSpec)

/-- ITS FALSE NEIGHBOUR: 'it returns false'. Refute it at one input. -/
def leasePlaysWrong : ChangeSpec := { name := "leasePlays", fn := fun _ => fun
  | [d] => { results := [.lit (.bool false)], args := [d] }
  | _ => none }
def LeasePlaysWrongFalsely : Prop := leasePlaysRow.holds Try.pinned (OpenSpec.ofChange leasePlaysWrong)

/-- 'foyerlaw26.LeaseOrder': WHATEVER THE INPUT: true; the input reads as it did. -/
def leaseOrderSpec : ChangeSpec := { name := "leaseOrder", fn := fun _ => fun
  | [d] => { results := [.lit (.bool true)], args := [d] }
  | _ => none }
def leaseOrderRow : OpenClaim := { program := "ytfkbiecbnjddmaa", sum := "94ebfcbd0702d25cc3b721e72d8cc5ef4bd93decd8d3d3ffb456f2c4159111d3", func := "foyer/foyerlaw26.LeaseOrder", spec := "leaseOrder", unfollowed := true, recurses := true, plainKeys := false, apart := false }
def LeaseOrderSaid : Prop := leaseOrderRow.holds Try.pinned (OpenSpec.ofChange leaseOrderSpec)

/-- ITS FALSE NEIGHBOUR: 'it returns false'. Refute it at one input. -/
def leaseOrderWrong : ChangeSpec := { name := "leaseOrder", fn := fun _ => fun
  | [d] => { results := [.lit (.bool false)], args := [d] }
  | _ => none }
def LeaseOrderWrongFalsely : Prop := leaseOrderRow.holds Try.pinned (OpenSpec.ofChange leaseOrderWrong)

/-- 'foyerlaw26.LeaseKnown': WHATEVER THE INPUT: true; the input reads as it did. -/
def leaseKnownSpec : ChangeSpec := { name := "leaseKnown", fn := fun _ => fun
  | [] => { results := [.lit (.bool true)], args := [] }
  | _ => none }
def leaseKnownRow : OpenClaim := { program := "ytfkbiecbnjddmaa", sum := "94ebfcbd0702d25cc3b721e72d8cc5ef4bd93decd8d3d3ffb456f2c4159111d3", func := "foyer/foyerlaw26.LeaseKnown", spec := "leaseKnown", unfollowed := true, recurses := true, plainKeys := false, apart := false }
def LeaseKnownSaid : Prop := leaseKnownRow.holds Try.pinned (OpenSpec.ofChange leaseKnownSpec)

/-- ITS FALSE NEIGHBOUR: 'it returns false'. Refute it at one input. -/
def leaseKnownWrong : ChangeSpec := { name := "leaseKnown", fn := fun _ => fun
  | [] => { results := [.lit (.bool false)], args := [] }
  | _ => none }
def LeaseKnownWrongFalsely : Prop := leaseKnownRow.holds Try.pinned (OpenSpec.ofChange leaseKnownWrong)

/- THE SECOND FORM. 'bulk': how many values and letters a reading holds, each counted each time it is reached (what is shared counts as often as it is met; a slice's spare places count too). A statement '..UptoSaid' is the law's where the arguments, and the package variables that the reading takes, are together of bulk at most 1048576: NARROWER than '..Said'. Prove '..Said' where nothing that the law and all that it calls make is longer than what came in: it says more and counts as full. Else prove '..UptoSaid'. A law counts once. -/
mutual
def uptoBulk {H : Type} : DataW H → Nat
  | .lit (.string bytes) => bytes.length + 1
  | .lit _ => 1
  | .nil => 1
  | .ptr d => uptoBulk d + 1
  | .slice elems spare => uptoBulkAll elems + uptoBulkAll spare + 1
  | .agg parts => uptoBulkAll parts + 1
  | .iface _ d => uptoBulk d + 1
  | .map entries => uptoBulkEntries entries + 1
  | .held _ => 1
def uptoBulkAll {H : Type} : List (DataW H) → Nat
  | [] => 0
  | d :: r => uptoBulk d + uptoBulkAll r
def uptoBulkEntries {H : Type} : List (Lit × DataW H) → Nat
  | [] => 0
  | x :: r => uptoBulkEntry x + uptoBulkEntries r
def uptoBulkEntry {H : Type} : Lit × DataW H → Nat
  | (.string bytes, d) => bytes.length + uptoBulk d + 1
  | (_, d) => uptoBulk d + 1
 end
def uptoSmall : (H : Type) → List (DataW H) → Bool := fun _ ds => decide (uptoBulkAll ds ≤ 1048576)
def OpenSpec.upto (s : _root_.Go.ChangeSpec) : _root_.Go.OpenSpec := { _root_.Go.OpenSpec.ofChange s with cond := some uptoSmall }

/-- 'foyerlaw26.LeaseSweeps', WHERE WHAT IT READS IS OF BULK AT MOST 1048576: true; the input reads as it did. -/
def leaseSweepsUptoRow : OpenClaim := { program := "ytfkbiecbnjddmaa", sum := "94ebfcbd0702d25cc3b721e72d8cc5ef4bd93decd8d3d3ffb456f2c4159111d3", func := "foyer/foyerlaw26.LeaseSweeps", spec := "leaseSweeps", unfollowed := true, recurses := true, plainKeys := false, apart := false, narrowed := true }
def LeaseSweepsUptoSaid : Prop := leaseSweepsUptoRow.holds Try.pinned (OpenSpec.upto leaseSweepsSpec)

/-- 'foyerlaw26.LeaseHolds', WHERE WHAT IT READS IS OF BULK AT MOST 1048576: true; the input reads as it did. -/
def leaseHoldsUptoRow : OpenClaim := { program := "ytfkbiecbnjddmaa", sum := "94ebfcbd0702d25cc3b721e72d8cc5ef4bd93decd8d3d3ffb456f2c4159111d3", func := "foyer/foyerlaw26.LeaseHolds", spec := "leaseHolds", unfollowed := true, recurses := true, plainKeys := false, apart := false, narrowed := true }
def LeaseHoldsUptoSaid : Prop := leaseHoldsUptoRow.holds Try.pinned (OpenSpec.upto leaseHoldsSpec)

/-- 'foyerlaw26.LeasePlays', WHERE WHAT IT READS IS OF BULK AT MOST 1048576: true; the input reads as it did. -/
def leasePlaysUptoRow : OpenClaim := { program := "ytfkbiecbnjddmaa", sum := "94ebfcbd0702d25cc3b721e72d8cc5ef4bd93decd8d3d3ffb456f2c4159111d3", func := "foyer/foyerlaw26.LeasePlays", spec := "leasePlays", unfollowed := true, recurses := true, plainKeys := false, apart := false, narrowed := true }
def LeasePlaysUptoSaid : Prop := leasePlaysUptoRow.holds Try.pinned (OpenSpec.upto leasePlaysSpec)

/-- 'foyerlaw26.LeaseOrder', WHERE WHAT IT READS IS OF BULK AT MOST 1048576: true; the input reads as it did. -/
def leaseOrderUptoRow : OpenClaim := { program := "ytfkbiecbnjddmaa", sum := "94ebfcbd0702d25cc3b721e72d8cc5ef4bd93decd8d3d3ffb456f2c4159111d3", func := "foyer/foyerlaw26.LeaseOrder", spec := "leaseOrder", unfollowed := true, recurses := true, plainKeys := false, apart := false, narrowed := true }
def LeaseOrderUptoSaid : Prop := leaseOrderUptoRow.holds Try.pinned (OpenSpec.upto leaseOrderSpec)

/-- 'foyerlaw26.LeaseKnown', WHERE WHAT IT READS IS OF BULK AT MOST 1048576: true; the input reads as it did. -/
def leaseKnownUptoRow : OpenClaim := { program := "ytfkbiecbnjddmaa", sum := "94ebfcbd0702d25cc3b721e72d8cc5ef4bd93decd8d3d3ffb456f2c4159111d3", func := "foyer/foyerlaw26.LeaseKnown", spec := "leaseKnown", unfollowed := true, recurses := true, plainKeys := false, apart := false, narrowed := true }
def LeaseKnownUptoSaid : Prop := leaseKnownUptoRow.holds Try.pinned (OpenSpec.upto leaseKnownSpec)

end Rows
end Go.Proofs.Ytfkbiecbnjddmaa
