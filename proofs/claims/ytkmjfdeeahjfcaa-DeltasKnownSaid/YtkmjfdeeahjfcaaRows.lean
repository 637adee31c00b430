/-
  No cell of these rows narrows 'for every input' (looked for: loops, veiled, ifaces, maps, wideKeys, modest, calm, conditions, laid).
  DERIVED. THE GIVEN ROWS OF THIS SEAT. 10 by the template 'for every input the law returns true; each argument reads behind the call as it read before'; 0 by the template 'total and deterministic' (their statements: YtkmjfdeeahjfcaaTotals.lean).
  GIVEN WITH THE SEED: the statements are not yours to turn. If you find one false, say at which input.
  Laid BY PROGRAM, IN A SANDBOX (cutbox-rows.mjs): the forced cells as the released guide's own fill.sh prints them over the translation f9eee7f3e93805c4… (all of the seat's roots in one cut). By AI agents, Wed Nov 11 2026. No macro, syntax, notation, axiom, sorry.
-/
import Derived.Test.YtkmjfdeeahjfcaaChecked
import GoSem.Claim
import GoSem.ClaimJoined
import GoSem.ClaimMapViews
import Derived.JoinedTies
import Derived.KernelRfl
namespace Go.Proofs.Ytkmjfdeeahjfcaa
/- THE CELL 'sum', in the pinned program and in every row, IS THE sha256 OF THE DUMP (.gsa) THAT YtkmjfdeeahjfcaaProg.lean LOADS. Nothing in Lean hashes anything: it is a label: what it is worth is what the hold of that sum in a sandbox is worth. -/
noncomputable def Try.pinned : Pinned := { name := "ytkmjfdeeahjfcaa", sum := "f9eee7f3e93805c40bfacb37b1271915002cf9e1cae0e687dcd1c9ae46846647", checked := Try.checked }
namespace Rows
def none {H : Type} : Left H := { results := [], args := [] }

/-- 'countersignlaw08.MustsHold': WHATEVER THE INPUT: true; the input reads as it did. -/
def mustsHoldSpec : ChangeSpec := { name := "mustsHold", fn := fun _ => fun
  | [d1, d2] => { results := [.lit (.bool true)], args := [d1, d2] }
  | _ => none }
def mustsHoldRow : OpenClaim := { program := "ytkmjfdeeahjfcaa", sum := "f9eee7f3e93805c40bfacb37b1271915002cf9e1cae0e687dcd1c9ae46846647", func := "countersign/countersignlaw08.MustsHold", spec := "mustsHold", inPlace := ["internal/bytealg.abigen_runtime_cmpstring"], unfollowed := true, recurses := true, plainKeys := false, apart := false }
def MustsHoldSaid : Prop := mustsHoldRow.holds Try.pinned (OpenSpec.ofChange mustsHoldSpec)

/-- ITS FALSE NEIGHBOUR: 'it returns false'. Refute it at one input. -/
def mustsHoldWrong : ChangeSpec := { name := "mustsHold", fn := fun _ => fun
  | [d1, d2] => { results := [.lit (.bool false)], args := [d1, d2] }
  | _ => none }
def MustsHoldWrongFalsely : Prop := mustsHoldRow.holds Try.pinned (OpenSpec.ofChange mustsHoldWrong)

/-- 'countersignlaw08.MustsKnown': WHATEVER THE INPUT: true; the input reads as it did. -/
def mustsKnownSpec : ChangeSpec := { name := "mustsKnown", fn := fun _ => fun
  | [] => { results := [.lit (.bool true)], args := [] }
  | _ => none }
def mustsKnownRow : OpenClaim := { program := "ytkmjfdeeahjfcaa", sum := "f9eee7f3e93805c40bfacb37b1271915002cf9e1cae0e687dcd1c9ae46846647", func := "countersign/countersignlaw08.MustsKnown", spec := "mustsKnown", inPlace := ["internal/bytealg.abigen_runtime_cmpstring"], unfollowed := true, recurses := true, plainKeys := false, apart := false }
def MustsKnownSaid : Prop := mustsKnownRow.holds Try.pinned (OpenSpec.ofChange mustsKnownSpec)

/-- ITS FALSE NEIGHBOUR: 'it returns false'. Refute it at one input. -/
def mustsKnownWrong : ChangeSpec := { name := "mustsKnown", fn := fun _ => fun
  | [] => { results := [.lit (.bool false)], args := [] }
  | _ => none }
def MustsKnownWrongFalsely : Prop := mustsKnownRow.holds Try.pinned (OpenSpec.ofChange mustsKnownWrong)

/-- 'countersignlaw08.MustsErrors': WHATEVER THE INPUT: true; the input reads as it did. -/
def mustsErrorsSpec : ChangeSpec := { name := "mustsErrors", fn := fun _ => fun
  | [d1, d2, d3] => { results := [.lit (.bool true)], args := [d1, d2, d3] }
  | _ => none }
def mustsErrorsRow : OpenClaim := { program := "ytkmjfdeeahjfcaa", sum := "f9eee7f3e93805c40bfacb37b1271915002cf9e1cae0e687dcd1c9ae46846647", func := "countersign/countersignlaw08.MustsErrors", spec := "mustsErrors", inPlace := ["internal/bytealg.abigen_runtime_cmpstring"], unfollowed := true, recurses := true, plainKeys := false, apart := false }
def MustsErrorsSaid : Prop := mustsErrorsRow.holds Try.pinned (OpenSpec.ofChange mustsErrorsSpec)

/-- ITS FALSE NEIGHBOUR: 'it returns false'. Refute it at one input. -/
def mustsErrorsWrong : ChangeSpec := { name := "mustsErrors", fn := fun _ => fun
  | [d1, d2, d3] => { results := [.lit (.bool false)], args := [d1, d2, d3] }
  | _ => none }
def MustsErrorsWrongFalsely : Prop := mustsErrorsRow.holds Try.pinned (OpenSpec.ofChange mustsErrorsWrong)

/-- 'countersignlaw08.MustsWrite': WHATEVER THE INPUT: true; the input reads as it did. -/
def mustsWriteSpec : ChangeSpec := { name := "mustsWrite", fn := fun _ => fun
  | [d1, d2, d3] => { results := [.lit (.bool true)], args := [d1, d2, d3] }
  | _ => none }
def mustsWriteRow : OpenClaim := { program := "ytkmjfdeeahjfcaa", sum := "f9eee7f3e93805c40bfacb37b1271915002cf9e1cae0e687dcd1c9ae46846647", func := "countersign/countersignlaw08.MustsWrite", spec := "mustsWrite", inPlace := ["internal/bytealg.abigen_runtime_cmpstring"], unfollowed := true, recurses := true, plainKeys := false, apart := false }
def MustsWriteSaid : Prop := mustsWriteRow.holds Try.pinned (OpenSpec.ofChange mustsWriteSpec)

/-- ITS FALSE NEIGHBOUR: 'it returns false'. Refute it at one input. -/
def mustsWriteWrong : ChangeSpec := { name := "mustsWrite", fn := fun _ => fun
  | [d1, d2, d3] => { results := [.lit (.bool false)], args := [d1, d2, d3] }
  | _ => none }
def MustsWriteWrongFalsely : Prop := mustsWriteRow.holds Try.pinned (OpenSpec.ofChange mustsWriteWrong)

/-- 'countersignlaw08.MustsOnce': WHATEVER THE INPUT: true; the input reads as it did. -/
def mustsOnceSpec : ChangeSpec := { name := "mustsOnce", fn := fun _ => fun
  | [d1, d2] => { results := [.lit (.bool true)], args := [d1, d2] }
  | _ => none }
def mustsOnceRow : OpenClaim := { program := "ytkmjfdeeahjfcaa", sum := "f9eee7f3e93805c40bfacb37b1271915002cf9e1cae0e687dcd1c9ae46846647", func := "countersign/countersignlaw08.MustsOnce", spec := "mustsOnce", inPlace := ["internal/bytealg.abigen_runtime_cmpstring"], unfollowed := true, recurses := true, plainKeys := false, apart := false }
def MustsOnceSaid : Prop := mustsOnceRow.holds Try.pinned (OpenSpec.ofChange mustsOnceSpec)

/-- ITS FALSE NEIGHBOUR: 'it returns false'. Refute it at one input. -/
def mustsOnceWrong : ChangeSpec := { name := "mustsOnce", fn := fun _ => fun
  | [d1, d2] => { results := [.lit (.bool false)], args := [d1, d2] }
  | _ => none }
def MustsOnceWrongFalsely : Prop := mustsOnceRow.holds Try.pinned (OpenSpec.ofChange mustsOnceWrong)

/-- 'countersignlaw07.DeltasErrors': WHATEVER THE INPUT: true; the input reads as it did. -/
def deltasErrorsSpec : ChangeSpec := { name := "deltasErrors", fn := fun _ => fun
  | [d1, d2, d3] => { results := [.lit (.bool true)], args := [d1, d2, d3] }
  | _ => none }
def deltasErrorsRow : OpenClaim := { program := "ytkmjfdeeahjfcaa", sum := "f9eee7f3e93805c40bfacb37b1271915002cf9e1cae0e687dcd1c9ae46846647", func := "countersign/countersignlaw07.DeltasErrors", spec := "deltasErrors", inPlace := ["internal/bytealg.abigen_runtime_cmpstring"], unfollowed := true, recurses := true, plainKeys := false, apart := false }
def DeltasErrorsSaid : Prop := deltasErrorsRow.holds Try.pinned (OpenSpec.ofChange deltasErrorsSpec)

/-- ITS FALSE NEIGHBOUR: 'it returns false'. Refute it at one input. -/
def deltasErrorsWrong : ChangeSpec := { name := "deltasErrors", fn := fun _ => fun
  | [d1, d2, d3] => { results := [.lit (.bool false)], args := [d1, d2, d3] }
  | _ => none }
def DeltasErrorsWrongFalsely : Prop := deltasErrorsRow.holds Try.pinned (OpenSpec.ofChange deltasErrorsWrong)

/-- 'countersignlaw07.DeltasKnown': WHATEVER THE INPUT: true; the input reads as it did. -/
def deltasKnownSpec : ChangeSpec := { name := "deltasKnown", fn := fun _ => fun
  | [] => { results := [.lit (.bool true)], args := [] }
  | _ => none }
def deltasKnownRow : OpenClaim := { program := "ytkmjfdeeahjfcaa", sum := "f9eee7f3e93805c40bfacb37b1271915002cf9e1cae0e687dcd1c9ae46846647", func := "countersign/countersignlaw07.DeltasKnown", spec := "deltasKnown", inPlace := ["internal/bytealg.abigen_runtime_cmpstring"], unfollowed := true, recurses := true, plainKeys := false, apart := false }
def DeltasKnownSaid : Prop := deltasKnownRow.holds Try.pinned (OpenSpec.ofChange deltasKnownSpec)

/-- ITS FALSE NEIGHBOUR: 'it returns false'. Refute it at one input. -/
def deltasKnownWrong : ChangeSpec := { name := "deltasKnown", fn := fun _ => fun
  | [] => { results := [.lit (.bool false)], args := [] }
  | _ => none }
def DeltasKnownWrongFalsely : Prop := deltasKnownRow.holds Try.pinned (OpenSpec.ofChange deltasKnownWrong)

/-- 'countersignlaw07.DeltasNormal': WHATEVER THE INPUT: true; the input reads as it did. -/
def deltasNormalSpec : ChangeSpec := { name := "deltasNormal", fn := fun _ => fun
  | [d1, d2] => { results := [.lit (.bool true)], args := [d1, d2] }
  | _ => none }
def deltasNormalRow : OpenClaim := { program := "ytkmjfdeeahjfcaa", sum := "f9eee7f3e93805c40bfacb37b1271915002cf9e1cae0e687dcd1c9ae46846647", func := "countersign/countersignlaw07.DeltasNormal", spec := "deltasNormal", inPlace := ["internal/bytealg.abigen_runtime_cmpstring"], unfollowed := true, recurses := true, plainKeys := false, apart := false }
def DeltasNormalSaid : Prop := deltasNormalRow.holds Try.pinned (OpenSpec.ofChange deltasNormalSpec)

/-- ITS FALSE NEIGHBOUR: 'it returns false'. Refute it at one input. -/
def deltasNormalWrong : ChangeSpec := { name := "deltasNormal", fn := fun _ => fun
  | [d1, d2] => { results := [.lit (.bool false)], args := [d1, d2] }
  | _ => none }
def DeltasNormalWrongFalsely : Prop := deltasNormalRow.holds Try.pinned (OpenSpec.ofChange deltasNormalWrong)

/-- 'countersignlaw07.DeltasInvert': WHATEVER THE INPUT: true; the input reads as it did. -/
def deltasInvertSpec : ChangeSpec := { name := "deltasInvert", fn := fun _ => fun
  | [d1, d2] => { results := [.lit (.bool true)], args := [d1, d2] }
  | _ => none }
def deltasInvertRow : OpenClaim := { program := "ytkmjfdeeahjfcaa", sum := "f9eee7f3e93805c40bfacb37b1271915002cf9e1cae0e687dcd1c9ae46846647", func := "countersign/countersignlaw07.DeltasInvert", spec := "deltasInvert", inPlace := ["internal/bytealg.abigen_runtime_cmpstring"], unfollowed := true, recurses := true, plainKeys := false, apart := false }
def DeltasInvertSaid : Prop := deltasInvertRow.holds Try.pinned (OpenSpec.ofChange deltasInvertSpec)

/-- ITS FALSE NEIGHBOUR: 'it returns false'. Refute it at one input. -/
def deltasInvertWrong : ChangeSpec := { name := "deltasInvert", fn := fun _ => fun
  | [d1, d2] => { results := [.lit (.bool false)], args := [d1, d2] }
  | _ => none }
def DeltasInvertWrongFalsely : Prop := deltasInvertRow.holds Try.pinned (OpenSpec.ofChange deltasInvertWrong)

/-- 'countersignlaw07.DeltasBetween': WHATEVER THE INPUT: true; the input reads as it did. -/
def deltasBetweenSpec : ChangeSpec := { name := "deltasBetween", fn := fun _ => fun
  | [d1, d2] => { results := [.lit (.bool true)], args := [d1, d2] }
  | _ => none }
def deltasBetweenRow : OpenClaim := { program := "ytkmjfdeeahjfcaa", sum := "f9eee7f3e93805c40bfacb37b1271915002cf9e1cae0e687dcd1c9ae46846647", func := "countersign/countersignlaw07.DeltasBetween", spec := "deltasBetween", inPlace := ["internal/bytealg.abigen_runtime_cmpstring"], unfollowed := true, recurses := true, plainKeys := false, apart := false }
def DeltasBetweenSaid : Prop := deltasBetweenRow.holds Try.pinned (OpenSpec.ofChange deltasBetweenSpec)

/-- ITS FALSE NEIGHBOUR: 'it returns false'. Refute it at one input. -/
def deltasBetweenWrong : ChangeSpec := { name := "deltasBetween", fn := fun _ => fun
  | [d1, d2] => { results := [.lit (.bool false)], args := [d1, d2] }
  | _ => none }
def DeltasBetweenWrongFalsely : Prop := deltasBetweenRow.holds Try.pinned (OpenSpec.ofChange deltasBetweenWrong)

/- THE SECOND FORM. 'bulk': how many values and letters a reading holds, each counted each time it is reached (what is shared counts as often as it is met; a slice's spare places count too). A statement '..UptoSaid' is the law's where the arguments, and the package variables that the reading takes, are together of bulk at most 1048576: NARROWER than '..Said'. Prove '..Said' where nothing that the law and all that it calls make is longer than what came in: it says more and counts as full. Else prove '..UptoSaid'. A law counts once. -/
mutual
def uptoBulk {H : Type} : DataW H → Nat
  | .lit (.string bytes) => bytes.length + 1
  | .lit _ => 1
  | .nil => 1
  | .ptr d => uptoBulk d + 1
  | .slice elems spare => uptoBulkAll elems + uptoBulkAll spare + 1
  | .agg parts => uptoBulkAll parts + 1
  | .iface _ d => uptoBulk d + 1
  | .map entries => uptoBulkEntries entries + 1
  | .held _ => 1
def uptoBulkAll {H : Type} : List (DataW H) → Nat
  | [] => 0
  | d :: r => uptoBulk d + uptoBulkAll r
def uptoBulkEntries {H : Type} : List (Lit × DataW H) → Nat
  | [] => 0
  | x :: r => uptoBulkEntry x + uptoBulkEntries r
def uptoBulkEntry {H : Type} : Lit × DataW H → Nat
  | (.string bytes, d) => bytes.length + uptoBulk d + 1
  | (_, d) => uptoBulk d + 1
 end
def uptoSmall : (H : Type) → List (DataW H) → Bool := fun _ ds => decide (uptoBulkAll ds ≤ 1048576)
def OpenSpec.upto (s : _root_.Go.ChangeSpec) : _root_.Go.OpenSpec := { _root_.Go.OpenSpec.ofChange s with cond := some uptoSmall }

/-- 'countersignlaw08.MustsHold', WHERE WHAT IT READS IS OF BULK AT MOST 1048576: true; the input reads as it did. -/
def mustsHoldUptoRow : OpenClaim := { program := "ytkmjfdeeahjfcaa", sum := "f9eee7f3e93805c40bfacb37b1271915002cf9e1cae0e687dcd1c9ae46846647", func := "countersign/countersignlaw08.MustsHold", spec := "mustsHold", inPlace := ["internal/bytealg.abigen_runtime_cmpstring"], unfollowed := true, recurses := true, plainKeys := false, apart := false, narrowed := true }
def MustsHoldUptoSaid : Prop := mustsHoldUptoRow.holds Try.pinned (OpenSpec.upto mustsHoldSpec)

/-- 'countersignlaw08.MustsKnown', WHERE WHAT IT READS IS OF BULK AT MOST 1048576: true; the input reads as it did. -/
def mustsKnownUptoRow : OpenClaim := { program := "ytkmjfdeeahjfcaa", sum := "f9eee7f3e93805c40bfacb37b1271915002cf9e1cae0e687dcd1c9ae46846647", func := "countersign/countersignlaw08.MustsKnown", spec := "mustsKnown", inPlace := ["internal/bytealg.abigen_runtime_cmpstring"], unfollowed := true, recurses := true, plainKeys := false, apart := false, narrowed := true }
def MustsKnownUptoSaid : Prop := mustsKnownUptoRow.holds Try.pinned (OpenSpec.upto mustsKnownSpec)

/-- 'countersignlaw08.MustsErrors', WHERE WHAT IT READS IS OF BULK AT MOST 1048576: true; the input reads as it did. -/
def mustsErrorsUptoRow : OpenClaim := { program := "ytkmjfdeeahjfcaa", sum := "f9eee7f3e93805c40bfacb37b1271915002cf9e1cae0e687dcd1c9ae46846647", func := "countersign/countersignlaw08.MustsErrors", spec := "mustsErrors", inPlace := ["internal/bytealg.abigen_runtime_cmpstring"], unfollowed := true, recurses := true, plainKeys := false, apart := false, narrowed := true }
def MustsErrorsUptoSaid : Prop := mustsErrorsUptoRow.holds Try.pinned (OpenSpec.upto mustsErrorsSpec)

/-- 'countersignlaw08.MustsWrite', WHERE WHAT IT READS IS OF BULK AT MOST 1048576: true; the input reads as it did. -/
def mustsWriteUptoRow : OpenClaim := { program := "ytkmjfdeeahjfcaa", sum := "f9eee7f3e93805c40bfacb37b1271915002cf9e1cae0e687dcd1c9ae46846647", func := "countersign/countersignlaw08.MustsWrite", spec := "mustsWrite", inPlace := ["internal/bytealg.abigen_runtime_cmpstring"], unfollowed := true, recurses := true, plainKeys := false, apart := false, narrowed := true }
def MustsWriteUptoSaid : Prop := mustsWriteUptoRow.holds Try.pinned (OpenSpec.upto mustsWriteSpec)

/-- 'countersignlaw08.MustsOnce', WHERE WHAT IT READS IS OF BULK AT MOST 1048576: true; the input reads as it did. -/
def mustsOnceUptoRow : OpenClaim := { program := "ytkmjfdeeahjfcaa", sum := "f9eee7f3e93805c40bfacb37b1271915002cf9e1cae0e687dcd1c9ae46846647", func := "countersign/countersignlaw08.MustsOnce", spec := "mustsOnce", inPlace := ["internal/bytealg.abigen_runtime_cmpstring"], unfollowed := true, recurses := true, plainKeys := false, apart := false, narrowed := true }
def MustsOnceUptoSaid : Prop := mustsOnceUptoRow.holds Try.pinned (OpenSpec.upto mustsOnceSpec)

/-- 'countersignlaw07.DeltasErrors', WHERE WHAT IT READS IS OF BULK AT MOST 1048576: true; the input reads as it did. -/
def deltasErrorsUptoRow : OpenClaim := { program := "ytkmjfdeeahjfcaa", sum := "f9eee7f3e93805c40bfacb37b1271915002cf9e1cae0e687dcd1c9ae46846647", func := "countersign/countersignlaw07.DeltasErrors", spec := "deltasErrors", inPlace := ["internal/bytealg.abigen_runtime_cmpstring"], unfollowed := true, recurses := true, plainKeys := false, apart := false, narrowed := true }
def DeltasErrorsUptoSaid : Prop := deltasErrorsUptoRow.holds Try.pinned (OpenSpec.upto deltasErrorsSpec)

/-- 'countersignlaw07.DeltasKnown', WHERE WHAT IT READS IS OF BULK AT MOST 1048576: true; the input reads as it did. -/
def deltasKnownUptoRow : OpenClaim := { program := "ytkmjfdeeahjfcaa", sum := "f9eee7f3e93805c40bfacb37b1271915002cf9e1cae0e687dcd1c9ae46846647", func := "countersign/countersignlaw07.DeltasKnown", spec := "deltasKnown", inPlace := ["internal/bytealg.abigen_runtime_cmpstring"], unfollowed := true, recurses := true, plainKeys := false, apart := false, narrowed := true }
def DeltasKnownUptoSaid : Prop := deltasKnownUptoRow.holds Try.pinned (OpenSpec.upto deltasKnownSpec)

/-- 'countersignlaw07.DeltasNormal', WHERE WHAT IT READS IS OF BULK AT MOST 1048576: true; the input reads as it did. -/
def deltasNormalUptoRow : OpenClaim := { program := "ytkmjfdeeahjfcaa", sum := "f9eee7f3e93805c40bfacb37b1271915002cf9e1cae0e687dcd1c9ae46846647", func := "countersign/countersignlaw07.DeltasNormal", spec := "deltasNormal", inPlace := ["internal/bytealg.abigen_runtime_cmpstring"], unfollowed := true, recurses := true, plainKeys := false, apart := false, narrowed := true }
def DeltasNormalUptoSaid : Prop := deltasNormalUptoRow.holds Try.pinned (OpenSpec.upto deltasNormalSpec)

/-- 'countersignlaw07.DeltasInvert', WHERE WHAT IT READS IS OF BULK AT MOST 1048576: true; the input reads as it did. -/
def deltasInvertUptoRow : OpenClaim := { program := "ytkmjfdeeahjfcaa", sum := "f9eee7f3e93805c40bfacb37b1271915002cf9e1cae0e687dcd1c9ae46846647", func := "countersign/countersignlaw07.DeltasInvert", spec := "deltasInvert", inPlace := ["internal/bytealg.abigen_runtime_cmpstring"], unfollowed := true, recurses := true, plainKeys := false, apart := false, narrowed := true }
def DeltasInvertUptoSaid : Prop := deltasInvertUptoRow.holds Try.pinned (OpenSpec.upto deltasInvertSpec)

/-- 'countersignlaw07.DeltasBetween', WHERE WHAT IT READS IS OF BULK AT MOST 1048576: true; the input reads as it did. -/
def deltasBetweenUptoRow : OpenClaim := { program := "ytkmjfdeeahjfcaa", sum := "f9eee7f3e93805c40bfacb37b1271915002cf9e1cae0e687dcd1c9ae46846647", func := "countersign/countersignlaw07.DeltasBetween", spec := "deltasBetween", inPlace := ["internal/bytealg.abigen_runtime_cmpstring"], unfollowed := true, recurses := true, plainKeys := false, apart := false, narrowed := true }
def DeltasBetweenUptoSaid : Prop := deltasBetweenUptoRow.holds Try.pinned (OpenSpec.upto deltasBetweenSpec)

end Rows
end Go.Proofs.Ytkmjfdeeahjfcaa
