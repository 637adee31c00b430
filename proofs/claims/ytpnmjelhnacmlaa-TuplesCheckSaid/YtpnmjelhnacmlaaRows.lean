/-
  No cell of these rows narrows 'for every input' (looked for: loops, veiled, ifaces, maps, wideKeys, modest, calm, conditions, laid).
  DERIVED. THE GIVEN ROWS OF THIS SEAT. 11 by the template 'for every input the law returns true; each argument reads behind the call as it read before'; 0 by the template 'total and deterministic' (their statements: YtpnmjelhnacmlaaTotals.lean).
  GIVEN WITH THE SEED: the statements are not yours to turn. If you find one false, say at which input.
  Laid BY PROGRAM, IN A SANDBOX (cutbox-rows.mjs): the forced cells as the released guide's own fill.sh prints them over the translation 03ac6670e27b2e4b… (all of the seat's roots in one cut). By AI agents, Wed Nov 11 2026. No macro, syntax, notation, axiom, sorry.
-/
import Derived.Test.YtpnmjelhnacmlaaChecked
import GoSem.Claim
import GoSem.ClaimJoined
import GoSem.ClaimMapViews
import Derived.JoinedTies
import Derived.KernelRfl
namespace Go.Proofs.Ytpnmjelhnacmlaa
/- THE CELL 'sum', in the pinned program and in every row, IS THE sha256 OF THE DUMP (.gsa) THAT YtpnmjelhnacmlaaProg.lean LOADS. Nothing in Lean hashes anything: it is a label: what it is worth is what the hold of that sum in a sandbox is worth. -/
noncomputable def Try.pinned : Pinned := { name := "ytpnmjelhnacmlaa", sum := "03ac6670e27b2e4ba3ca0115a6b74fee08243793e1c582c18e1718a9b43ee232", checked := Try.checked }
namespace Rows
def none {H : Type} : Left H := { results := [], args := [] }

/-- 'countersignlaw23.GoalsWith': WHATEVER THE INPUT: true; the input reads as it did. -/
def goalsWithSpec : ChangeSpec := { name := "goalsWith", fn := fun _ => fun
  | [d] => { results := [.lit (.bool true)], args := [d] }
  | _ => none }
def goalsWithRow : OpenClaim := { program := "ytpnmjelhnacmlaa", sum := "03ac6670e27b2e4ba3ca0115a6b74fee08243793e1c582c18e1718a9b43ee232", func := "countersign/countersignlaw23.GoalsWith", spec := "goalsWith", inPlace := ["internal/bytealg.abigen_runtime_cmpstring"], unfollowed := true, recurses := true, apart := false }
def GoalsWithSaid : Prop := goalsWithRow.holds Try.pinned (OpenSpec.ofChange goalsWithSpec)

/-- ITS FALSE NEIGHBOUR: 'it returns false'. Refute it at one input. -/
def goalsWithWrong : ChangeSpec := { name := "goalsWith", fn := fun _ => fun
  | [d] => { results := [.lit (.bool false)], args := [d] }
  | _ => none }
def GoalsWithWrongFalsely : Prop := goalsWithRow.holds Try.pinned (OpenSpec.ofChange goalsWithWrong)

/-- 'countersignlaw23.GoalsOf': WHATEVER THE INPUT: true; the input reads as it did. -/
def goalsOfSpec : ChangeSpec := { name := "goalsOf", fn := fun _ => fun
  | [d] => { results := [.lit (.bool true)], args := [d] }
  | _ => none }
def goalsOfRow : OpenClaim := { program := "ytpnmjelhnacmlaa", sum := "03ac6670e27b2e4ba3ca0115a6b74fee08243793e1c582c18e1718a9b43ee232", func := "countersign/countersignlaw23.GoalsOf", spec := "goalsOf", inPlace := ["internal/bytealg.abigen_runtime_cmpstring"], unfollowed := true, recurses := true, apart := false }
def GoalsOfSaid : Prop := goalsOfRow.holds Try.pinned (OpenSpec.ofChange goalsOfSpec)

/-- ITS FALSE NEIGHBOUR: 'it returns false'. Refute it at one input. -/
def goalsOfWrong : ChangeSpec := { name := "goalsOf", fn := fun _ => fun
  | [d] => { results := [.lit (.bool false)], args := [d] }
  | _ => none }
def GoalsOfWrongFalsely : Prop := goalsOfRow.holds Try.pinned (OpenSpec.ofChange goalsOfWrong)

/-- 'countersignlaw23.GoalsViews': WHATEVER THE INPUT: true; the input reads as it did. -/
def goalsViewsSpec : ChangeSpec := { name := "goalsViews", fn := fun _ => fun
  | [d1, d2, d3] => { results := [.lit (.bool true)], args := [d1, d2, d3] }
  | _ => none }
def goalsViewsRow : OpenClaim := { program := "ytpnmjelhnacmlaa", sum := "03ac6670e27b2e4ba3ca0115a6b74fee08243793e1c582c18e1718a9b43ee232", func := "countersign/countersignlaw23.GoalsViews", spec := "goalsViews", inPlace := ["internal/bytealg.abigen_runtime_cmpstring"], unfollowed := true, recurses := true, apart := false }
def GoalsViewsSaid : Prop := goalsViewsRow.holds Try.pinned (OpenSpec.ofChange goalsViewsSpec)

/-- ITS FALSE NEIGHBOUR: 'it returns false'. Refute it at one input. -/
def goalsViewsWrong : ChangeSpec := { name := "goalsViews", fn := fun _ => fun
  | [d1, d2, d3] => { results := [.lit (.bool false)], args := [d1, d2, d3] }
  | _ => none }
def GoalsViewsWrongFalsely : Prop := goalsViewsRow.holds Try.pinned (OpenSpec.ofChange goalsViewsWrong)

/-- 'countersignlaw23.GoalsErrors': WHATEVER THE INPUT: true; the input reads as it did. -/
def goalsErrorsSpec : ChangeSpec := { name := "goalsErrors", fn := fun _ => fun
  | [d1, d2] => { results := [.lit (.bool true)], args := [d1, d2] }
  | _ => none }
def goalsErrorsRow : OpenClaim := { program := "ytpnmjelhnacmlaa", sum := "03ac6670e27b2e4ba3ca0115a6b74fee08243793e1c582c18e1718a9b43ee232", func := "countersign/countersignlaw23.GoalsErrors", spec := "goalsErrors", inPlace := ["internal/bytealg.abigen_runtime_cmpstring"], unfollowed := true, recurses := true, apart := false }
def GoalsErrorsSaid : Prop := goalsErrorsRow.holds Try.pinned (OpenSpec.ofChange goalsErrorsSpec)

/-- ITS FALSE NEIGHBOUR: 'it returns false'. Refute it at one input. -/
def goalsErrorsWrong : ChangeSpec := { name := "goalsErrors", fn := fun _ => fun
  | [d1, d2] => { results := [.lit (.bool false)], args := [d1, d2] }
  | _ => none }
def GoalsErrorsWrongFalsely : Prop := goalsErrorsRow.holds Try.pinned (OpenSpec.ofChange goalsErrorsWrong)

/-- 'countersignlaw23.GoalsKnown': WHATEVER THE INPUT: true; the input reads as it did. -/
def goalsKnownSpec : ChangeSpec := { name := "goalsKnown", fn := fun _ => fun
  | [] => { results := [.lit (.bool true)], args := [] }
  | _ => none }
def goalsKnownRow : OpenClaim := { program := "ytpnmjelhnacmlaa", sum := "03ac6670e27b2e4ba3ca0115a6b74fee08243793e1c582c18e1718a9b43ee232", func := "countersign/countersignlaw23.GoalsKnown", spec := "goalsKnown", inPlace := ["internal/bytealg.abigen_runtime_cmpstring"], unfollowed := true, recurses := true, apart := false }
def GoalsKnownSaid : Prop := goalsKnownRow.holds Try.pinned (OpenSpec.ofChange goalsKnownSpec)

/-- ITS FALSE NEIGHBOUR: 'it returns false'. Refute it at one input. -/
def goalsKnownWrong : ChangeSpec := { name := "goalsKnown", fn := fun _ => fun
  | [] => { results := [.lit (.bool false)], args := [] }
  | _ => none }
def GoalsKnownWrongFalsely : Prop := goalsKnownRow.holds Try.pinned (OpenSpec.ofChange goalsKnownWrong)

/-- 'countersignlaw02.TuplesFind': WHATEVER THE INPUT: true; the input reads as it did. -/
def tuplesFindSpec : ChangeSpec := { name := "tuplesFind", fn := fun _ => fun
  | [d1, d2] => { results := [.lit (.bool true)], args := [d1, d2] }
  | _ => none }
def tuplesFindRow : OpenClaim := { program := "ytpnmjelhnacmlaa", sum := "03ac6670e27b2e4ba3ca0115a6b74fee08243793e1c582c18e1718a9b43ee232", func := "countersign/countersignlaw02.TuplesFind", spec := "tuplesFind", inPlace := ["internal/bytealg.abigen_runtime_cmpstring", "internal/bytealg.IndexByteString", "internal/bytealg.IndexString", "internal/bytealg.CountString"], unfollowed := true, recurses := true, named := ["internal/bytealg.MaxLen"], apart := false }
def TuplesFindSaid : Prop := tuplesFindRow.holds Try.pinned (OpenSpec.ofChange tuplesFindSpec)

/-- ITS FALSE NEIGHBOUR: 'it returns false'. Refute it at one input. -/
def tuplesFindWrong : ChangeSpec := { name := "tuplesFind", fn := fun _ => fun
  | [d1, d2] => { results := [.lit (.bool false)], args := [d1, d2] }
  | _ => none }
def TuplesFindWrongFalsely : Prop := tuplesFindRow.holds Try.pinned (OpenSpec.ofChange tuplesFindWrong)

/-- 'countersignlaw02.TuplesSorted': WHATEVER THE INPUT: true; the input reads as it did. -/
def tuplesSortedSpec : ChangeSpec := { name := "tuplesSorted", fn := fun _ => fun
  | [d1, d2] => { results := [.lit (.bool true)], args := [d1, d2] }
  | _ => none }
def tuplesSortedRow : OpenClaim := { program := "ytpnmjelhnacmlaa", sum := "03ac6670e27b2e4ba3ca0115a6b74fee08243793e1c582c18e1718a9b43ee232", func := "countersign/countersignlaw02.TuplesSorted", spec := "tuplesSorted", inPlace := ["internal/bytealg.abigen_runtime_cmpstring", "internal/bytealg.IndexByteString", "internal/bytealg.IndexString", "internal/bytealg.CountString"], unfollowed := true, recurses := true, named := ["internal/bytealg.MaxLen"], apart := false }
def TuplesSortedSaid : Prop := tuplesSortedRow.holds Try.pinned (OpenSpec.ofChange tuplesSortedSpec)

/-- ITS FALSE NEIGHBOUR: 'it returns false'. Refute it at one input. -/
def tuplesSortedWrong : ChangeSpec := { name := "tuplesSorted", fn := fun _ => fun
  | [d1, d2] => { results := [.lit (.bool false)], args := [d1, d2] }
  | _ => none }
def TuplesSortedWrongFalsely : Prop := tuplesSortedRow.holds Try.pinned (OpenSpec.ofChange tuplesSortedWrong)

/-- 'countersignlaw02.TuplesErrors': WHATEVER THE INPUT: true; the input reads as it did. -/
def tuplesErrorsSpec : ChangeSpec := { name := "tuplesErrors", fn := fun _ => fun
  | [d1, d2, d3] => { results := [.lit (.bool true)], args := [d1, d2, d3] }
  | _ => none }
def tuplesErrorsRow : OpenClaim := { program := "ytpnmjelhnacmlaa", sum := "03ac6670e27b2e4ba3ca0115a6b74fee08243793e1c582c18e1718a9b43ee232", func := "countersign/countersignlaw02.TuplesErrors", spec := "tuplesErrors", inPlace := ["internal/bytealg.IndexByteString", "internal/bytealg.IndexString", "internal/bytealg.CountString", "internal/bytealg.abigen_runtime_cmpstring"], unfollowed := true, recurses := true, named := ["internal/bytealg.MaxLen"], apart := false }
def TuplesErrorsSaid : Prop := tuplesErrorsRow.holds Try.pinned (OpenSpec.ofChange tuplesErrorsSpec)

/-- ITS FALSE NEIGHBOUR: 'it returns false'. Refute it at one input. -/
def tuplesErrorsWrong : ChangeSpec := { name := "tuplesErrors", fn := fun _ => fun
  | [d1, d2, d3] => { results := [.lit (.bool false)], args := [d1, d2, d3] }
  | _ => none }
def TuplesErrorsWrongFalsely : Prop := tuplesErrorsRow.holds Try.pinned (OpenSpec.ofChange tuplesErrorsWrong)

/-- 'countersignlaw02.TuplesKnown': WHATEVER THE INPUT: true; the input reads as it did. -/
def tuplesKnownSpec : ChangeSpec := { name := "tuplesKnown", fn := fun _ => fun
  | [] => { results := [.lit (.bool true)], args := [] }
  | _ => none }
def tuplesKnownRow : OpenClaim := { program := "ytpnmjelhnacmlaa", sum := "03ac6670e27b2e4ba3ca0115a6b74fee08243793e1c582c18e1718a9b43ee232", func := "countersign/countersignlaw02.TuplesKnown", spec := "tuplesKnown", inPlace := ["internal/bytealg.abigen_runtime_cmpstring", "internal/bytealg.IndexByteString", "internal/bytealg.IndexString", "internal/bytealg.CountString"], unfollowed := true, recurses := true, named := ["internal/bytealg.MaxLen"], apart := false }
def TuplesKnownSaid : Prop := tuplesKnownRow.holds Try.pinned (OpenSpec.ofChange tuplesKnownSpec)

/-- ITS FALSE NEIGHBOUR: 'it returns false'. Refute it at one input. -/
def tuplesKnownWrong : ChangeSpec := { name := "tuplesKnown", fn := fun _ => fun
  | [] => { results := [.lit (.bool false)], args := [] }
  | _ => none }
def TuplesKnownWrongFalsely : Prop := tuplesKnownRow.holds Try.pinned (OpenSpec.ofChange tuplesKnownWrong)

/-- 'countersignlaw02.TuplesParse': WHATEVER THE INPUT: true; the input reads as it did. -/
def tuplesParseSpec : ChangeSpec := { name := "tuplesParse", fn := fun _ => fun
  | [d] => { results := [.lit (.bool true)], args := [d] }
  | _ => none }
def tuplesParseRow : OpenClaim := { program := "ytpnmjelhnacmlaa", sum := "03ac6670e27b2e4ba3ca0115a6b74fee08243793e1c582c18e1718a9b43ee232", func := "countersign/countersignlaw02.TuplesParse", spec := "tuplesParse", inPlace := ["internal/bytealg.IndexByteString", "internal/bytealg.IndexString", "internal/bytealg.CountString", "internal/bytealg.abigen_runtime_cmpstring"], unfollowed := true, recurses := true, named := ["internal/bytealg.MaxLen"], apart := false }
def TuplesParseSaid : Prop := tuplesParseRow.holds Try.pinned (OpenSpec.ofChange tuplesParseSpec)

/-- ITS FALSE NEIGHBOUR: 'it returns false'. Refute it at one input. -/
def tuplesParseWrong : ChangeSpec := { name := "tuplesParse", fn := fun _ => fun
  | [d] => { results := [.lit (.bool false)], args := [d] }
  | _ => none }
def TuplesParseWrongFalsely : Prop := tuplesParseRow.holds Try.pinned (OpenSpec.ofChange tuplesParseWrong)

/-- 'countersignlaw02.TuplesCheck': WHATEVER THE INPUT: true; the input reads as it did. -/
def tuplesCheckSpec : ChangeSpec := { name := "tuplesCheck", fn := fun _ => fun
  | [d1, d2] => { results := [.lit (.bool true)], args := [d1, d2] }
  | _ => none }
def tuplesCheckRow : OpenClaim := { program := "ytpnmjelhnacmlaa", sum := "03ac6670e27b2e4ba3ca0115a6b74fee08243793e1c582c18e1718a9b43ee232", func := "countersign/countersignlaw02.TuplesCheck", spec := "tuplesCheck", inPlace := ["internal/bytealg.IndexByteString", "internal/bytealg.IndexString", "internal/bytealg.CountString", "internal/bytealg.abigen_runtime_cmpstring"], unfollowed := true, recurses := true, named := ["internal/bytealg.MaxLen"], apart := false }
def TuplesCheckSaid : Prop := tuplesCheckRow.holds Try.pinned (OpenSpec.ofChange tuplesCheckSpec)

/-- ITS FALSE NEIGHBOUR: 'it returns false'. Refute it at one input. -/
def tuplesCheckWrong : ChangeSpec := { name := "tuplesCheck", fn := fun _ => fun
  | [d1, d2] => { results := [.lit (.bool false)], args := [d1, d2] }
  | _ => none }
def TuplesCheckWrongFalsely : Prop := tuplesCheckRow.holds Try.pinned (OpenSpec.ofChange tuplesCheckWrong)

/- THE SECOND FORM. 'bulk': how many values and letters a reading holds, each counted each time it is reached (what is shared counts as often as it is met; a slice's spare places count too). A statement '..UptoSaid' is the law's where the arguments, and the package variables that the reading takes, are together of bulk at most 1048576: NARROWER than '..Said'. Prove '..Said' where nothing that the law and all that it calls make is longer than what came in: it says more and counts as full. Else prove '..UptoSaid'. A law counts once. -/
mutual
def uptoBulk {H : Type} : DataW H → Nat
  | .lit (.string bytes) => bytes.length + 1
  | .lit _ => 1
  | .nil => 1
  | .ptr d => uptoBulk d + 1
  | .slice elems spare => uptoBulkAll elems + uptoBulkAll spare + 1
  | .agg parts => uptoBulkAll parts + 1
  | .iface _ d => uptoBulk d + 1
  | .map entries => uptoBulkEntries entries + 1
  | .held _ => 1
def uptoBulkAll {H : Type} : List (DataW H) → Nat
  | [] => 0
  | d :: r => uptoBulk d + uptoBulkAll r
def uptoBulkEntries {H : Type} : List (Lit × DataW H) → Nat
  | [] => 0
  | x :: r => uptoBulkEntry x + uptoBulkEntries r
def uptoBulkEntry {H : Type} : Lit × DataW H → Nat
  | (.string bytes, d) => bytes.length + uptoBulk d + 1
  | (_, d) => uptoBulk d + 1
 end
def uptoSmall : (H : Type) → List (DataW H) → Bool := fun _ ds => decide (uptoBulkAll ds ≤ 1048576)
def OpenSpec.upto (s : _root_.Go.ChangeSpec) : _root_.Go.OpenSpec := { _root_.Go.OpenSpec.ofChange s with cond := some uptoSmall }

/-- 'countersignlaw23.GoalsWith', WHERE WHAT IT READS IS OF BULK AT MOST 1048576: true; the input reads as it did. -/
def goalsWithUptoRow : OpenClaim := { program := "ytpnmjelhnacmlaa", sum := "03ac6670e27b2e4ba3ca0115a6b74fee08243793e1c582c18e1718a9b43ee232", func := "countersign/countersignlaw23.GoalsWith", spec := "goalsWith", inPlace := ["internal/bytealg.abigen_runtime_cmpstring"], unfollowed := true, recurses := true, apart := false, narrowed := true }
def GoalsWithUptoSaid : Prop := goalsWithUptoRow.holds Try.pinned (OpenSpec.upto goalsWithSpec)

/-- 'countersignlaw23.GoalsOf', WHERE WHAT IT READS IS OF BULK AT MOST 1048576: true; the input reads as it did. -/
def goalsOfUptoRow : OpenClaim := { program := "ytpnmjelhnacmlaa", sum := "03ac6670e27b2e4ba3ca0115a6b74fee08243793e1c582c18e1718a9b43ee232", func := "countersign/countersignlaw23.GoalsOf", spec := "goalsOf", inPlace := ["internal/bytealg.abigen_runtime_cmpstring"], unfollowed := true, recurses := true, apart := false, narrowed := true }
def GoalsOfUptoSaid : Prop := goalsOfUptoRow.holds Try.pinned (OpenSpec.upto goalsOfSpec)

/-- 'countersignlaw23.GoalsViews', WHERE WHAT IT READS IS OF BULK AT MOST 1048576: true; the input reads as it did. -/
def goalsViewsUptoRow : OpenClaim := { program := "ytpnmjelhnacmlaa", sum := "03ac6670e27b2e4ba3ca0115a6b74fee08243793e1c582c18e1718a9b43ee232", func := "countersign/countersignlaw23.GoalsViews", spec := "goalsViews", inPlace := ["internal/bytealg.abigen_runtime_cmpstring"], unfollowed := true, recurses := true, apart := false, narrowed := true }
def GoalsViewsUptoSaid : Prop := goalsViewsUptoRow.holds Try.pinned (OpenSpec.upto goalsViewsSpec)

/-- 'countersignlaw23.GoalsErrors', WHERE WHAT IT READS IS OF BULK AT MOST 1048576: true; the input reads as it did. -/
def goalsErrorsUptoRow : OpenClaim := { program := "ytpnmjelhnacmlaa", sum := "03ac6670e27b2e4ba3ca0115a6b74fee08243793e1c582c18e1718a9b43ee232", func := "countersign/countersignlaw23.GoalsErrors", spec := "goalsErrors", inPlace := ["internal/bytealg.abigen_runtime_cmpstring"], unfollowed := true, recurses := true, apart := false, narrowed := true }
def GoalsErrorsUptoSaid : Prop := goalsErrorsUptoRow.holds Try.pinned (OpenSpec.upto goalsErrorsSpec)

/-- 'countersignlaw23.GoalsKnown', WHERE WHAT IT READS IS OF BULK AT MOST 1048576: true; the input reads as it did. -/
def goalsKnownUptoRow : OpenClaim := { program := "ytpnmjelhnacmlaa", sum := "03ac6670e27b2e4ba3ca0115a6b74fee08243793e1c582c18e1718a9b43ee232", func := "countersign/countersignlaw23.GoalsKnown", spec := "goalsKnown", inPlace := ["internal/bytealg.abigen_runtime_cmpstring"], unfollowed := true, recurses := true, apart := false, narrowed := true }
def GoalsKnownUptoSaid : Prop := goalsKnownUptoRow.holds Try.pinned (OpenSpec.upto goalsKnownSpec)

/-- 'countersignlaw02.TuplesFind', WHERE WHAT IT READS IS OF BULK AT MOST 1048576: true; the input reads as it did. -/
def tuplesFindUptoRow : OpenClaim := { program := "ytpnmjelhnacmlaa", sum := "03ac6670e27b2e4ba3ca0115a6b74fee08243793e1c582c18e1718a9b43ee232", func := "countersign/countersignlaw02.TuplesFind", spec := "tuplesFind", inPlace := ["internal/bytealg.abigen_runtime_cmpstring", "internal/bytealg.IndexByteString", "internal/bytealg.IndexString", "internal/bytealg.CountString"], unfollowed := true, recurses := true, named := ["internal/bytealg.MaxLen"], apart := false, narrowed := true }
def TuplesFindUptoSaid : Prop := tuplesFindUptoRow.holds Try.pinned (OpenSpec.upto tuplesFindSpec)

/-- 'countersignlaw02.TuplesSorted', WHERE WHAT IT READS IS OF BULK AT MOST 1048576: true; the input reads as it did. -/
def tuplesSortedUptoRow : OpenClaim := { program := "ytpnmjelhnacmlaa", sum := "03ac6670e27b2e4ba3ca0115a6b74fee08243793e1c582c18e1718a9b43ee232", func := "countersign/countersignlaw02.TuplesSorted", spec := "tuplesSorted", inPlace := ["internal/bytealg.abigen_runtime_cmpstring", "internal/bytealg.IndexByteString", "internal/bytealg.IndexString", "internal/bytealg.CountString"], unfollowed := true, recurses := true, named := ["internal/bytealg.MaxLen"], apart := false, narrowed := true }
def TuplesSortedUptoSaid : Prop := tuplesSortedUptoRow.holds Try.pinned (OpenSpec.upto tuplesSortedSpec)

/-- 'countersignlaw02.TuplesErrors', WHERE WHAT IT READS IS OF BULK AT MOST 1048576: true; the input reads as it did. -/
def tuplesErrorsUptoRow : OpenClaim := { program := "ytpnmjelhnacmlaa", sum := "03ac6670e27b2e4ba3ca0115a6b74fee08243793e1c582c18e1718a9b43ee232", func := "countersign/countersignlaw02.TuplesErrors", spec := "tuplesErrors", inPlace := ["internal/bytealg.IndexByteString", "internal/bytealg.IndexString", "internal/bytealg.CountString", "internal/bytealg.abigen_runtime_cmpstring"], unfollowed := true, recurses := true, named := ["internal/bytealg.MaxLen"], apart := false, narrowed := true }
def TuplesErrorsUptoSaid : Prop := tuplesErrorsUptoRow.holds Try.pinned (OpenSpec.upto tuplesErrorsSpec)

/-- 'countersignlaw02.TuplesKnown', WHERE WHAT IT READS IS OF BULK AT MOST 1048576: true; the input reads as it did. -/
def tuplesKnownUptoRow : OpenClaim := { program := "ytpnmjelhnacmlaa", sum := "03ac6670e27b2e4ba3ca0115a6b74fee08243793e1c582c18e1718a9b43ee232", func := "countersign/countersignlaw02.TuplesKnown", spec := "tuplesKnown", inPlace := ["internal/bytealg.abigen_runtime_cmpstring", "internal/bytealg.IndexByteString", "internal/bytealg.IndexString", "internal/bytealg.CountString"], unfollowed := true, recurses := true, named := ["internal/bytealg.MaxLen"], apart := false, narrowed := true }
def TuplesKnownUptoSaid : Prop := tuplesKnownUptoRow.holds Try.pinned (OpenSpec.upto tuplesKnownSpec)

/-- 'countersignlaw02.TuplesParse', WHERE WHAT IT READS IS OF BULK AT MOST 1048576: true; the input reads as it did. -/
def tuplesParseUptoRow : OpenClaim := { program := "ytpnmjelhnacmlaa", sum := "03ac6670e27b2e4ba3ca0115a6b74fee08243793e1c582c18e1718a9b43ee232", func := "countersign/countersignlaw02.TuplesParse", spec := "tuplesParse", inPlace := ["internal/bytealg.IndexByteString", "internal/bytealg.IndexString", "internal/bytealg.CountString", "internal/bytealg.abigen_runtime_cmpstring"], unfollowed := true, recurses := true, named := ["internal/bytealg.MaxLen"], apart := false, narrowed := true }
def TuplesParseUptoSaid : Prop := tuplesParseUptoRow.holds Try.pinned (OpenSpec.upto tuplesParseSpec)

/-- 'countersignlaw02.TuplesCheck', WHERE WHAT IT READS IS OF BULK AT MOST 1048576: true; the input reads as it did. -/
def tuplesCheckUptoRow : OpenClaim := { program := "ytpnmjelhnacmlaa", sum := "03ac6670e27b2e4ba3ca0115a6b74fee08243793e1c582c18e1718a9b43ee232", func := "countersign/countersignlaw02.TuplesCheck", spec := "tuplesCheck", inPlace := ["internal/bytealg.IndexByteString", "internal/bytealg.IndexString", "internal/bytealg.CountString", "internal/bytealg.abigen_runtime_cmpstring"], unfollowed := true, recurses := true, named := ["internal/bytealg.MaxLen"], apart := false, narrowed := true }
def TuplesCheckUptoSaid : Prop := tuplesCheckUptoRow.holds Try.pinned (OpenSpec.upto tuplesCheckSpec)

end Rows
end Go.Proofs.Ytpnmjelhnacmlaa
