/-
  No cell of these rows narrows 'for every input' (looked for: loops, veiled, ifaces, maps, wideKeys, modest, calm, conditions, laid).
  DERIVED. THE GIVEN ROWS OF THIS SEAT. 6 by the template 'for every input the law returns true; each argument reads behind the call as it read before'; 0 by the template 'total and deterministic' (their statements: YtefilnnomholbaaGreatTotals.lean).
  GIVEN WITH THE SEED: the statements are not yours to turn. If you find one false, say at which input.
  Laid BY PROGRAM, IN A SANDBOX (cutbox-rows.mjs): the forced cells as the released guide's own fill.sh prints them over the translation 6e194d74de1b0a73… (all of the seat's roots in one cut). By AI agents, Wed Nov 11 2026. No macro, syntax, notation, axiom, sorry.
-/
import Derived.Test.YtefilnnomholbaaGreatChecked
import GoSem.Claim
import GoSem.ClaimJoined
import GoSem.ClaimMapViews
import Derived.JoinedTies
import Derived.KernelRfl
namespace Go.Proofs.YtefilnnomholbaaGreat
/- THE CELL 'sum', in the pinned program and in every row, IS THE sha256 OF THE DUMP (.gsa) THAT YtefilnnomholbaaGreatProg.lean LOADS. Nothing in Lean hashes anything: it is a label: what it is worth is what the hold of that sum in a sandbox is worth. -/
noncomputable def Tryz.pinned : Pinned := { name := "ytefilnnomholbaagreat", sum := "6e194d74de1b0a7300517be7e743dec32880462aabcb7f9cbc326294cbeb5c33", checked := Tryz.checked }
namespace Rows
def none {H : Type} : Left H := { results := [], args := [] }

/-- 'countersignlaw11.WiresText': WHATEVER THE INPUT: true; the input reads as it did. -/
def wiresTextSpec : ChangeSpec := { name := "wiresText", fn := fun _ => fun
  | [d1, d2, d3] => { results := [.lit (.bool true)], args := [d1, d2, d3] }
  | _ => none }
def wiresTextRow : OpenClaim := { program := "ytefilnnomholbaagreat", sum := "6e194d74de1b0a7300517be7e743dec32880462aabcb7f9cbc326294cbeb5c33", func := "countersign/countersignlaw11.WiresText", spec := "wiresText", inPlace := ["internal/abi.NoEscape", "internal/bytealg.IndexByteString", "internal/bytealg.IndexString", "internal/bytealg.CountString", "internal/bytealg.abigen_runtime_cmpstring", "slices.overlaps[countersign/pins.pin]"], unfollowed := true, recurses := true, named := ["internal/bytealg.MaxLen"], apart := false }
def WiresTextSaid : Prop := wiresTextRow.holds Tryz.pinned (OpenSpec.ofChange wiresTextSpec)

/-- ITS FALSE NEIGHBOUR: 'it returns false'. Refute it at one input. -/
def wiresTextWrong : ChangeSpec := { name := "wiresText", fn := fun _ => fun
  | [d1, d2, d3] => { results := [.lit (.bool false)], args := [d1, d2, d3] }
  | _ => none }
def WiresTextWrongFalsely : Prop := wiresTextRow.holds Tryz.pinned (OpenSpec.ofChange wiresTextWrong)

/-- 'countersignlaw11.WiresParse': WHATEVER THE INPUT: true; the input reads as it did. -/
def wiresParseSpec : ChangeSpec := { name := "wiresParse", fn := fun _ => fun
  | [d] => { results := [.lit (.bool true)], args := [d] }
  | _ => none }
def wiresParseRow : OpenClaim := { program := "ytefilnnomholbaagreat", sum := "6e194d74de1b0a7300517be7e743dec32880462aabcb7f9cbc326294cbeb5c33", func := "countersign/countersignlaw11.WiresParse", spec := "wiresParse", inPlace := ["internal/abi.NoEscape", "internal/bytealg.IndexByteString", "internal/bytealg.IndexString", "internal/bytealg.CountString", "internal/bytealg.abigen_runtime_cmpstring", "slices.overlaps[countersign/pins.pin]"], unfollowed := true, recurses := true, named := ["internal/bytealg.MaxLen"], apart := false }
def WiresParseSaid : Prop := wiresParseRow.holds Tryz.pinned (OpenSpec.ofChange wiresParseSpec)

/-- ITS FALSE NEIGHBOUR: 'it returns false'. Refute it at one input. -/
def wiresParseWrong : ChangeSpec := { name := "wiresParse", fn := fun _ => fun
  | [d] => { results := [.lit (.bool false)], args := [d] }
  | _ => none }
def WiresParseWrongFalsely : Prop := wiresParseRow.holds Tryz.pinned (OpenSpec.ofChange wiresParseWrong)

/-- 'countersignlaw11.WiresLoad': WHATEVER THE INPUT: true; the input reads as it did. -/
def wiresLoadSpec : ChangeSpec := { name := "wiresLoad", fn := fun _ => fun
  | [d] => { results := [.lit (.bool true)], args := [d] }
  | _ => none }
def wiresLoadRow : OpenClaim := { program := "ytefilnnomholbaagreat", sum := "6e194d74de1b0a7300517be7e743dec32880462aabcb7f9cbc326294cbeb5c33", func := "countersign/countersignlaw11.WiresLoad", spec := "wiresLoad", inPlace := ["internal/abi.NoEscape", "internal/bytealg.IndexByteString", "internal/bytealg.IndexString", "internal/bytealg.CountString", "internal/bytealg.abigen_runtime_cmpstring", "slices.overlaps[countersign/pins.pin]"], unfollowed := true, recurses := true, named := ["internal/bytealg.MaxLen"], apart := false }
def WiresLoadSaid : Prop := wiresLoadRow.holds Tryz.pinned (OpenSpec.ofChange wiresLoadSpec)

/-- ITS FALSE NEIGHBOUR: 'it returns false'. Refute it at one input. -/
def wiresLoadWrong : ChangeSpec := { name := "wiresLoad", fn := fun _ => fun
  | [d] => { results := [.lit (.bool false)], args := [d] }
  | _ => none }
def WiresLoadWrongFalsely : Prop := wiresLoadRow.holds Tryz.pinned (OpenSpec.ofChange wiresLoadWrong)

/-- 'countersignlaw11.WiresSet': WHATEVER THE INPUT: true; the input reads as it did. -/
def wiresSetSpec : ChangeSpec := { name := "wiresSet", fn := fun _ => fun
  | [d1, d2, d3] => { results := [.lit (.bool true)], args := [d1, d2, d3] }
  | _ => none }
def wiresSetRow : OpenClaim := { program := "ytefilnnomholbaagreat", sum := "6e194d74de1b0a7300517be7e743dec32880462aabcb7f9cbc326294cbeb5c33", func := "countersign/countersignlaw11.WiresSet", spec := "wiresSet", inPlace := ["internal/abi.NoEscape", "internal/bytealg.IndexByteString", "internal/bytealg.IndexString", "internal/bytealg.CountString", "internal/bytealg.abigen_runtime_cmpstring", "slices.overlaps[countersign/pins.pin]"], unfollowed := true, recurses := true, named := ["internal/bytealg.MaxLen"], apart := false }
def WiresSetSaid : Prop := wiresSetRow.holds Tryz.pinned (OpenSpec.ofChange wiresSetSpec)

/-- ITS FALSE NEIGHBOUR: 'it returns false'. Refute it at one input. -/
def wiresSetWrong : ChangeSpec := { name := "wiresSet", fn := fun _ => fun
  | [d1, d2, d3] => { results := [.lit (.bool false)], args := [d1, d2, d3] }
  | _ => none }
def WiresSetWrongFalsely : Prop := wiresSetRow.holds Tryz.pinned (OpenSpec.ofChange wiresSetWrong)

/-- 'countersignlaw11.WiresKnown': WHATEVER THE INPUT: true; the input reads as it did. -/
def wiresKnownSpec : ChangeSpec := { name := "wiresKnown", fn := fun _ => fun
  | [] => { results := [.lit (.bool true)], args := [] }
  | _ => none }
def wiresKnownRow : OpenClaim := { program := "ytefilnnomholbaagreat", sum := "6e194d74de1b0a7300517be7e743dec32880462aabcb7f9cbc326294cbeb5c33", func := "countersign/countersignlaw11.WiresKnown", spec := "wiresKnown", inPlace := ["internal/abi.NoEscape", "internal/bytealg.IndexByteString", "internal/bytealg.IndexString", "internal/bytealg.CountString", "internal/bytealg.abigen_runtime_cmpstring", "slices.overlaps[countersign/pins.pin]"], unfollowed := true, recurses := true, named := ["internal/bytealg.MaxLen"], apart := false }
def WiresKnownSaid : Prop := wiresKnownRow.holds Tryz.pinned (OpenSpec.ofChange wiresKnownSpec)

/-- ITS FALSE NEIGHBOUR: 'it returns false'. Refute it at one input. -/
def wiresKnownWrong : ChangeSpec := { name := "wiresKnown", fn := fun _ => fun
  | [] => { results := [.lit (.bool false)], args := [] }
  | _ => none }
def WiresKnownWrongFalsely : Prop := wiresKnownRow.holds Tryz.pinned (OpenSpec.ofChange wiresKnownWrong)

/-- 'countersignlaw11.WiresStore': WHATEVER THE INPUT: true; the input reads as it did. -/
def wiresStoreSpec : ChangeSpec := { name := "wiresStore", fn := fun _ => fun
  | [d1, d2] => { results := [.lit (.bool true)], args := [d1, d2] }
  | _ => none }
def wiresStoreRow : OpenClaim := { program := "ytefilnnomholbaagreat", sum := "6e194d74de1b0a7300517be7e743dec32880462aabcb7f9cbc326294cbeb5c33", func := "countersign/countersignlaw11.WiresStore", spec := "wiresStore", inPlace := ["internal/bytealg.abigen_runtime_cmpstring", "slices.overlaps[countersign/pins.pin]", "internal/abi.NoEscape", "internal/bytealg.IndexByteString", "internal/bytealg.IndexString", "internal/bytealg.CountString"], unfollowed := true, recurses := true, named := ["internal/bytealg.MaxLen"], apart := false }
def WiresStoreSaid : Prop := wiresStoreRow.holds Tryz.pinned (OpenSpec.ofChange wiresStoreSpec)

/-- ITS FALSE NEIGHBOUR: 'it returns false'. Refute it at one input. -/
def wiresStoreWrong : ChangeSpec := { name := "wiresStore", fn := fun _ => fun
  | [d1, d2] => { results := [.lit (.bool false)], args := [d1, d2] }
  | _ => none }
def WiresStoreWrongFalsely : Prop := wiresStoreRow.holds Tryz.pinned (OpenSpec.ofChange wiresStoreWrong)

/- THE SECOND FORM. 'bulk': how many values and letters a reading holds, each counted each time it is reached (what is shared counts as often as it is met; a slice's spare places count too). A statement '..UptoSaid' is the law's where the arguments, and the package variables that the reading takes, are together of bulk at most 1048576: NARROWER than '..Said'. Prove '..Said' where nothing that the law and all that it calls make is longer than what came in: it says more and counts as full. Else prove '..UptoSaid'. A law counts once. -/
mutual
def uptoBulk {H : Type} : DataW H → Nat
  | .lit (.string bytes) => bytes.length + 1
  | .lit _ => 1
  | .nil => 1
  | .ptr d => uptoBulk d + 1
  | .slice elems spare => uptoBulkAll elems + uptoBulkAll spare + 1
  | .agg parts => uptoBulkAll parts + 1
  | .iface _ d => uptoBulk d + 1
  | .map entries => uptoBulkEntries entries + 1
  | .held _ => 1
def uptoBulkAll {H : Type} : List (DataW H) → Nat
  | [] => 0
  | d :: r => uptoBulk d + uptoBulkAll r
def uptoBulkEntries {H : Type} : List (Lit × DataW H) → Nat
  | [] => 0
  | x :: r => uptoBulkEntry x + uptoBulkEntries r
def uptoBulkEntry {H : Type} : Lit × DataW H → Nat
  | (.string bytes, d) => bytes.length + uptoBulk d + 1
  | (_, d) => uptoBulk d + 1
 end
def uptoSmall : (H : Type) → List (DataW H) → Bool := fun _ ds => decide (uptoBulkAll ds ≤ 1048576)
def OpenSpec.upto (s : _root_.Go.ChangeSpec) : _root_.Go.OpenSpec := { _root_.Go.OpenSpec.ofChange s with cond := some uptoSmall }

/-- 'countersignlaw11.WiresText', WHERE WHAT IT READS IS OF BULK AT MOST 1048576: true; the input reads as it did. -/
def wiresTextUptoRow : OpenClaim := { program := "ytefilnnomholbaagreat", sum := "6e194d74de1b0a7300517be7e743dec32880462aabcb7f9cbc326294cbeb5c33", func := "countersign/countersignlaw11.WiresText", spec := "wiresText", inPlace := ["internal/abi.NoEscape", "internal/bytealg.IndexByteString", "internal/bytealg.IndexString", "internal/bytealg.CountString", "internal/bytealg.abigen_runtime_cmpstring", "slices.overlaps[countersign/pins.pin]"], unfollowed := true, recurses := true, named := ["internal/bytealg.MaxLen"], apart := false, narrowed := true }
def WiresTextUptoSaid : Prop := wiresTextUptoRow.holds Tryz.pinned (OpenSpec.upto wiresTextSpec)

/-- 'countersignlaw11.WiresParse', WHERE WHAT IT READS IS OF BULK AT MOST 1048576: true; the input reads as it did. -/
def wiresParseUptoRow : OpenClaim := { program := "ytefilnnomholbaagreat", sum := "6e194d74de1b0a7300517be7e743dec32880462aabcb7f9cbc326294cbeb5c33", func := "countersign/countersignlaw11.WiresParse", spec := "wiresParse", inPlace := ["internal/abi.NoEscape", "internal/bytealg.IndexByteString", "internal/bytealg.IndexString", "internal/bytealg.CountString", "internal/bytealg.abigen_runtime_cmpstring", "slices.overlaps[countersign/pins.pin]"], unfollowed := true, recurses := true, named := ["internal/bytealg.MaxLen"], apart := false, narrowed := true }
def WiresParseUptoSaid : Prop := wiresParseUptoRow.holds Tryz.pinned (OpenSpec.upto wiresParseSpec)

/-- 'countersignlaw11.WiresLoad', WHERE WHAT IT READS IS OF BULK AT MOST 1048576: true; the input reads as it did. -/
def wiresLoadUptoRow : OpenClaim := { program := "ytefilnnomholbaagreat", sum := "6e194d74de1b0a7300517be7e743dec32880462aabcb7f9cbc326294cbeb5c33", func := "countersign/countersignlaw11.WiresLoad", spec := "wiresLoad", inPlace := ["internal/abi.NoEscape", "internal/bytealg.IndexByteString", "internal/bytealg.IndexString", "internal/bytealg.CountString", "internal/bytealg.abigen_runtime_cmpstring", "slices.overlaps[countersign/pins.pin]"], unfollowed := true, recurses := true, named := ["internal/bytealg.MaxLen"], apart := false, narrowed := true }
def WiresLoadUptoSaid : Prop := wiresLoadUptoRow.holds Tryz.pinned (OpenSpec.upto wiresLoadSpec)

/-- 'countersignlaw11.WiresSet', WHERE WHAT IT READS IS OF BULK AT MOST 1048576: true; the input reads as it did. -/
def wiresSetUptoRow : OpenClaim := { program := "ytefilnnomholbaagreat", sum := "6e194d74de1b0a7300517be7e743dec32880462aabcb7f9cbc326294cbeb5c33", func := "countersign/countersignlaw11.WiresSet", spec := "wiresSet", inPlace := ["internal/abi.NoEscape", "internal/bytealg.IndexByteString", "internal/bytealg.IndexString", "internal/bytealg.CountString", "internal/bytealg.abigen_runtime_cmpstring", "slices.overlaps[countersign/pins.pin]"], unfollowed := true, recurses := true, named := ["internal/bytealg.MaxLen"], apart := false, narrowed := true }
def WiresSetUptoSaid : Prop := wiresSetUptoRow.holds Tryz.pinned (OpenSpec.upto wiresSetSpec)

/-- 'countersignlaw11.WiresKnown', WHERE WHAT IT READS IS OF BULK AT MOST 1048576: true; the input reads as it did. -/
def wiresKnownUptoRow : OpenClaim := { program := "ytefilnnomholbaagreat", sum := "6e194d74de1b0a7300517be7e743dec32880462aabcb7f9cbc326294cbeb5c33", func := "countersign/countersignlaw11.WiresKnown", spec := "wiresKnown", inPlace := ["internal/abi.NoEscape", "internal/bytealg.IndexByteString", "internal/bytealg.IndexString", "internal/bytealg.CountString", "internal/bytealg.abigen_runtime_cmpstring", "slices.overlaps[countersign/pins.pin]"], unfollowed := true, recurses := true, named := ["internal/bytealg.MaxLen"], apart := false, narrowed := true }
def WiresKnownUptoSaid : Prop := wiresKnownUptoRow.holds Tryz.pinned (OpenSpec.upto wiresKnownSpec)

/-- 'countersignlaw11.WiresStore', WHERE WHAT IT READS IS OF BULK AT MOST 1048576: true; the input reads as it did. -/
def wiresStoreUptoRow : OpenClaim := { program := "ytefilnnomholbaagreat", sum := "6e194d74de1b0a7300517be7e743dec32880462aabcb7f9cbc326294cbeb5c33", func := "countersign/countersignlaw11.WiresStore", spec := "wiresStore", inPlace := ["internal/bytealg.abigen_runtime_cmpstring", "slices.overlaps[countersign/pins.pin]", "internal/abi.NoEscape", "internal/bytealg.IndexByteString", "internal/bytealg.IndexString", "internal/bytealg.CountString"], unfollowed := true, recurses := true, named := ["internal/bytealg.MaxLen"], apart := false, narrowed := true }
def WiresStoreUptoSaid : Prop := wiresStoreUptoRow.holds Tryz.pinned (OpenSpec.upto wiresStoreSpec)

end Rows
end Go.Proofs.YtefilnnomholbaaGreat
