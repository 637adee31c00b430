/-
  No cell of these rows narrows 'for every input' (looked for: loops, veiled, ifaces, maps, wideKeys, modest, calm, conditions, laid).
  DERIVED. THE GIVEN ROWS OF THIS SEAT. 7 by the template 'for every input the law returns true; each argument reads behind the call as it read before'; 0 by the template 'total and deterministic' (their statements: YtcppaheijljnfaaGreatTotals.lean).
  GIVEN WITH THE SEED: the statements are not yours to turn. If you find one false, say at which input.
  Laid BY PROGRAM, IN A SANDBOX (cutbox-rows.mjs): the forced cells as the released guide's own fill.sh prints them over the translation e01cdd03a7ae28b6… (all of the seat's roots in one cut). By AI agents, Wed Nov 11 2026. No macro, syntax, notation, axiom, sorry.
-/
import Derived.Test.YtcppaheijljnfaaGreatChecked
import GoSem.Claim
import GoSem.ClaimJoined
import GoSem.ClaimMapViews
import Derived.JoinedTies
import Derived.KernelRfl
namespace Go.Proofs.YtcppaheijljnfaaGreat
/- THE CELL 'sum', in the pinned program and in every row, IS THE sha256 OF THE DUMP (.gsa) THAT YtcppaheijljnfaaGreatProg.lean LOADS. Nothing in Lean hashes anything: it is a label: what it is worth is what the hold of that sum in a sandbox is worth. -/
noncomputable def Tryz.pinned : Pinned := { name := "ytcppaheijljnfaagreat", sum := "e01cdd03a7ae28b6dad259ecbcaf81ebf88716334994e018ba31c17b12c13061", checked := Tryz.checked }
namespace Rows
def none {H : Type} : Left H := { results := [], args := [] }

/-- 'countersignlaw10.StoresAt': WHATEVER THE INPUT: true; the input reads as it did. -/
def storesAtSpec : ChangeSpec := { name := "storesAt", fn := fun _ => fun
  | [d1, d2] => { results := [.lit (.bool true)], args := [d1, d2] }
  | _ => none }
def storesAtRow : OpenClaim := { program := "ytcppaheijljnfaagreat", sum := "e01cdd03a7ae28b6dad259ecbcaf81ebf88716334994e018ba31c17b12c13061", func := "countersign/countersignlaw10.StoresAt", spec := "storesAt", inPlace := ["internal/bytealg.abigen_runtime_cmpstring", "slices.overlaps[countersign/pins.pin]"], unfollowed := true, recurses := true, apart := false }
def StoresAtSaid : Prop := storesAtRow.holds Tryz.pinned (OpenSpec.ofChange storesAtSpec)

/-- ITS FALSE NEIGHBOUR: 'it returns false'. Refute it at one input. -/
def storesAtWrong : ChangeSpec := { name := "storesAt", fn := fun _ => fun
  | [d1, d2] => { results := [.lit (.bool false)], args := [d1, d2] }
  | _ => none }
def StoresAtWrongFalsely : Prop := storesAtRow.holds Tryz.pinned (OpenSpec.ofChange storesAtWrong)

/-- 'countersignlaw10.StoresKnown': WHATEVER THE INPUT: true; the input reads as it did. -/
def storesKnownSpec : ChangeSpec := { name := "storesKnown", fn := fun _ => fun
  | [] => { results := [.lit (.bool true)], args := [] }
  | _ => none }
def storesKnownRow : OpenClaim := { program := "ytcppaheijljnfaagreat", sum := "e01cdd03a7ae28b6dad259ecbcaf81ebf88716334994e018ba31c17b12c13061", func := "countersign/countersignlaw10.StoresKnown", spec := "storesKnown", inPlace := ["internal/bytealg.abigen_runtime_cmpstring", "slices.overlaps[countersign/pins.pin]"], unfollowed := true, recurses := true, apart := false }
def StoresKnownSaid : Prop := storesKnownRow.holds Tryz.pinned (OpenSpec.ofChange storesKnownSpec)

/-- ITS FALSE NEIGHBOUR: 'it returns false'. Refute it at one input. -/
def storesKnownWrong : ChangeSpec := { name := "storesKnown", fn := fun _ => fun
  | [] => { results := [.lit (.bool false)], args := [] }
  | _ => none }
def StoresKnownWrongFalsely : Prop := storesKnownRow.holds Tryz.pinned (OpenSpec.ofChange storesKnownWrong)

/-- 'countersignlaw10.StoresPlay': WHATEVER THE INPUT: true; the input reads as it did. -/
def storesPlaySpec : ChangeSpec := { name := "storesPlay", fn := fun _ => fun
  | [d] => { results := [.lit (.bool true)], args := [d] }
  | _ => none }
def storesPlayRow : OpenClaim := { program := "ytcppaheijljnfaagreat", sum := "e01cdd03a7ae28b6dad259ecbcaf81ebf88716334994e018ba31c17b12c13061", func := "countersign/countersignlaw10.StoresPlay", spec := "storesPlay", inPlace := ["internal/bytealg.abigen_runtime_cmpstring", "slices.overlaps[countersign/pins.pin]"], unfollowed := true, recurses := true, apart := false }
def StoresPlaySaid : Prop := storesPlayRow.holds Tryz.pinned (OpenSpec.ofChange storesPlaySpec)

/-- ITS FALSE NEIGHBOUR: 'it returns false'. Refute it at one input. -/
def storesPlayWrong : ChangeSpec := { name := "storesPlay", fn := fun _ => fun
  | [d] => { results := [.lit (.bool false)], args := [d] }
  | _ => none }
def StoresPlayWrongFalsely : Prop := storesPlayRow.holds Tryz.pinned (OpenSpec.ofChange storesPlayWrong)

/-- 'countersignlaw10.StoresDelta': WHATEVER THE INPUT: true; the input reads as it did. -/
def storesDeltaSpec : ChangeSpec := { name := "storesDelta", fn := fun _ => fun
  | [d1, d2, d3] => { results := [.lit (.bool true)], args := [d1, d2, d3] }
  | _ => none }
def storesDeltaRow : OpenClaim := { program := "ytcppaheijljnfaagreat", sum := "e01cdd03a7ae28b6dad259ecbcaf81ebf88716334994e018ba31c17b12c13061", func := "countersign/countersignlaw10.StoresDelta", spec := "storesDelta", inPlace := ["internal/bytealg.abigen_runtime_cmpstring", "slices.overlaps[countersign/pins.pin]"], unfollowed := true, recurses := true, apart := false }
def StoresDeltaSaid : Prop := storesDeltaRow.holds Tryz.pinned (OpenSpec.ofChange storesDeltaSpec)

/-- ITS FALSE NEIGHBOUR: 'it returns false'. Refute it at one input. -/
def storesDeltaWrong : ChangeSpec := { name := "storesDelta", fn := fun _ => fun
  | [d1, d2, d3] => { results := [.lit (.bool false)], args := [d1, d2, d3] }
  | _ => none }
def StoresDeltaWrongFalsely : Prop := storesDeltaRow.holds Tryz.pinned (OpenSpec.ofChange storesDeltaWrong)

/-- 'countersignlaw10.StoresCopy': WHATEVER THE INPUT: true; the input reads as it did. -/
def storesCopySpec : ChangeSpec := { name := "storesCopy", fn := fun _ => fun
  | [d1, d2, d3] => { results := [.lit (.bool true)], args := [d1, d2, d3] }
  | _ => none }
def storesCopyRow : OpenClaim := { program := "ytcppaheijljnfaagreat", sum := "e01cdd03a7ae28b6dad259ecbcaf81ebf88716334994e018ba31c17b12c13061", func := "countersign/countersignlaw10.StoresCopy", spec := "storesCopy", inPlace := ["internal/bytealg.abigen_runtime_cmpstring", "slices.overlaps[countersign/pins.pin]"], unfollowed := true, recurses := true, apart := false }
def StoresCopySaid : Prop := storesCopyRow.holds Tryz.pinned (OpenSpec.ofChange storesCopySpec)

/-- ITS FALSE NEIGHBOUR: 'it returns false'. Refute it at one input. -/
def storesCopyWrong : ChangeSpec := { name := "storesCopy", fn := fun _ => fun
  | [d1, d2, d3] => { results := [.lit (.bool false)], args := [d1, d2, d3] }
  | _ => none }
def StoresCopyWrongFalsely : Prop := storesCopyRow.holds Tryz.pinned (OpenSpec.ofChange storesCopyWrong)

/-- 'countersignlaw10.StoresNil': WHATEVER THE INPUT: true; the input reads as it did. -/
def storesNilSpec : ChangeSpec := { name := "storesNil", fn := fun _ => fun
  | [d1, d2] => { results := [.lit (.bool true)], args := [d1, d2] }
  | _ => none }
def storesNilRow : OpenClaim := { program := "ytcppaheijljnfaagreat", sum := "e01cdd03a7ae28b6dad259ecbcaf81ebf88716334994e018ba31c17b12c13061", func := "countersign/countersignlaw10.StoresNil", spec := "storesNil", inPlace := ["internal/bytealg.abigen_runtime_cmpstring", "slices.overlaps[countersign/pins.pin]"], unfollowed := true, recurses := true, apart := false }
def StoresNilSaid : Prop := storesNilRow.holds Tryz.pinned (OpenSpec.ofChange storesNilSpec)

/-- ITS FALSE NEIGHBOUR: 'it returns false'. Refute it at one input. -/
def storesNilWrong : ChangeSpec := { name := "storesNil", fn := fun _ => fun
  | [d1, d2] => { results := [.lit (.bool false)], args := [d1, d2] }
  | _ => none }
def StoresNilWrongFalsely : Prop := storesNilRow.holds Tryz.pinned (OpenSpec.ofChange storesNilWrong)

/-- 'countersignlaw10.StoresMake': WHATEVER THE INPUT: true; the input reads as it did. -/
def storesMakeSpec : ChangeSpec := { name := "storesMake", fn := fun _ => fun
  | [d1, d2, d3] => { results := [.lit (.bool true)], args := [d1, d2, d3] }
  | _ => none }
def storesMakeRow : OpenClaim := { program := "ytcppaheijljnfaagreat", sum := "e01cdd03a7ae28b6dad259ecbcaf81ebf88716334994e018ba31c17b12c13061", func := "countersign/countersignlaw10.StoresMake", spec := "storesMake", inPlace := ["internal/bytealg.abigen_runtime_cmpstring", "slices.overlaps[countersign/pins.pin]"], unfollowed := true, recurses := true, apart := false }
def StoresMakeSaid : Prop := storesMakeRow.holds Tryz.pinned (OpenSpec.ofChange storesMakeSpec)

/-- ITS FALSE NEIGHBOUR: 'it returns false'. Refute it at one input. -/
def storesMakeWrong : ChangeSpec := { name := "storesMake", fn := fun _ => fun
  | [d1, d2, d3] => { results := [.lit (.bool false)], args := [d1, d2, d3] }
  | _ => none }
def StoresMakeWrongFalsely : Prop := storesMakeRow.holds Tryz.pinned (OpenSpec.ofChange storesMakeWrong)

/- THE SECOND FORM. 'bulk': how many values and letters a reading holds, each counted each time it is reached (what is shared counts as often as it is met; a slice's spare places count too). A statement '..UptoSaid' is the law's where the arguments, and the package variables that the reading takes, are together of bulk at most 1048576: NARROWER than '..Said'. Prove '..Said' where nothing that the law and all that it calls make is longer than what came in: it says more and counts as full. Else prove '..UptoSaid'. A law counts once. -/
mutual
def uptoBulk {H : Type} : DataW H → Nat
  | .lit (.string bytes) => bytes.length + 1
  | .lit _ => 1
  | .nil => 1
  | .ptr d => uptoBulk d + 1
  | .slice elems spare => uptoBulkAll elems + uptoBulkAll spare + 1
  | .agg parts => uptoBulkAll parts + 1
  | .iface _ d => uptoBulk d + 1
  | .map entries => uptoBulkEntries entries + 1
  | .held _ => 1
def uptoBulkAll {H : Type} : List (DataW H) → Nat
  | [] => 0
  | d :: r => uptoBulk d + uptoBulkAll r
def uptoBulkEntries {H : Type} : List (Lit × DataW H) → Nat
  | [] => 0
  | x :: r => uptoBulkEntry x + uptoBulkEntries r
def uptoBulkEntry {H : Type} : Lit × DataW H → Nat
  | (.string bytes, d) => bytes.length + uptoBulk d + 1
  | (_, d) => uptoBulk d + 1
 end
def uptoSmall : (H : Type) → List (DataW H) → Bool := fun _ ds => decide (uptoBulkAll ds ≤ 1048576)
def OpenSpec.upto (s : _root_.Go.ChangeSpec) : _root_.Go.OpenSpec := { _root_.Go.OpenSpec.ofChange s with cond := some uptoSmall }

/-- 'countersignlaw10.StoresAt', WHERE WHAT IT READS IS OF BULK AT MOST 1048576: true; the input reads as it did. -/
def storesAtUptoRow : OpenClaim := { program := "ytcppaheijljnfaagreat", sum := "e01cdd03a7ae28b6dad259ecbcaf81ebf88716334994e018ba31c17b12c13061", func := "countersign/countersignlaw10.StoresAt", spec := "storesAt", inPlace := ["internal/bytealg.abigen_runtime_cmpstring", "slices.overlaps[countersign/pins.pin]"], unfollowed := true, recurses := true, apart := false, narrowed := true }
def StoresAtUptoSaid : Prop := storesAtUptoRow.holds Tryz.pinned (OpenSpec.upto storesAtSpec)

/-- 'countersignlaw10.StoresKnown', WHERE WHAT IT READS IS OF BULK AT MOST 1048576: true; the input reads as it did. -/
def storesKnownUptoRow : OpenClaim := { program := "ytcppaheijljnfaagreat", sum := "e01cdd03a7ae28b6dad259ecbcaf81ebf88716334994e018ba31c17b12c13061", func := "countersign/countersignlaw10.StoresKnown", spec := "storesKnown", inPlace := ["internal/bytealg.abigen_runtime_cmpstring", "slices.overlaps[countersign/pins.pin]"], unfollowed := true, recurses := true, apart := false, narrowed := true }
def StoresKnownUptoSaid : Prop := storesKnownUptoRow.holds Tryz.pinned (OpenSpec.upto storesKnownSpec)

/-- 'countersignlaw10.StoresPlay', WHERE WHAT IT READS IS OF BULK AT MOST 1048576: true; the input reads as it did. -/
def storesPlayUptoRow : OpenClaim := { program := "ytcppaheijljnfaagreat", sum := "e01cdd03a7ae28b6dad259ecbcaf81ebf88716334994e018ba31c17b12c13061", func := "countersign/countersignlaw10.StoresPlay", spec := "storesPlay", inPlace := ["internal/bytealg.abigen_runtime_cmpstring", "slices.overlaps[countersign/pins.pin]"], unfollowed := true, recurses := true, apart := false, narrowed := true }
def StoresPlayUptoSaid : Prop := storesPlayUptoRow.holds Tryz.pinned (OpenSpec.upto storesPlaySpec)

/-- 'countersignlaw10.StoresDelta', WHERE WHAT IT READS IS OF BULK AT MOST 1048576: true; the input reads as it did. -/
def storesDeltaUptoRow : OpenClaim := { program := "ytcppaheijljnfaagreat", sum := "e01cdd03a7ae28b6dad259ecbcaf81ebf88716334994e018ba31c17b12c13061", func := "countersign/countersignlaw10.StoresDelta", spec := "storesDelta", inPlace := ["internal/bytealg.abigen_runtime_cmpstring", "slices.overlaps[countersign/pins.pin]"], unfollowed := true, recurses := true, apart := false, narrowed := true }
def StoresDeltaUptoSaid : Prop := storesDeltaUptoRow.holds Tryz.pinned (OpenSpec.upto storesDeltaSpec)

/-- 'countersignlaw10.StoresCopy', WHERE WHAT IT READS IS OF BULK AT MOST 1048576: true; the input reads as it did. -/
def storesCopyUptoRow : OpenClaim := { program := "ytcppaheijljnfaagreat", sum := "e01cdd03a7ae28b6dad259ecbcaf81ebf88716334994e018ba31c17b12c13061", func := "countersign/countersignlaw10.StoresCopy", spec := "storesCopy", inPlace := ["internal/bytealg.abigen_runtime_cmpstring", "slices.overlaps[countersign/pins.pin]"], unfollowed := true, recurses := true, apart := false, narrowed := true }
def StoresCopyUptoSaid : Prop := storesCopyUptoRow.holds Tryz.pinned (OpenSpec.upto storesCopySpec)

/-- 'countersignlaw10.StoresNil', WHERE WHAT IT READS IS OF BULK AT MOST 1048576: true; the input reads as it did. -/
def storesNilUptoRow : OpenClaim := { program := "ytcppaheijljnfaagreat", sum := "e01cdd03a7ae28b6dad259ecbcaf81ebf88716334994e018ba31c17b12c13061", func := "countersign/countersignlaw10.StoresNil", spec := "storesNil", inPlace := ["internal/bytealg.abigen_runtime_cmpstring", "slices.overlaps[countersign/pins.pin]"], unfollowed := true, recurses := true, apart := false, narrowed := true }
def StoresNilUptoSaid : Prop := storesNilUptoRow.holds Tryz.pinned (OpenSpec.upto storesNilSpec)

/-- 'countersignlaw10.StoresMake', WHERE WHAT IT READS IS OF BULK AT MOST 1048576: true; the input reads as it did. -/
def storesMakeUptoRow : OpenClaim := { program := "ytcppaheijljnfaagreat", sum := "e01cdd03a7ae28b6dad259ecbcaf81ebf88716334994e018ba31c17b12c13061", func := "countersign/countersignlaw10.StoresMake", spec := "storesMake", inPlace := ["internal/bytealg.abigen_runtime_cmpstring", "slices.overlaps[countersign/pins.pin]"], unfollowed := true, recurses := true, apart := false, narrowed := true }
def StoresMakeUptoSaid : Prop := storesMakeUptoRow.holds Tryz.pinned (OpenSpec.upto storesMakeSpec)

end Rows
end Go.Proofs.YtcppaheijljnfaaGreat
