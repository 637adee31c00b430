/-
  No cell of these rows narrows 'for every input' (looked for: loops, veiled, ifaces, maps, wideKeys, modest, calm, conditions, laid).
  DERIVED. THE GIVEN ROWS OF THIS SEAT. 4 by the template 'for every input the law returns true; each argument reads behind the call as it read before'; 0 by the template 'total and deterministic' (their statements: YtelaiancfbaalaaGreatTotals.lean).
  GIVEN WITH THE SEED: the statements are not yours to turn. If you find one false, say at which input.
  Laid BY PROGRAM, IN A SANDBOX (cutbox-rows.mjs): the forced cells as the released guide's own fill.sh prints them over the translation 5ccbc34d606abb6d… (all of the seat's roots in one cut). By AI agents, Wed Nov 11 2026. No macro, syntax, notation, axiom, sorry.
-/
import Derived.Test.YtelaiancfbaalaaGreatChecked
import GoSem.Claim
import GoSem.ClaimJoined
import GoSem.ClaimMapViews
import Derived.JoinedTies
import Derived.KernelRfl
namespace Go.Proofs.YtelaiancfbaalaaGreat
/- THE CELL 'sum', in the pinned program and in every row, IS THE sha256 OF THE DUMP (.gsa) THAT YtelaiancfbaalaaGreatProg.lean LOADS. Nothing in Lean hashes anything: it is a label: what it is worth is what the hold of that sum in a sandbox is worth. -/
noncomputable def Tryz.pinned : Pinned := { name := "ytelaiancfbaalaagreat", sum := "5ccbc34d606abb6d20d569c75ff8b324a9b83d06aba8043f3cfeca54c60264a1", checked := Tryz.checked }
namespace Rows
def none {H : Type} : Left H := { results := [], args := [] }

/-- 'countersignlaw06.SetsViews': WHATEVER THE INPUT: true; the input reads as it did. -/
def setsViewsSpec : ChangeSpec := { name := "setsViews", fn := fun _ => fun
  | [d1, d2, d3] => { results := [.lit (.bool true)], args := [d1, d2, d3] }
  | _ => none }
def setsViewsRow : OpenClaim := { program := "ytelaiancfbaalaagreat", sum := "5ccbc34d606abb6d20d569c75ff8b324a9b83d06aba8043f3cfeca54c60264a1", func := "countersign/countersignlaw06.SetsViews", spec := "setsViews", inPlace := ["internal/bytealg.abigen_runtime_cmpstring", "internal/bytealg.IndexByteString", "internal/bytealg.IndexString", "internal/bytealg.CountString"], unfollowed := true, recurses := true, named := ["internal/bytealg.MaxLen"], apart := false }
def SetsViewsSaid : Prop := setsViewsRow.holds Tryz.pinned (OpenSpec.ofChange setsViewsSpec)

/-- ITS FALSE NEIGHBOUR: 'it returns false'. Refute it at one input. -/
def setsViewsWrong : ChangeSpec := { name := "setsViews", fn := fun _ => fun
  | [d1, d2, d3] => { results := [.lit (.bool false)], args := [d1, d2, d3] }
  | _ => none }
def SetsViewsWrongFalsely : Prop := setsViewsRow.holds Tryz.pinned (OpenSpec.ofChange setsViewsWrong)

/-- 'countersignlaw06.SetsErrors': WHATEVER THE INPUT: true; the input reads as it did. -/
def setsErrorsSpec : ChangeSpec := { name := "setsErrors", fn := fun _ => fun
  | [d1, d2, d3] => { results := [.lit (.bool true)], args := [d1, d2, d3] }
  | _ => none }
def setsErrorsRow : OpenClaim := { program := "ytelaiancfbaalaagreat", sum := "5ccbc34d606abb6d20d569c75ff8b324a9b83d06aba8043f3cfeca54c60264a1", func := "countersign/countersignlaw06.SetsErrors", spec := "setsErrors", inPlace := ["internal/bytealg.abigen_runtime_cmpstring", "internal/bytealg.IndexByteString", "internal/bytealg.IndexString", "internal/bytealg.CountString"], unfollowed := true, recurses := true, named := ["internal/bytealg.MaxLen"], apart := false }
def SetsErrorsSaid : Prop := setsErrorsRow.holds Tryz.pinned (OpenSpec.ofChange setsErrorsSpec)

/-- ITS FALSE NEIGHBOUR: 'it returns false'. Refute it at one input. -/
def setsErrorsWrong : ChangeSpec := { name := "setsErrors", fn := fun _ => fun
  | [d1, d2, d3] => { results := [.lit (.bool false)], args := [d1, d2, d3] }
  | _ => none }
def SetsErrorsWrongFalsely : Prop := setsErrorsRow.holds Tryz.pinned (OpenSpec.ofChange setsErrorsWrong)

/-- 'countersignlaw06.SetsPlay': WHATEVER THE INPUT: true; the input reads as it did. -/
def setsPlaySpec : ChangeSpec := { name := "setsPlay", fn := fun _ => fun
  | [d] => { results := [.lit (.bool true)], args := [d] }
  | _ => none }
def setsPlayRow : OpenClaim := { program := "ytelaiancfbaalaagreat", sum := "5ccbc34d606abb6d20d569c75ff8b324a9b83d06aba8043f3cfeca54c60264a1", func := "countersign/countersignlaw06.SetsPlay", spec := "setsPlay", inPlace := ["internal/bytealg.abigen_runtime_cmpstring", "internal/bytealg.IndexByteString", "internal/bytealg.IndexString", "internal/bytealg.CountString"], unfollowed := true, recurses := true, named := ["internal/bytealg.MaxLen"], apart := false }
def SetsPlaySaid : Prop := setsPlayRow.holds Tryz.pinned (OpenSpec.ofChange setsPlaySpec)

/-- ITS FALSE NEIGHBOUR: 'it returns false'. Refute it at one input. -/
def setsPlayWrong : ChangeSpec := { name := "setsPlay", fn := fun _ => fun
  | [d] => { results := [.lit (.bool false)], args := [d] }
  | _ => none }
def SetsPlayWrongFalsely : Prop := setsPlayRow.holds Tryz.pinned (OpenSpec.ofChange setsPlayWrong)

/-- 'countersignlaw06.SetsOrder': WHATEVER THE INPUT: true; the input reads as it did. -/
def setsOrderSpec : ChangeSpec := { name := "setsOrder", fn := fun _ => fun
  | [d1, d2, d3] => { results := [.lit (.bool true)], args := [d1, d2, d3] }
  | _ => none }
def setsOrderRow : OpenClaim := { program := "ytelaiancfbaalaagreat", sum := "5ccbc34d606abb6d20d569c75ff8b324a9b83d06aba8043f3cfeca54c60264a1", func := "countersign/countersignlaw06.SetsOrder", spec := "setsOrder", inPlace := ["internal/bytealg.abigen_runtime_cmpstring", "internal/bytealg.IndexByteString", "internal/bytealg.IndexString", "internal/bytealg.CountString"], unfollowed := true, recurses := true, named := ["internal/bytealg.MaxLen"], apart := false }
def SetsOrderSaid : Prop := setsOrderRow.holds Tryz.pinned (OpenSpec.ofChange setsOrderSpec)

/-- ITS FALSE NEIGHBOUR: 'it returns false'. Refute it at one input. -/
def setsOrderWrong : ChangeSpec := { name := "setsOrder", fn := fun _ => fun
  | [d1, d2, d3] => { results := [.lit (.bool false)], args := [d1, d2, d3] }
  | _ => none }
def SetsOrderWrongFalsely : Prop := setsOrderRow.holds Tryz.pinned (OpenSpec.ofChange setsOrderWrong)

/- THE SECOND FORM. 'bulk': how many values and letters a reading holds, each counted each time it is reached (what is shared counts as often as it is met; a slice's spare places count too). A statement '..UptoSaid' is the law's where the arguments, and the package variables that the reading takes, are together of bulk at most 1048576: NARROWER than '..Said'. Prove '..Said' where nothing that the law and all that it calls make is longer than what came in: it says more and counts as full. Else prove '..UptoSaid'. A law counts once. -/
mutual
def uptoBulk {H : Type} : DataW H → Nat
  | .lit (.string bytes) => bytes.length + 1
  | .lit _ => 1
  | .nil => 1
  | .ptr d => uptoBulk d + 1
  | .slice elems spare => uptoBulkAll elems + uptoBulkAll spare + 1
  | .agg parts => uptoBulkAll parts + 1
  | .iface _ d => uptoBulk d + 1
  | .map entries => uptoBulkEntries entries + 1
  | .held _ => 1
def uptoBulkAll {H : Type} : List (DataW H) → Nat
  | [] => 0
  | d :: r => uptoBulk d + uptoBulkAll r
def uptoBulkEntries {H : Type} : List (Lit × DataW H) → Nat
  | [] => 0
  | x :: r => uptoBulkEntry x + uptoBulkEntries r
def uptoBulkEntry {H : Type} : Lit × DataW H → Nat
  | (.string bytes, d) => bytes.length + uptoBulk d + 1
  | (_, d) => uptoBulk d + 1
 end
def uptoSmall : (H : Type) → List (DataW H) → Bool := fun _ ds => decide (uptoBulkAll ds ≤ 1048576)
def OpenSpec.upto (s : _root_.Go.ChangeSpec) : _root_.Go.OpenSpec := { _root_.Go.OpenSpec.ofChange s with cond := some uptoSmall }

/-- 'countersignlaw06.SetsViews', WHERE WHAT IT READS IS OF BULK AT MOST 1048576: true; the input reads as it did. -/
def setsViewsUptoRow : OpenClaim := { program := "ytelaiancfbaalaagreat", sum := "5ccbc34d606abb6d20d569c75ff8b324a9b83d06aba8043f3cfeca54c60264a1", func := "countersign/countersignlaw06.SetsViews", spec := "setsViews", inPlace := ["internal/bytealg.abigen_runtime_cmpstring", "internal/bytealg.IndexByteString", "internal/bytealg.IndexString", "internal/bytealg.CountString"], unfollowed := true, recurses := true, named := ["internal/bytealg.MaxLen"], apart := false, narrowed := true }
def SetsViewsUptoSaid : Prop := setsViewsUptoRow.holds Tryz.pinned (OpenSpec.upto setsViewsSpec)

/-- 'countersignlaw06.SetsErrors', WHERE WHAT IT READS IS OF BULK AT MOST 1048576: true; the input reads as it did. -/
def setsErrorsUptoRow : OpenClaim := { program := "ytelaiancfbaalaagreat", sum := "5ccbc34d606abb6d20d569c75ff8b324a9b83d06aba8043f3cfeca54c60264a1", func := "countersign/countersignlaw06.SetsErrors", spec := "setsErrors", inPlace := ["internal/bytealg.abigen_runtime_cmpstring", "internal/bytealg.IndexByteString", "internal/bytealg.IndexString", "internal/bytealg.CountString"], unfollowed := true, recurses := true, named := ["internal/bytealg.MaxLen"], apart := false, narrowed := true }
def SetsErrorsUptoSaid : Prop := setsErrorsUptoRow.holds Tryz.pinned (OpenSpec.upto setsErrorsSpec)

/-- 'countersignlaw06.SetsPlay', WHERE WHAT IT READS IS OF BULK AT MOST 1048576: true; the input reads as it did. -/
def setsPlayUptoRow : OpenClaim := { program := "ytelaiancfbaalaagreat", sum := "5ccbc34d606abb6d20d569c75ff8b324a9b83d06aba8043f3cfeca54c60264a1", func := "countersign/countersignlaw06.SetsPlay", spec := "setsPlay", inPlace := ["internal/bytealg.abigen_runtime_cmpstring", "internal/bytealg.IndexByteString", "internal/bytealg.IndexString", "internal/bytealg.CountString"], unfollowed := true, recurses := true, named := ["internal/bytealg.MaxLen"], apart := false, narrowed := true }
def SetsPlayUptoSaid : Prop := setsPlayUptoRow.holds Tryz.pinned (OpenSpec.upto setsPlaySpec)

/-- 'countersignlaw06.SetsOrder', WHERE WHAT IT READS IS OF BULK AT MOST 1048576: true; the input reads as it did. -/
def setsOrderUptoRow : OpenClaim := { program := "ytelaiancfbaalaagreat", sum := "5ccbc34d606abb6d20d569c75ff8b324a9b83d06aba8043f3cfeca54c60264a1", func := "countersign/countersignlaw06.SetsOrder", spec := "setsOrder", inPlace := ["internal/bytealg.abigen_runtime_cmpstring", "internal/bytealg.IndexByteString", "internal/bytealg.IndexString", "internal/bytealg.CountString"], unfollowed := true, recurses := true, named := ["internal/bytealg.MaxLen"], apart := false, narrowed := true }
def SetsOrderUptoSaid : Prop := setsOrderUptoRow.holds Tryz.pinned (OpenSpec.upto setsOrderSpec)

end Rows
end Go.Proofs.YtelaiancfbaalaaGreat
