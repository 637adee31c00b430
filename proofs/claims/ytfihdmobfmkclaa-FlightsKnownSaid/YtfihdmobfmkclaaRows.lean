/-
  No cell of these rows narrows 'for every input' (looked for: loops, veiled, ifaces, maps, wideKeys, modest, calm, conditions, laid).
  DERIVED. THE GIVEN ROWS OF THIS SEAT. 6 by the template 'for every input the law returns true; each argument reads behind the call as it read before'; 0 by the template 'total and deterministic' (their statements: YtfihdmobfmkclaaTotals.lean).
  GIVEN WITH THE SEED: the statements are not yours to turn. If you find one false, say at which input.
  Laid BY PROGRAM, IN A SANDBOX (cutbox-rows.mjs): the forced cells as the released guide's own fill.sh prints them over the translation 78d7fcce934b1e51… (all of the seat's roots in one cut). By AI agents, Wed Nov 11 2026. No macro, syntax, notation, axiom, sorry.
-/
import Derived.Test.YtfihdmobfmkclaaChecked
import GoSem.Claim
import GoSem.ClaimJoined
import GoSem.ClaimMapViews
import Derived.JoinedTies
import Derived.KernelRfl
namespace Go.Proofs.Ytfihdmobfmkclaa
/- THE CELL 'sum', in the pinned program and in every row, IS THE sha256 OF THE DUMP (.gsa) THAT YtfihdmobfmkclaaProg.lean LOADS. Nothing in Lean hashes anything: it is a label: what it is worth is what the hold of that sum in a sandbox is worth. -/
noncomputable def Try.pinned : Pinned := { name := "ytfihdmobfmkclaa", sum := "78d7fcce934b1e5198a3a92e6047da6962a0d064eb04222cde6a64b83a3955cf", checked := Try.checked }
namespace Rows
def none {H : Type} : Left H := { results := [], args := [] }

/-- 'countersignlaw39.FlightsJoin': WHATEVER THE INPUT: true; the input reads as it did. -/
def flightsJoinSpec : ChangeSpec := { name := "flightsJoin", fn := fun _ => fun
  | [d1, d2, d3] => { results := [.lit (.bool true)], args := [d1, d2, d3] }
  | _ => none }
def flightsJoinRow : OpenClaim := { program := "ytfihdmobfmkclaa", sum := "78d7fcce934b1e5198a3a92e6047da6962a0d064eb04222cde6a64b83a3955cf", func := "countersign/countersignlaw39.FlightsJoin", spec := "flightsJoin", unfollowed := true, recurses := true, plainKeys := false, apart := false }
def FlightsJoinSaid : Prop := flightsJoinRow.holds Try.pinned (OpenSpec.ofChange flightsJoinSpec)

/-- ITS FALSE NEIGHBOUR: 'it returns false'. Refute it at one input. -/
def flightsJoinWrong : ChangeSpec := { name := "flightsJoin", fn := fun _ => fun
  | [d1, d2, d3] => { results := [.lit (.bool false)], args := [d1, d2, d3] }
  | _ => none }
def FlightsJoinWrongFalsely : Prop := flightsJoinRow.holds Try.pinned (OpenSpec.ofChange flightsJoinWrong)

/-- 'countersignlaw39.FlightsCalls': WHATEVER THE INPUT: true; the input reads as it did. -/
def flightsCallsSpec : ChangeSpec := { name := "flightsCalls", fn := fun _ => fun
  | [d1, d2, d3] => { results := [.lit (.bool true)], args := [d1, d2, d3] }
  | _ => none }
def flightsCallsRow : OpenClaim := { program := "ytfihdmobfmkclaa", sum := "78d7fcce934b1e5198a3a92e6047da6962a0d064eb04222cde6a64b83a3955cf", func := "countersign/countersignlaw39.FlightsCalls", spec := "flightsCalls", unfollowed := true, recurses := true, plainKeys := false, apart := false }
def FlightsCallsSaid : Prop := flightsCallsRow.holds Try.pinned (OpenSpec.ofChange flightsCallsSpec)

/-- ITS FALSE NEIGHBOUR: 'it returns false'. Refute it at one input. -/
def flightsCallsWrong : ChangeSpec := { name := "flightsCalls", fn := fun _ => fun
  | [d1, d2, d3] => { results := [.lit (.bool false)], args := [d1, d2, d3] }
  | _ => none }
def FlightsCallsWrongFalsely : Prop := flightsCallsRow.holds Try.pinned (OpenSpec.ofChange flightsCallsWrong)

/-- 'countersignlaw39.FlightsPlay': WHATEVER THE INPUT: true; the input reads as it did. -/
def flightsPlaySpec : ChangeSpec := { name := "flightsPlay", fn := fun _ => fun
  | [d] => { results := [.lit (.bool true)], args := [d] }
  | _ => none }
def flightsPlayRow : OpenClaim := { program := "ytfihdmobfmkclaa", sum := "78d7fcce934b1e5198a3a92e6047da6962a0d064eb04222cde6a64b83a3955cf", func := "countersign/countersignlaw39.FlightsPlay", spec := "flightsPlay", unfollowed := true, recurses := true, plainKeys := false, apart := false }
def FlightsPlaySaid : Prop := flightsPlayRow.holds Try.pinned (OpenSpec.ofChange flightsPlaySpec)

/-- ITS FALSE NEIGHBOUR: 'it returns false'. Refute it at one input. -/
def flightsPlayWrong : ChangeSpec := { name := "flightsPlay", fn := fun _ => fun
  | [d] => { results := [.lit (.bool false)], args := [d] }
  | _ => none }
def FlightsPlayWrongFalsely : Prop := flightsPlayRow.holds Try.pinned (OpenSpec.ofChange flightsPlayWrong)

/-- 'countersignlaw39.FlightsCounts': WHATEVER THE INPUT: true; the input reads as it did. -/
def flightsCountsSpec : ChangeSpec := { name := "flightsCounts", fn := fun _ => fun
  | [d1, d2] => { results := [.lit (.bool true)], args := [d1, d2] }
  | _ => none }
def flightsCountsRow : OpenClaim := { program := "ytfihdmobfmkclaa", sum := "78d7fcce934b1e5198a3a92e6047da6962a0d064eb04222cde6a64b83a3955cf", func := "countersign/countersignlaw39.FlightsCounts", spec := "flightsCounts", unfollowed := true, recurses := true, plainKeys := false, apart := false }
def FlightsCountsSaid : Prop := flightsCountsRow.holds Try.pinned (OpenSpec.ofChange flightsCountsSpec)

/-- ITS FALSE NEIGHBOUR: 'it returns false'. Refute it at one input. -/
def flightsCountsWrong : ChangeSpec := { name := "flightsCounts", fn := fun _ => fun
  | [d1, d2] => { results := [.lit (.bool false)], args := [d1, d2] }
  | _ => none }
def FlightsCountsWrongFalsely : Prop := flightsCountsRow.holds Try.pinned (OpenSpec.ofChange flightsCountsWrong)

/-- 'countersignlaw39.FlightsKnown': WHATEVER THE INPUT: true; the input reads as it did. -/
def flightsKnownSpec : ChangeSpec := { name := "flightsKnown", fn := fun _ => fun
  | [] => { results := [.lit (.bool true)], args := [] }
  | _ => none }
def flightsKnownRow : OpenClaim := { program := "ytfihdmobfmkclaa", sum := "78d7fcce934b1e5198a3a92e6047da6962a0d064eb04222cde6a64b83a3955cf", func := "countersign/countersignlaw39.FlightsKnown", spec := "flightsKnown", unfollowed := true, recurses := true, plainKeys := false, apart := false }
def FlightsKnownSaid : Prop := flightsKnownRow.holds Try.pinned (OpenSpec.ofChange flightsKnownSpec)

/-- ITS FALSE NEIGHBOUR: 'it returns false'. Refute it at one input. -/
def flightsKnownWrong : ChangeSpec := { name := "flightsKnown", fn := fun _ => fun
  | [] => { results := [.lit (.bool false)], args := [] }
  | _ => none }
def FlightsKnownWrongFalsely : Prop := flightsKnownRow.holds Try.pinned (OpenSpec.ofChange flightsKnownWrong)

/-- 'countersignlaw39.FlightsFan': WHATEVER THE INPUT: true; the input reads as it did. -/
def flightsFanSpec : ChangeSpec := { name := "flightsFan", fn := fun _ => fun
  | [d1, d2, d3] => { results := [.lit (.bool true)], args := [d1, d2, d3] }
  | _ => none }
def flightsFanRow : OpenClaim := { program := "ytfihdmobfmkclaa", sum := "78d7fcce934b1e5198a3a92e6047da6962a0d064eb04222cde6a64b83a3955cf", func := "countersign/countersignlaw39.FlightsFan", spec := "flightsFan", unfollowed := true, recurses := true, plainKeys := false, apart := false }
def FlightsFanSaid : Prop := flightsFanRow.holds Try.pinned (OpenSpec.ofChange flightsFanSpec)

/-- ITS FALSE NEIGHBOUR: 'it returns false'. Refute it at one input. -/
def flightsFanWrong : ChangeSpec := { name := "flightsFan", fn := fun _ => fun
  | [d1, d2, d3] => { results := [.lit (.bool false)], args := [d1, d2, d3] }
  | _ => none }
def FlightsFanWrongFalsely : Prop := flightsFanRow.holds Try.pinned (OpenSpec.ofChange flightsFanWrong)

/- THE SECOND FORM. 'bulk': how many values and letters a reading holds, each counted each time it is reached (what is shared counts as often as it is met; a slice's spare places count too). A statement '..UptoSaid' is the law's where the arguments, and the package variables that the reading takes, are together of bulk at most 1048576: NARROWER than '..Said'. Prove '..Said' where nothing that the law and all that it calls make is longer than what came in: it says more and counts as full. Else prove '..UptoSaid'. A law counts once. -/
mutual
def uptoBulk {H : Type} : DataW H → Nat
  | .lit (.string bytes) => bytes.length + 1
  | .lit _ => 1
  | .nil => 1
  | .ptr d => uptoBulk d + 1
  | .slice elems spare => uptoBulkAll elems + uptoBulkAll spare + 1
  | .agg parts => uptoBulkAll parts + 1
  | .iface _ d => uptoBulk d + 1
  | .map entries => uptoBulkEntries entries + 1
  | .held _ => 1
def uptoBulkAll {H : Type} : List (DataW H) → Nat
  | [] => 0
  | d :: r => uptoBulk d + uptoBulkAll r
def uptoBulkEntries {H : Type} : List (Lit × DataW H) → Nat
  | [] => 0
  | x :: r => uptoBulkEntry x + uptoBulkEntries r
def uptoBulkEntry {H : Type} : Lit × DataW H → Nat
  | (.string bytes, d) => bytes.length + uptoBulk d + 1
  | (_, d) => uptoBulk d + 1
 end
def uptoSmall : (H : Type) → List (DataW H) → Bool := fun _ ds => decide (uptoBulkAll ds ≤ 1048576)
def OpenSpec.upto (s : _root_.Go.ChangeSpec) : _root_.Go.OpenSpec := { _root_.Go.OpenSpec.ofChange s with cond := some uptoSmall }

/-- 'countersignlaw39.FlightsJoin', WHERE WHAT IT READS IS OF BULK AT MOST 1048576: true; the input reads as it did. -/
def flightsJoinUptoRow : OpenClaim := { program := "ytfihdmobfmkclaa", sum := "78d7fcce934b1e5198a3a92e6047da6962a0d064eb04222cde6a64b83a3955cf", func := "countersign/countersignlaw39.FlightsJoin", spec := "flightsJoin", unfollowed := true, recurses := true, plainKeys := false, apart := false, narrowed := true }
def FlightsJoinUptoSaid : Prop := flightsJoinUptoRow.holds Try.pinned (OpenSpec.upto flightsJoinSpec)

/-- 'countersignlaw39.FlightsCalls', WHERE WHAT IT READS IS OF BULK AT MOST 1048576: true; the input reads as it did. -/
def flightsCallsUptoRow : OpenClaim := { program := "ytfihdmobfmkclaa", sum := "78d7fcce934b1e5198a3a92e6047da6962a0d064eb04222cde6a64b83a3955cf", func := "countersign/countersignlaw39.FlightsCalls", spec := "flightsCalls", unfollowed := true, recurses := true, plainKeys := false, apart := false, narrowed := true }
def FlightsCallsUptoSaid : Prop := flightsCallsUptoRow.holds Try.pinned (OpenSpec.upto flightsCallsSpec)

/-- 'countersignlaw39.FlightsPlay', WHERE WHAT IT READS IS OF BULK AT MOST 1048576: true; the input reads as it did. -/
def flightsPlayUptoRow : OpenClaim := { program := "ytfihdmobfmkclaa", sum := "78d7fcce934b1e5198a3a92e6047da6962a0d064eb04222cde6a64b83a3955cf", func := "countersign/countersignlaw39.FlightsPlay", spec := "flightsPlay", unfollowed := true, recurses := true, plainKeys := false, apart := false, narrowed := true }
def FlightsPlayUptoSaid : Prop := flightsPlayUptoRow.holds Try.pinned (OpenSpec.upto flightsPlaySpec)

/-- 'countersignlaw39.FlightsCounts', WHERE WHAT IT READS IS OF BULK AT MOST 1048576: true; the input reads as it did. -/
def flightsCountsUptoRow : OpenClaim := { program := "ytfihdmobfmkclaa", sum := "78d7fcce934b1e5198a3a92e6047da6962a0d064eb04222cde6a64b83a3955cf", func := "countersign/countersignlaw39.FlightsCounts", spec := "flightsCounts", unfollowed := true, recurses := true, plainKeys := false, apart := false, narrowed := true }
def FlightsCountsUptoSaid : Prop := flightsCountsUptoRow.holds Try.pinned (OpenSpec.upto flightsCountsSpec)

/-- 'countersignlaw39.FlightsKnown', WHERE WHAT IT READS IS OF BULK AT MOST 1048576: true; the input reads as it did. -/
def flightsKnownUptoRow : OpenClaim := { program := "ytfihdmobfmkclaa", sum := "78d7fcce934b1e5198a3a92e6047da6962a0d064eb04222cde6a64b83a3955cf", func := "countersign/countersignlaw39.FlightsKnown", spec := "flightsKnown", unfollowed := true, recurses := true, plainKeys := false, apart := false, narrowed := true }
def FlightsKnownUptoSaid : Prop := flightsKnownUptoRow.holds Try.pinned (OpenSpec.upto flightsKnownSpec)

/-- 'countersignlaw39.FlightsFan', WHERE WHAT IT READS IS OF BULK AT MOST 1048576: true; the input reads as it did. -/
def flightsFanUptoRow : OpenClaim := { program := "ytfihdmobfmkclaa", sum := "78d7fcce934b1e5198a3a92e6047da6962a0d064eb04222cde6a64b83a3955cf", func := "countersign/countersignlaw39.FlightsFan", spec := "flightsFan", unfollowed := true, recurses := true, plainKeys := false, apart := false, narrowed := true }
def FlightsFanUptoSaid : Prop := flightsFanUptoRow.holds Try.pinned (OpenSpec.upto flightsFanSpec)

end Rows
end Go.Proofs.Ytfihdmobfmkclaa
