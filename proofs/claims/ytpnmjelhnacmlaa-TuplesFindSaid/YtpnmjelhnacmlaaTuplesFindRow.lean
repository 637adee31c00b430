/- TuplesFind returns true for every input, and leaves it as it was: no condition. -/
import Derived.Test.YtpnmjelhnacmlaaLawI02
import Derived.Test.YtpnmjelhnacmlaaKitW
import Derived.Test.YtpnmjelhnacmlaaKitX
import Derived.Test.YtpnmjelhnacmlaaRows
namespace Go.Proofs.Ytpnmjelhnacmlaa.tuplesFind
open Go.ChangeShapes Go.WideShapes Go.ChangeAt Go.ChangeMaps Go.RowKit Go.V
theorem own : ownKnob Try.prog.godebug = none := by kernel_rfl
theorem laidOut : laidOutB Try.prog = true := by kernel_rfl
theorem lf0 : shI Try.prog 20 74 = some [.s 72 75 [.i .u8, .i .u8]] := by kernel_rfl
theorem lq0 : Try.prog.cellTypes Try.prog.depth 74 = some [72] := by kernel_rfl
theorem lr1 : Try.prog.readableRec 74 = true := by kernel_rfl
theorem lt1 : 74 < Try.prog.types.size := of_decide_eq_true (by kernel_rfl)
theorem lf2 : leafI Try.prog 20 75 = some [.i .u8, .i .u8] := by kernel_rfl
theorem la2 : (match Try.prog.underlying 75 with | some (.struct _) | some (.array _ _) => true | _ => false) = true := by kernel_rfl
theorem lr3 : Try.prog.readableRec 75 = true := by kernel_rfl
theorem lt3 : 75 < Try.prog.types.size := of_decide_eq_true (by kernel_rfl)
set_option maxRecDepth 100000 in
theorem lifted (os : Os) (started : os.Started) (H : Type) (enc : TypeId × Value → H) :
    ReturnsInHanded {} Try.checked os 8 .any (Rows.tuplesFindSpec.pre6 enc Try.prog Try.f8 Rows.tuplesFindRow.domain false) (Rows.tuplesFindSpec.post enc Try.prog Try.f8 false true false false) := by
  refine returnsInHanded_of_change_shaped (C := Try.checked) own started (by kernel_rfl) Try.func8
    (ChangeSpec.witness6 (enc := enc) (C := Try.checked) false ⟨#[], #[.agg #[.slice none 0 0], .agg #[.int .u8 0, .int .u8 0]], []⟩ 8 (by kernel_rfl) (by kernel_rfl) (by kernel_rfl) (by kernel_rfl)) ?_
  intro W base args ds gs before hval0 hW hcnd _ hsh _
  have hval : ∀ (j : Nat) t v, Try.f8.params[j]? = some t → args[j]? = some v → Value.okWide Try.prog W .any base t v := hval0
  have hW' := hW
  obtain ⟨p, q, hA0, hV, rfl, hfz, hnd⟩ := hW
  have hA : DataW.TrodAll enc Try.prog W 0 (fun _ => true) true Try.f8.params.toList args.toList ds p := hA0
  rw [Try.params8] at hA hval
  obtain ⟨v0, v1, d0, d1, p0, p1, rfl, rfl, rfl, h0, h1⟩ := trodAll_two hA
  obtain ⟨rfl, rfl⟩ := trodVars_none hV
  clear hA0 hval0
  obtain ⟨c0, rfl, l0⟩ := open_st lf0 Try.underlying74 lq0 rfl (hval 0 74 v0 rfl rfl) h0
  obtain ⟨wcs, r0, rfl, ⟨cs, lcs, zcs, hcs⟩, l0⟩ := sh_s l0
  obtain rfl := l0
  obtain ⟨c1, rfl, l1, rfl⟩ := open_agg lf2 la2 (hval 1 75 v1 rfl rfl) h1
  obtain ⟨a, r1, rfl, za, l1⟩ := leaf_i l1
  obtain ⟨b, r1, rfl, zb, l1⟩ := leaf_i l1
  obtain rfl := leaf_nil l1
  obtain ⟨m0, hm0⟩ := Try.laysM145.s1_3 W hsh
  have hglob := GlobM.of_cell hm0
  have hplc := hW'.lt
  simp only [List.append_nil] at hW'
  have hlaw := Go.V.L2.tuplesFind_in lcs zcs hcs za zb hglob
  unfold Ret at hlaw
  refine hlaw.mono fun e W' hp => ?_
  obtain ⟨v, rfl, H', g, rfl⟩ := hp
  refine ⟨_, rfl, _, _, _, [], p0 ++ ([] ++ ([])), [], hW', trodAll_cons_mk (shut_bool Try.underlying4 _) trodAll_mk0, ?_, rfl, g.below.frame _, fun h => by cases h⟩
  exact trodAll_cons_mk (Below.trod laidOut lr1 lt1 h0 g.below (fun x hx => hplc x (by simp [hx]))) (trodAll_cons_mk (Below.trod laidOut lr3 lt3 h1 g.below (fun x hx => by cases hx)) trodAll_mk0)
theorem proved : Rows.TuplesFindSaid :=
  OpenClaim.holds_of_wide 8 Try.f8 rfl rfl rfl rfl rfl rfl rfl ⟨rfl, rfl, rfl, rfl, rfl⟩ rfl rfl rfl rfl rfl (by kernel_rfl) Try.func8 (by kernel_rfl)
    (of_decide_eq_true (by kernel_rfl)) (by unfold Func.isWrapper; first | (rw [if_pos (by decide +kernel)]; kernel_rfl) | (rw [if_neg (by decide +kernel)]; exact ⟨rfl, rfl⟩))
    (fun os started H enc _ => lifted os started H enc)
#print axioms proved
end Go.Proofs.Ytpnmjelhnacmlaa.tuplesFind
