/- TreesNone returns true for every input, and leaves it as it was: no condition. -/
import Derived.Test.YtnfekidcmfljoaaLawK05
import Derived.Test.YtnfekidcmfljoaaKitW
import Derived.Test.YtnfekidcmfljoaaRows
namespace Go.Proofs.Ytnfekidcmfljoaa.treesNone
open Go.ChangeShapes Go.WideShapes Go.ChangeAt Go.ChangeMaps Go.RowKit Go.V
theorem own : ownKnob Try.prog.godebug = none := by kernel_rfl
theorem laidOut : laidOutB Try.prog = true := by kernel_rfl
theorem lf0 : leafI Try.prog 20 32 = some [.i .u8, .i .i16] := by kernel_rfl
theorem lc0 : Try.prog.cellsOf 32 = ([.i .u8, .i .i16] : List LeafK).length := by kernel_rfl
theorem lr1 : Try.prog.readableRec 22 = true := by kernel_rfl
theorem lt1 : 22 < Try.prog.types.size := of_decide_eq_true (by kernel_rfl)
theorem lu2 : Try.prog.underlying 22 = some (.slice 32) := by kernel_rfl
theorem lf3 : leafI Try.prog 20 24 = some [.i .i64, .i .i64] := by kernel_rfl
theorem la3 : (match Try.prog.underlying 24 with | some (.struct _) | some (.array _ _) => true | _ => false) = true := by kernel_rfl
theorem lr4 : Try.prog.readableRec 24 = true := by kernel_rfl
theorem lt4 : 24 < Try.prog.types.size := of_decide_eq_true (by kernel_rfl)
set_option maxRecDepth 100000 in
theorem lifted (os : Os) (started : os.Started) (H : Type) (enc : TypeId × Value → H) :
    ReturnsInHanded {} Try.checked os 7 .any (Rows.treesNoneSpec.pre6 enc Try.prog Try.f7 Rows.treesNoneRow.domain false) (Rows.treesNoneSpec.post enc Try.prog Try.f7 false true false false) := by
  refine returnsInHanded_of_change_shaped (C := Try.checked) own started (by kernel_rfl) Try.func7
    (ChangeSpec.witness6 (enc := enc) (C := Try.checked) false ⟨#[], #[.slice none 0 0, .agg #[.int .i64 0, .int .i64 0]], []⟩ 8 (by kernel_rfl) (by kernel_rfl) (by kernel_rfl) (by kernel_rfl)) ?_
  intro W base args ds gs before hval0 hW hcnd _ hsh _
  have hval : ∀ (j : Nat) t v, Try.f7.params[j]? = some t → args[j]? = some v → Value.okWide Try.prog W .any base t v := hval0
  have hW' := hW
  obtain ⟨p, q, hA0, hV, rfl, hfz, hnd⟩ := hW
  have hA : DataW.TrodAll enc Try.prog W 0 (fun _ => true) true Try.f7.params.toList args.toList ds p := hA0
  rw [Try.params7] at hA hval
  obtain ⟨v0, v1, d0, d1, p0, p1, rfl, rfl, rfl, h0, h1⟩ := trodAll_two hA
  obtain ⟨rfl, rfl⟩ := trodVars_none hV
  clear hA0 hval0
  obtain ⟨cs, lcs, zcs, hcs⟩ := open_sl lu2 lf0 lc0 (hval 0 22 v0 rfl rfl) h0
  obtain ⟨c1, rfl, l1, rfl⟩ := open_agg lf3 la3 (hval 1 24 v1 rfl rfl) h1
  obtain ⟨z0, r1, rfl, zz0, l1⟩ := leaf_i l1
  obtain ⟨z1, r1, rfl, zz1, l1⟩ := leaf_i l1
  obtain rfl := leaf_nil l1
  have hplc := hW'.lt
  simp only [List.append_nil] at hW'
  have hlaw := Go.V.L5.treesNone_in lcs zcs hcs z0 z1
  unfold Ret at hlaw
  refine hlaw.mono fun e W' hp => ?_
  obtain ⟨v, rfl, H', g, rfl⟩ := hp
  refine ⟨_, rfl, _, _, _, [], p0 ++ ([] ++ ([])), [], hW', trodAll_cons_mk (shut_bool Try.underlying4 _) trodAll_mk0, ?_, rfl, g.below.frame _, fun h => by cases h⟩
  exact trodAll_cons_mk (Below.trod laidOut lr1 lt1 h0 g.below (fun x hx => hplc x (by simp [hx]))) (trodAll_cons_mk (Below.trod laidOut lr4 lt4 h1 g.below (fun x hx => by cases hx)) trodAll_mk0)
theorem proved : Rows.TreesNoneSaid :=
  OpenClaim.holds_of_wide 7 Try.f7 rfl rfl rfl rfl rfl rfl rfl ⟨rfl, rfl, rfl, rfl, rfl⟩ rfl rfl rfl rfl rfl (by kernel_rfl) Try.func7 (by kernel_rfl)
    (of_decide_eq_true (by kernel_rfl)) (by unfold Func.isWrapper; first | (rw [if_pos (by decide +kernel)]; kernel_rfl) | (rw [if_neg (by decide +kernel)]; exact ⟨rfl, rfl⟩))
    (fun os started H enc _ => lifted os started H enc)
#print axioms proved
end Go.Proofs.Ytnfekidcmfljoaa.treesNone
