/- TreesViews returns true for every input, and leaves it as it was: no condition. -/
import Derived.Test.YtnfekidcmfljoaaLawI05
import Derived.Test.YtnfekidcmfljoaaKitW
import Derived.Test.YtnfekidcmfljoaaRows
namespace Go.Proofs.Ytnfekidcmfljoaa.treesViews
open Go.ChangeShapes Go.WideShapes Go.ChangeAt Go.ChangeMaps Go.RowKit Go.V
theorem own : ownKnob Try.prog.godebug = none := by kernel_rfl
theorem laidOut : laidOutB Try.prog = true := by kernel_rfl
theorem lf0 : leafI Try.prog 20 32 = some [.i .u8, .i .i16] := by kernel_rfl
theorem lc0 : Try.prog.cellsOf 32 = ([.i .u8, .i .i16] : List LeafK).length := by kernel_rfl
theorem lr1 : Try.prog.readableRec 22 = true := by kernel_rfl
theorem lt1 : 22 < Try.prog.types.size := of_decide_eq_true (by kernel_rfl)
theorem lu2 : Try.prog.underlying 22 = some (.slice 32) := by kernel_rfl
theorem lf3 : leafI Try.prog 20 23 = some [.i .i16] := by kernel_rfl
theorem lo3 : Try.prog.underlying 23 = some (.int .i16) := by kernel_rfl
theorem lr4 : Try.prog.readableRec 23 = true := by kernel_rfl
theorem lt4 : 23 < Try.prog.types.size := of_decide_eq_true (by kernel_rfl)
theorem lf5 : leafI Try.prog 20 24 = some [.i .i64, .i .i64] := by kernel_rfl
theorem la5 : (match Try.prog.underlying 24 with | some (.struct _) | some (.array _ _) => true | _ => false) = true := by kernel_rfl
theorem lr6 : Try.prog.readableRec 24 = true := by kernel_rfl
theorem lt6 : 24 < Try.prog.types.size := of_decide_eq_true (by kernel_rfl)
set_option maxRecDepth 100000 in
theorem lifted (os : Os) (started : os.Started) (H : Type) (enc : TypeId × Value → H) :
    ReturnsInHanded {} Try.checked os 3 .any (Rows.treesViewsSpec.pre6 enc Try.prog Try.f3 Rows.treesViewsRow.domain false) (Rows.treesViewsSpec.post enc Try.prog Try.f3 false true false false) := by
  refine returnsInHanded_of_change_shaped (C := Try.checked) own started (by kernel_rfl) Try.func3
    (ChangeSpec.witness6 (enc := enc) (C := Try.checked) false ⟨#[], #[.slice none 0 0, .int .i16 0, .agg #[.int .i64 0, .int .i64 0]], []⟩ 8 (by kernel_rfl) (by kernel_rfl) (by kernel_rfl) (by kernel_rfl)) ?_
  intro W base args ds gs before hval0 hW hcnd _ hsh _
  have hval : ∀ (j : Nat) t v, Try.f3.params[j]? = some t → args[j]? = some v → Value.okWide Try.prog W .any base t v := hval0
  have hW' := hW
  obtain ⟨p, q, hA0, hV, rfl, hfz, hnd⟩ := hW
  have hA : DataW.TrodAll enc Try.prog W 0 (fun _ => true) true Try.f3.params.toList args.toList ds p := hA0
  rw [Try.params3] at hA hval
  obtain ⟨v0, v1, v2, d0, d1, d2, p0, p1, p2, rfl, rfl, rfl, h0, h1, h2⟩ := trodAll_three hA
  obtain ⟨rfl, rfl⟩ := trodVars_none hV
  clear hA0 hval0
  obtain ⟨cs, lcs, zcs, hcs⟩ := open_sl lu2 lf0 lc0 (hval 0 22 v0 rfl rfl) h0
  obtain ⟨key, rfl, zkey, rfl⟩ := open_one lf3 lo3 (hval 1 23 v1 rfl rfl) h1
  obtain ⟨c2, rfl, l2, rfl⟩ := open_agg lf5 la5 (hval 2 24 v2 rfl rfl) h2
  obtain ⟨z0, r2, rfl, zz0, l2⟩ := leaf_i l2
  obtain ⟨z1, r2, rfl, zz1, l2⟩ := leaf_i l2
  obtain rfl := leaf_nil l2
  have hplc := hW'.lt
  simp only [List.append_nil] at hW'
  have hlaw := Go.V.L5.treesViews_in lcs zcs hcs zkey z0 z1
  unfold Ret at hlaw
  refine hlaw.mono fun e W' hp => ?_
  obtain ⟨v, rfl, H', g, rfl⟩ := hp
  refine ⟨_, rfl, _, _, _, [], p0 ++ ([] ++ ([] ++ ([]))), [], hW', trodAll_cons_mk (shut_bool Try.underlying4 _) trodAll_mk0, ?_, rfl, g.below.frame _, fun h => by cases h⟩
  exact trodAll_cons_mk (Below.trod laidOut lr1 lt1 h0 g.below (fun x hx => hplc x (by simp [hx]))) (trodAll_cons_mk (Below.trod laidOut lr4 lt4 h1 g.below (fun x hx => by cases hx)) (trodAll_cons_mk (Below.trod laidOut lr6 lt6 h2 g.below (fun x hx => by cases hx)) trodAll_mk0))
theorem proved : Rows.TreesViewsSaid :=
  OpenClaim.holds_of_wide 3 Try.f3 rfl rfl rfl rfl rfl rfl rfl ⟨rfl, rfl, rfl, rfl, rfl⟩ rfl rfl rfl rfl rfl (by kernel_rfl) Try.func3 (by kernel_rfl)
    (of_decide_eq_true (by kernel_rfl)) (by unfold Func.isWrapper; first | (rw [if_pos (by decide +kernel)]; kernel_rfl) | (rw [if_neg (by decide +kernel)]; exact ⟨rfl, rfl⟩))
    (fun os started H enc _ => lifted os started H enc)
#print axioms proved
end Go.Proofs.Ytnfekidcmfljoaa.treesViews
