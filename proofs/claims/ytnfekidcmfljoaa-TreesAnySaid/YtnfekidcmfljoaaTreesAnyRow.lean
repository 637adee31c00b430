/- TreesAny returns true for every input, and leaves it as it was: no condition. -/
import Derived.Test.YtnfekidcmfljoaaLawJ05
import Derived.Test.YtnfekidcmfljoaaKitW
import Derived.Test.YtnfekidcmfljoaaRows
namespace Go.Proofs.Ytnfekidcmfljoaa.treesAny
open Go.ChangeShapes Go.WideShapes Go.ChangeAt Go.ChangeMaps Go.RowKit Go.V
theorem own : ownKnob Try.prog.godebug = none := by kernel_rfl
theorem laidOut : laidOutB Try.prog = true := by kernel_rfl
theorem lf0 : leafI Try.prog 20 23 = some [.i .i16] := by kernel_rfl
theorem lc0 : Try.prog.cellsOf 23 = ([.i .i16] : List LeafK).length := by kernel_rfl
theorem lr1 : Try.prog.readableRec 58 = true := by kernel_rfl
theorem lt1 : 58 < Try.prog.types.size := of_decide_eq_true (by kernel_rfl)
theorem lu2 : Try.prog.underlying 58 = some (.slice 23) := by kernel_rfl
theorem lf3 : leafI Try.prog 20 5 = some [.i .u8] := by kernel_rfl
theorem lo3 : Try.prog.underlying 5 = some (.int .u8) := by kernel_rfl
theorem lr4 : Try.prog.readableRec 5 = true := by kernel_rfl
theorem lt4 : 5 < Try.prog.types.size := of_decide_eq_true (by kernel_rfl)
set_option maxRecDepth 100000 in
theorem lifted (os : Os) (started : os.Started) (H : Type) (enc : TypeId × Value → H) :
    ReturnsInHanded {} Try.checked os 6 .any (Rows.treesAnySpec.pre6 enc Try.prog Try.f6 Rows.treesAnyRow.domain false) (Rows.treesAnySpec.post enc Try.prog Try.f6 false true false false) := by
  refine returnsInHanded_of_change_shaped (C := Try.checked) own started (by kernel_rfl) Try.func6
    (ChangeSpec.witness6 (enc := enc) (C := Try.checked) false ⟨#[], #[.slice none 0 0, .int .u8 0], []⟩ 8 (by kernel_rfl) (by kernel_rfl) (by kernel_rfl) (by kernel_rfl)) ?_
  intro W base args ds gs before hval0 hW hcnd _ hsh _
  have hval : ∀ (j : Nat) t v, Try.f6.params[j]? = some t → args[j]? = some v → Value.okWide Try.prog W .any base t v := hval0
  have hW' := hW
  obtain ⟨p, q, hA0, hV, rfl, hfz, hnd⟩ := hW
  have hA : DataW.TrodAll enc Try.prog W 0 (fun _ => true) true Try.f6.params.toList args.toList ds p := hA0
  rw [Try.params6] at hA hval
  obtain ⟨v0, v1, d0, d1, p0, p1, rfl, rfl, rfl, h0, h1⟩ := trodAll_two hA
  obtain ⟨rfl, rfl⟩ := trodVars_none hV
  clear hA0 hval0
  obtain ⟨cs, lcs, zcs, hcs⟩ := open_sl lu2 lf0 lc0 (hval 0 58 v0 rfl rfl) h0
  obtain ⟨b, rfl, zb, rfl⟩ := open_one lf3 lo3 (hval 1 5 v1 rfl rfl) h1
  have hplc := hW'.lt
  simp only [List.append_nil] at hW'
  have hlaw := Go.V.L5.treesAny_in lcs zcs hcs zb
  unfold Ret at hlaw
  refine hlaw.mono fun e W' hp => ?_
  obtain ⟨v, rfl, H', g, rfl⟩ := hp
  refine ⟨_, rfl, _, _, _, [], p0 ++ ([] ++ ([])), [], hW', trodAll_cons_mk (shut_bool Try.underlying4 _) trodAll_mk0, ?_, rfl, g.below.frame _, fun h => by cases h⟩
  exact trodAll_cons_mk (Below.trod laidOut lr1 lt1 h0 g.below (fun x hx => hplc x (by simp [hx]))) (trodAll_cons_mk (Below.trod laidOut lr4 lt4 h1 g.below (fun x hx => by cases hx)) trodAll_mk0)
theorem proved : Rows.TreesAnySaid :=
  OpenClaim.holds_of_wide 6 Try.f6 rfl rfl rfl rfl rfl rfl rfl ⟨rfl, rfl, rfl, rfl, rfl⟩ rfl rfl rfl rfl rfl (by kernel_rfl) Try.func6 (by kernel_rfl)
    (of_decide_eq_true (by kernel_rfl)) (by unfold Func.isWrapper; first | (rw [if_pos (by decide +kernel)]; kernel_rfl) | (rw [if_neg (by decide +kernel)]; exact ⟨rfl, rfl⟩))
    (fun os started H enc _ => lifted os started H enc)
#print axioms proved
end Go.Proofs.Ytnfekidcmfljoaa.treesAny
