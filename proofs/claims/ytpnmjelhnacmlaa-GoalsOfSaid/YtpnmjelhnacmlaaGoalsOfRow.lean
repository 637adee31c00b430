/- GoalsOf returns true for every list of goals, and leaves it as it was: no condition. -/
import Derived.Test.YtpnmjelhnacmlaaLawI23
import Derived.Test.YtpnmjelhnacmlaaKitW
import Derived.Test.YtpnmjelhnacmlaaRows
namespace Go.Proofs.Ytpnmjelhnacmlaa.goalsOf
open Go.ChangeShapes Go.WideShapes Go.ChangeAt Go.ChangeMaps Go.RowKit Go.V
theorem own : ownKnob Try.prog.godebug = none := by kernel_rfl
theorem laidOut : laidOutB Try.prog = true := by kernel_rfl
theorem lf0 : leafI Try.prog 20 44 = some [.s, .s, .s] := by kernel_rfl
theorem lc0 : Try.prog.cellsOf 44 = ([.s, .s, .s] : List LeafK).length := by kernel_rfl
theorem lr1 : Try.prog.readableRec 25 = true := by kernel_rfl
theorem lt1 : 25 < Try.prog.types.size := of_decide_eq_true (by kernel_rfl)
theorem lu2 : Try.prog.underlying 25 = some (.slice 44) := by kernel_rfl
set_option maxRecDepth 100000 in
theorem lifted (os : Os) (started : os.Started) (H : Type) (enc : TypeId × Value → H) :
    ReturnsInHanded {} Try.checked os 4 .any (Rows.goalsOfSpec.pre6 enc Try.prog Try.f4 Rows.goalsOfRow.domain false) (Rows.goalsOfSpec.post enc Try.prog Try.f4 false true false false) := by
  refine returnsInHanded_of_change_shaped (C := Try.checked) own started (by kernel_rfl) Try.func4
    (ChangeSpec.witness6 (enc := enc) (C := Try.checked) false ⟨#[], #[.slice none 0 0], []⟩ 8 (by kernel_rfl) (by kernel_rfl) (by kernel_rfl) (by kernel_rfl)) ?_
  intro W base args ds gs before hval0 hW hcnd _ hsh _
  have hval : ∀ (j : Nat) t v, Try.f4.params[j]? = some t → args[j]? = some v → Value.okWide Try.prog W .any base t v := hval0
  have hW' := hW
  obtain ⟨p0, q, hA0, hV, rfl, hfz, hnd⟩ := hW
  have hA : DataW.TrodAll enc Try.prog W 0 (fun _ => true) true Try.f4.params.toList args.toList ds p0 := hA0
  rw [Try.params4] at hA hval
  obtain ⟨v0, d0, rfl, rfl, h0⟩ := trodAll_one hA
  obtain ⟨rfl, rfl⟩ := trodVars_none hV
  clear hA0 hval0
  obtain ⟨cs, lcs, zcs, hcs⟩ := open_sl lu2 lf0 lc0 (hval 0 25 v0 rfl rfl) h0
  have hplc := hW'.lt
  simp only [List.append_nil] at hW'
  have hlaw := Go.V.L23.goalsOf_in lcs zcs hcs
  unfold Ret at hlaw
  refine hlaw.mono fun e W' hp => ?_
  obtain ⟨v, rfl, H', g, rfl⟩ := hp
  refine ⟨_, rfl, _, _, _, [], p0 ++ ([]), [], hW', trodAll_cons_mk (shut_bool Try.underlying4 _) trodAll_mk0, ?_, rfl, g.below.frame _, fun h => by cases h⟩
  exact trodAll_cons_mk (Below.trod laidOut lr1 lt1 h0 g.below (fun x hx => hplc x (by simp [hx]))) trodAll_mk0
theorem proved : Rows.GoalsOfSaid :=
  OpenClaim.holds_of_wide 4 Try.f4 rfl rfl rfl rfl rfl rfl rfl ⟨rfl, rfl, rfl, rfl, rfl⟩ rfl rfl rfl rfl rfl (by kernel_rfl) Try.func4 (by kernel_rfl)
    (of_decide_eq_true (by kernel_rfl)) (by unfold Func.isWrapper; first | (rw [if_pos (by decide +kernel)]; kernel_rfl) | (rw [if_neg (by decide +kernel)]; exact ⟨rfl, rfl⟩))
    (fun os started H enc _ => lifted os started H enc)
#print axioms proved
end Go.Proofs.Ytpnmjelhnacmlaa.goalsOf
