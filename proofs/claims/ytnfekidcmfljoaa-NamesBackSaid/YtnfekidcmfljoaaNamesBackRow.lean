/- NamesBack returns true for every two triples of strings, and leaves them as they were: no condition. -/
import Derived.Test.YtnfekidcmfljoaaNamesL
import Derived.Test.YtnfekidcmfljoaaKitW
import Derived.Test.YtnfekidcmfljoaaRows
namespace Go.Proofs.Ytnfekidcmfljoaa.namesBack
open Go.ChangeShapes Go.WideShapes Go.ChangeAt Go.ChangeMaps Go.RowKit Go.V
theorem own : ownKnob Try.prog.godebug = none := by kernel_rfl
theorem laidOut : laidOutB Try.prog = true := by kernel_rfl
theorem lf0 : leafI Try.prog 20 73 = some [.s, .s, .s] := by kernel_rfl
theorem la0 : (match Try.prog.underlying 73 with | some (.struct _) | some (.array _ _) => true | _ => false) = true := by kernel_rfl
theorem lr0 : Try.prog.readableRec 73 = true := by kernel_rfl
theorem lt0 : 73 < Try.prog.types.size := of_decide_eq_true (by kernel_rfl)
set_option maxRecDepth 100000 in
theorem lifted (os : Os) (started : os.Started) (H : Type) (enc : TypeId × Value → H) :
    ReturnsInHanded {} Try.checked os 10 .any (Rows.namesBackSpec.pre6 enc Try.prog Try.f10 Rows.namesBackRow.domain false) (Rows.namesBackSpec.post enc Try.prog Try.f10 false true false false) := by
  refine returnsInHanded_of_change_shaped (C := Try.checked) own started (by kernel_rfl) Try.func10
    (ChangeSpec.witness6 (enc := enc) (C := Try.checked) false ⟨#[], #[.agg #[.string ⟨#[]⟩, .string ⟨#[]⟩, .string ⟨#[]⟩], .agg #[.string ⟨#[]⟩, .string ⟨#[]⟩, .string ⟨#[]⟩]], []⟩ 8 (by kernel_rfl) (by kernel_rfl) (by kernel_rfl) (by kernel_rfl)) ?_
  intro W base args ds gs before hval0 hW hcnd _ hsh _
  have hval : ∀ (j : Nat) t v, Try.f10.params[j]? = some t → args[j]? = some v → Value.okWide Try.prog W .any base t v := hval0
  have hW' := hW
  obtain ⟨p, q, hA0, hV, rfl, hfz, hnd⟩ := hW
  have hA : DataW.TrodAll enc Try.prog W 0 (fun _ => true) true Try.f10.params.toList args.toList ds p := hA0
  rw [Try.params10] at hA hval
  obtain ⟨v0, v1, d0, d1, p0, p1, rfl, rfl, rfl, h0, h1⟩ := trodAll_two hA
  obtain ⟨rfl, rfl⟩ := trodVars_none hV
  clear hA0 hval0
  obtain ⟨c0, rfl, l0, rfl⟩ := open_agg lf0 la0 (hval 0 73 v0 rfl rfl) h0
  obtain ⟨a0, r0, rfl, za0, l0⟩ := leaf_s l0
  obtain ⟨a1, r0, rfl, za1, l0⟩ := leaf_s l0
  obtain ⟨a2, r0, rfl, za2, l0⟩ := leaf_s l0
  obtain rfl := leaf_nil l0
  obtain ⟨c1, rfl, l1, rfl⟩ := open_agg lf0 la0 (hval 1 73 v1 rfl rfl) h1
  obtain ⟨b0, r1, rfl, zb0, l1⟩ := leaf_s l1
  obtain ⟨b1, r1, rfl, zb1, l1⟩ := leaf_s l1
  obtain ⟨b2, r1, rfl, zb2, l1⟩ := leaf_s l1
  obtain rfl := leaf_nil l1
  simp only [List.append_nil] at hW'
  obtain ⟨m, hm⟩ := Try.laysM145.s1_3 W hsh
  have hlaw := namesBack_law a0 a1 a2 b0 b1 b2 (w := W) (Heap.Le.refl _) (GlobM.of_cell hm)
  unfold Ret at hlaw
  refine hlaw.mono fun e W' hp => ?_
  obtain ⟨v, rfl, H', g, rfl⟩ := hp
  refine ⟨_, rfl, _, _, _, [], [] ++ ([] ++ ([])), [], hW', trodAll_cons_mk (shut_bool Try.underlying4 _) trodAll_mk0, ?_, rfl, g.below.frame _, fun h => by cases h⟩
  exact trodAll_cons_mk (Below.trod laidOut lr0 lt0 h0 g.below (fun x hx => by cases hx)) (trodAll_cons_mk (Below.trod laidOut lr0 lt0 h1 g.below (fun x hx => by cases hx)) trodAll_mk0)
theorem proved : Rows.NamesBackSaid :=
  OpenClaim.holds_of_wide 10 Try.f10 rfl rfl rfl rfl rfl rfl rfl ⟨rfl, rfl, rfl, rfl, rfl⟩ rfl rfl rfl rfl rfl (by kernel_rfl) Try.func10 (by kernel_rfl)
    (of_decide_eq_true (by kernel_rfl)) (by unfold Func.isWrapper; first | (rw [if_pos (by decide +kernel)]; kernel_rfl) | (rw [if_neg (by decide +kernel)]; exact ⟨rfl, rfl⟩))
    (fun os started H enc _ => lifted os started H enc)
#print axioms proved
end Go.Proofs.Ytnfekidcmfljoaa.namesBack
