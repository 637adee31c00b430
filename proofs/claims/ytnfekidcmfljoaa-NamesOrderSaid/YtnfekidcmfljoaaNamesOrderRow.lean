/- NamesOrder returns true for every three triples of strings, and leaves them as they were: no condition. -/
import Derived.Test.YtnfekidcmfljoaaNamesJ
import Derived.Test.YtnfekidcmfljoaaKitW
import Derived.Test.YtnfekidcmfljoaaRows
import Derived.ProofKit
import Derived.HandedShaped
import Derived.OpenShut
import Derived.Carry
namespace Go.Proofs.Ytnfekidcmfljoaa.namesOrder
open Go.ChangeShapes Go.WideShapes Go.ChangeAt Go.ChangeMaps Go.RowKit Go.V
theorem own : ownKnob Try.prog.godebug = none := by kernel_rfl
theorem laidOut : laidOutB Try.prog = true := by kernel_rfl
theorem arr3 : leafI Try.prog 20 73 = some [.s, .s, .s] := by kernel_rfl
theorem arr3a : (match Try.prog.underlying 73 with | some (.struct _) | some (.array _ _) => true | _ => false) = true := by kernel_rfl
theorem arr3r : Try.prog.readableRec 73 = true := by kernel_rfl
theorem arr3t : 73 < Try.prog.types.size := of_decide_eq_true (by kernel_rfl)
set_option maxRecDepth 100000 in
theorem lifted (os : Os) (started : os.Started) (H : Type) (enc : TypeId × Value → H) :
    ReturnsInHanded {} Try.checked os 9 .any (Rows.namesOrderSpec.pre6 enc Try.prog Try.f9 Rows.namesOrderRow.domain false) (Rows.namesOrderSpec.post enc Try.prog Try.f9 false true false false) := by
  refine returnsInHanded_of_change_shaped (C := Try.checked) own started (by kernel_rfl) Try.func9
    (ChangeSpec.witness6 (enc := enc) (C := Try.checked) false ⟨#[], #[.agg #[.string ⟨#[]⟩, .string ⟨#[]⟩, .string ⟨#[]⟩], .agg #[.string ⟨#[]⟩, .string ⟨#[]⟩, .string ⟨#[]⟩], .agg #[.string ⟨#[]⟩, .string ⟨#[]⟩, .string ⟨#[]⟩]], []⟩ 8 (by kernel_rfl) (by kernel_rfl) (by kernel_rfl) (by kernel_rfl)) ?_
  intro W base args ds gs before hval0 hW hcnd _ hsh _
  have hval : ∀ (j : Nat) t v, Try.f9.params[j]? = some t → args[j]? = some v → Value.okWide Try.prog W .any base t v := hval0
  have hW' := hW
  obtain ⟨p, q, hA0, hV, rfl, hfz, hnd⟩ := hW
  have hA : DataW.TrodAll enc Try.prog W 0 (fun _ => true) true Try.f9.params.toList args.toList ds p := hA0
  rw [Try.params9] at hA hval
  obtain ⟨v0, v1, v2, d0, d1, d2, p0, p1, p2, rfl, rfl, rfl, h0, h1, h2⟩ := trodAll_three hA
  obtain ⟨rfl, rfl⟩ := trodVars_none hV
  clear hA0 hval0
  obtain ⟨c0, rfl, l0, rfl⟩ := open_agg arr3 arr3a (hval 0 73 v0 rfl rfl) h0
  obtain ⟨a0, r0, rfl, za0, l0⟩ := leaf_s l0
  obtain ⟨a1, r0, rfl, za1, l0⟩ := leaf_s l0
  obtain ⟨a2, r0, rfl, za2, l0⟩ := leaf_s l0
  obtain rfl := leaf_nil l0
  obtain ⟨c1, rfl, l1, rfl⟩ := open_agg arr3 arr3a (hval 1 73 v1 rfl rfl) h1
  obtain ⟨b0, r1, rfl, zb0, l1⟩ := leaf_s l1
  obtain ⟨b1, r1, rfl, zb1, l1⟩ := leaf_s l1
  obtain ⟨b2, r1, rfl, zb2, l1⟩ := leaf_s l1
  obtain rfl := leaf_nil l1
  obtain ⟨c2, rfl, l2, rfl⟩ := open_agg arr3 arr3a (hval 2 73 v2 rfl rfl) h2
  obtain ⟨c0, r2, rfl, zc0, l2⟩ := leaf_s l2
  obtain ⟨c1, r2, rfl, zc1, l2⟩ := leaf_s l2
  obtain ⟨c2, r2, rfl, zc2, l2⟩ := leaf_s l2
  obtain rfl := leaf_nil l2
  simp only [List.append_nil] at hW'
  obtain ⟨m, hm⟩ := Try.laysM145.s1_3 W hsh
  have hlaw := namesOrder_law a0 a1 a2 b0 b1 b2 c0 c1 c2 (w := W) (Heap.Le.refl _) (GlobM.of_cell hm)
  unfold Ret at hlaw
  refine hlaw.mono fun e W' hp => ?_
  obtain ⟨v, rfl, H', g, rfl⟩ := hp
  refine ⟨_, rfl, _, _, _, [], [] ++ ([] ++ ([] ++ [])), [], hW', trodAll_cons_mk (shut_bool Try.underlying4 _) trodAll_mk0, ?_, rfl, g.below.frame _, fun h => by cases h⟩
  have keep := fun (v : Value) (d : DataW H) (h : DataW.Trod enc Try.prog W 0 (fun _ => true) true 73 v d []) => Below.trod laidOut arr3r arr3t h g.below (fun x hx => by cases hx)
  exact trodAll_cons_mk (keep _ _ h0) (trodAll_cons_mk (keep _ _ h1) (trodAll_cons_mk (keep _ _ h2) trodAll_mk0))
theorem proved : Rows.NamesOrderSaid :=
  OpenClaim.holds_of_wide 9 Try.f9 rfl rfl rfl rfl rfl rfl rfl ⟨rfl, rfl, rfl, rfl, rfl⟩ rfl rfl rfl rfl rfl (by kernel_rfl) Try.func9 (by kernel_rfl)
    (of_decide_eq_true (by kernel_rfl)) (by unfold Func.isWrapper; first | (rw [if_pos (by decide +kernel)]; kernel_rfl) | (rw [if_neg (by decide +kernel)]; exact ⟨rfl, rfl⟩))
    (fun os started H enc _ => lifted os started H enc)
#print axioms proved
end Go.Proofs.Ytnfekidcmfljoaa.namesOrder
