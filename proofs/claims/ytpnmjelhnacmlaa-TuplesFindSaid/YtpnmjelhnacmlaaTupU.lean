/- The walks of tuples (chapter 2): unions, common parts, differences. -/
import Derived.Test.YtpnmjelhnacmlaaTupX
import Derived.Test.YtpnmjelhnacmlaaTupZ
namespace Go.V.L2
open Go.Proofs Go.RowKit Go.V
abbrev fU : Bool → Bool → Bool := fun _ _ => true
abbrev fC : Bool → Bool → Bool := fun a b => a && b
abbrev fW : Bool → Bool → Bool := fun _ b => !b
attribute [local irreducible] V N X VO Par StepOK Has Ret RetL RetO RetT Src
theorem fU_ret (p q : Bool) (w : World) (B : Heap) (hB : B.Le (hp w)) : Ret Try.prog 77 [.bool p, .bool q] w B (fun v _ => v = .bool (fU p q)) := by
  refine V_enter Try.func77 rfl Try.ntmps77 (Nat.le_of_ble_eq_true rfl) hB ?_
  refine V_seq ?_; refine V_region (id := 0) ?_; refine vo_step (ok_assign rfl rfl rfl) rfl ?_; refine vo_nil ?_; refine N_seq ?_; refine V_seq ?_; refine V_region (id := 1) ?_; refine vo_step (ok_assign rfl rfl rfl) rfl ?_; refine vo_nil ?_; refine N_seq ?_
  refine V_ret L (rs := [.tmp 4]) rfl (fun _ _ h => h) Since.refl fun u H hH hle => ?_
  rfl
theorem fC_ret (p q : Bool) (w : World) (B : Heap) (hB : B.Le (hp w)) : Ret Try.prog 78 [.bool p, .bool q] w B (fun v _ => v = .bool (fC p q)) := by
  refine V_enter Try.func78 rfl Try.ntmps78 (Nat.le_of_ble_eq_true rfl) hB ?_
  cases p
  · refine V_seq ?_; refine V_region (id := 0) ?_; refine vo_step (ok_assign rfl rfl rfl) rfl ?_; refine vo_nil ?_; refine N_seq ?_; refine V_seq ?_; refine V_region (id := 1) ?_; refine vo_step (ok_move rfl rfl rfl) rfl ?_; refine vo_step (ok_move rfl rfl rfl) rfl ?_; refine vo_step (ok_skip rfl (blt_lt rfl) rfl) rfl ?_; refine vo_step (ok_pick rfl rfl rfl rfl) rfl ?_; refine vo_step (ok_assign rfl rfl rfl) rfl ?_; refine vo_nil ?_; refine N_seq ?_
    refine V_ret L (rs := [.tmp 4]) rfl (fun _ _ h => h) Since.refl fun u H hH hle => ?_
    rfl
  · refine V_seq ?_; refine V_region (id := 0) ?_; refine vo_step (ok_assign rfl rfl rfl) rfl ?_; refine vo_nil ?_; refine N_seq ?_; refine V_seq ?_; refine V_region (id := 1) ?_; refine vo_step (ok_move rfl rfl rfl) rfl ?_; refine vo_step (ok_move rfl rfl rfl) rfl ?_; refine vo_step (ok_move rfl rfl rfl) rfl ?_; refine vo_step (ok_pick rfl rfl rfl rfl) rfl ?_; refine vo_step (ok_assign rfl rfl rfl) rfl ?_; refine vo_nil ?_; refine N_seq ?_
    refine V_ret L (rs := [.tmp 4]) rfl (fun _ _ h => h) Since.refl fun u H hH hle => ?_
    rfl
theorem fW_ret (p q : Bool) (w : World) (B : Heap) (hB : B.Le (hp w)) : Ret Try.prog 79 [.bool p, .bool q] w B (fun v _ => v = .bool (fW p q)) := by
  refine V_enter Try.func79 rfl Try.ntmps79 (Nat.le_of_ble_eq_true rfl) hB ?_
  refine V_seq ?_; refine V_region (id := 0) ?_; refine vo_step (ok_assign rfl rfl rfl) rfl ?_; refine vo_nil ?_; refine N_seq ?_; refine V_seq ?_; refine V_region (id := 1) ?_; refine vo_step (ok_move rfl rfl rfl) rfl ?_; refine vo_step (ok_not rfl rfl rfl rfl) rfl ?_; refine vo_step (ok_assign rfl rfl rfl) rfl ?_; refine vo_nil ?_; refine N_seq ?_
  refine V_ret L (rs := [.tmp 4]) rfl (fun _ _ h => h) Since.refl fun u H hH hle => ?_
  rfl
section
variable {l m : List U} {fa fb : Bool} {r : List U × Int} {v v2 : Value} {w : World} {B : Heap}
theorem union_ret (hr : mrgR fU l m = r) (hB : B.Le (hp w)) (hv : US l fa v B) (hv2 : US m fb v2 B) : Ret Try.prog 45 [v, v2] w B (LE r) := by
  refine V_enter Try.func45 rfl Try.ntmps45 (Nat.le_of_ble_eq_true rfl) hB ?_
  refine V_seen 0 (US l fa) rfl SlV.mono hv ?_
  refine V_seen 1 (US m fb) rfl SlV.mono hv2 ?_
  refine V_seq ?_; refine V_region (id := 0) ?_; refine vo_step (ok_assign rfl rfl rfl) rfl ?_; refine vo_step (ok_assign rfl rfl rfl) rfl ?_; refine vo_nil ?_; refine N_seq ?_; refine V_seq ?_; refine V_region (id := 1) ?_; refine vo_step (ok_moves' rfl rfl rfl) rfl ?_; refine vo_step (ok_moves' rfl rfl rfl) rfl ?_; refine vo_step (ok_call (φ := LE r) L rfl rfl (blt_lt rfl) rfl rfl rfl LE.mono (fun u H hH _ _ v1 h1 v2 h2 => merge_ret rfl fU_ret hr hH h1 h2)) rfl ?_; refine vo_step (ok_extracts rfl rfl rfl rfl SlV.mono) rfl ?_; refine vo_step (ok_extractx rfl rfl rfl rfl) rfl ?_; refine vo_step (ok_assigns' rfl rfl rfl) rfl ?_; refine vo_step (ok_assign rfl rfl rfl) rfl ?_; refine vo_nil ?_; refine N_seq ?_
  refine V_ret L (rs := [.tmp 4, .tmp 5]) rfl (fun _ _ h => h) Since.refl fun u H hH hle => ?_
  exact fun v hv => tups2 hv
theorem common_ret (hr : mrgR fC l m = r) (hB : B.Le (hp w)) (hv : US l fa v B) (hv2 : US m fb v2 B) : Ret Try.prog 46 [v, v2] w B (LE r) := by
  refine V_enter Try.func46 rfl Try.ntmps46 (Nat.le_of_ble_eq_true rfl) hB ?_
  refine V_seen 0 (US l fa) rfl SlV.mono hv ?_
  refine V_seen 1 (US m fb) rfl SlV.mono hv2 ?_
  refine V_seq ?_; refine V_region (id := 0) ?_; refine vo_step (ok_assign rfl rfl rfl) rfl ?_; refine vo_step (ok_assign rfl rfl rfl) rfl ?_; refine vo_nil ?_; refine N_seq ?_; refine V_seq ?_; refine V_region (id := 1) ?_; refine vo_step (ok_moves' rfl rfl rfl) rfl ?_; refine vo_step (ok_moves' rfl rfl rfl) rfl ?_; refine vo_step (ok_call (φ := LE r) L rfl rfl (blt_lt rfl) rfl rfl rfl LE.mono (fun u H hH _ _ v1 h1 v2 h2 => merge_ret rfl fC_ret hr hH h1 h2)) rfl ?_; refine vo_step (ok_extracts rfl rfl rfl rfl SlV.mono) rfl ?_; refine vo_step (ok_extractx rfl rfl rfl rfl) rfl ?_; refine vo_step (ok_assigns' rfl rfl rfl) rfl ?_; refine vo_step (ok_assign rfl rfl rfl) rfl ?_; refine vo_nil ?_; refine N_seq ?_
  refine V_ret L (rs := [.tmp 4, .tmp 5]) rfl (fun _ _ h => h) Since.refl fun u H hH hle => ?_
  exact fun v hv => tups2 hv
theorem without_ret (hr : mrgR fW l m = r) (hB : B.Le (hp w)) (hv : US l fa v B) (hv2 : US m fb v2 B) : Ret Try.prog 47 [v, v2] w B (LE r) := by
  refine V_enter Try.func47 rfl Try.ntmps47 (Nat.le_of_ble_eq_true rfl) hB ?_
  refine V_seen 0 (US l fa) rfl SlV.mono hv ?_
  refine V_seen 1 (US m fb) rfl SlV.mono hv2 ?_
  refine V_seq ?_; refine V_region (id := 0) ?_; refine vo_step (ok_assign rfl rfl rfl) rfl ?_; refine vo_step (ok_assign rfl rfl rfl) rfl ?_; refine vo_nil ?_; refine N_seq ?_; refine V_seq ?_; refine V_region (id := 1) ?_; refine vo_step (ok_moves' rfl rfl rfl) rfl ?_; refine vo_step (ok_moves' rfl rfl rfl) rfl ?_; refine vo_step (ok_call (φ := LE r) L rfl rfl (blt_lt rfl) rfl rfl rfl LE.mono (fun u H hH _ _ v1 h1 v2 h2 => merge_ret rfl fW_ret hr hH h1 h2)) rfl ?_; refine vo_step (ok_extracts rfl rfl rfl rfl SlV.mono) rfl ?_; refine vo_step (ok_extractx rfl rfl rfl rfl) rfl ?_; refine vo_step (ok_assigns' rfl rfl rfl) rfl ?_; refine vo_step (ok_assign rfl rfl rfl) rfl ?_; refine vo_nil ?_; refine N_seq ?_
  refine V_ret L (rs := [.tmp 4, .tmp 5]) rfl (fun _ _ h => h) Since.refl fun u H hH hle => ?_
  exact fun v hv => tups2 hv
end
end Go.V.L2
