/- Texts on the way to TuplesKnown, part 3: one behind another. -/
import Derived.Test.YtpnmjelhnacmlaaTuplesKnownM2
set_option linter.unusedVariables false
set_option linter.unusedSimpArgs false
/- The walks of names: objects, goals and subjects are read. -/
namespace Go.V
open Go.Proofs Go.RowKit
attribute [local irreducible] V N X VO Par StepOK Has Ret RetL Src
abbrev sNil : ByteArray := ⟨#[]⟩
def poA (s : ByteArray) : ByteArray × ByteArray × Int :=
  match partsA s with
  | none => (sNil, sNil, 5)
  | some (a, b, _, d) => if d = true then (sNil, sNil, 5) else if allE [a, b] = 0 then (a, b, 0) else (sNil, sNil, allE [a, b])
def pgA (s : ByteArray) : ByteArray × ByteArray × ByteArray × Int :=
  match partsA s with
  | none => (sNil, sNil, sNil, 5)
  | some (a, b, c, d) => if d = false then (sNil, sNil, sNil, 5) else if allE [a, b, c] = 0 then (a, b, c, 0) else (sNil, sNil, sNil, allE [a, b, c])
def psA (s : ByteArray) : ByteArray × ByteArray × ByteArray × Int :=
  match partsA s with
  | none => (sNil, sNil, sNil, 5)
  | some (a, b, c, d) => if allE [a, b] = 0 then (if d = true then (if chk c = 0 then (a, b, c, 0) else (sNil, sNil, sNil, chk c)) else (a, b, c, 0)) else (sNil, sNil, sNil, allE [a, b])
set_option maxHeartbeats 400000 in
theorem pg_ret {s : ByteArray} {r : ByteArray × ByteArray × ByteArray × Int} (hr : pgA s = r) (hs : s.size ≤ 1000000) {w : World} {B : Heap} (hB : B.Le (hp w)) (hM : GlobM B) :
    Ret Try.prog 85 [.string s] w B (fun v _ => v = .tuple #[.agg #[.string r.1, .string r.2.1, .string r.2.2.1], .int .i64 r.2.2.2]) := by
  refine V_enter Try.func85 rfl Try.ntmps85 (Nat.le_of_ble_eq_true rfl) hB ?_
  unfold pgA at hr
  cases hp : partsA s with
  | none =>
    rw [hp] at hr; simp only at hr; subst hr
    refine V_seq ?_; refine V_region (id := 0) ?_; refine vo_step (ok_alloc L rfl rfl rfl rfl) rfl ?_; refine vo_step (ok_assign rfl rfl rfl) rfl ?_; refine vo_nil ?_; refine N_seq ?_; refine V_seq ?_; refine V_region (id := 1) ?_; refine vo_step (ok_move rfl rfl rfl) rfl ?_; refine vo_step (ok_callx L rfl rfl (blt_lt rfl) rfl rfl rfl (fun u H hH hle _ => parts_none (by assumption) hH (GlobM.mono (by assumption) hle) (by assumption))) rfl ?_; refine vo_step (ok_move rfl rfl rfl) rfl ?_; refine vo_step (ok_extract rfl rfl rfl rfl) rfl ?_; refine vo_step (ok_extract rfl rfl rfl rfl) rfl ?_; refine vo_step (ok_extract rfl rfl rfl rfl) rfl ?_; refine vo_step (ok_extract rfl rfl rfl rfl) rfl ?_; refine vo_step (ok_alloc L rfl rfl rfl rfl) rfl ?_; refine vo_step (ok_store L rfl rfl rfl rfl rfl rfl rfl rfl) rfl ?_; refine vo_step (ok_assign rfl rfl rfl) rfl ?_; refine vo_step (ok_assign rfl rfl rfl) rfl ?_; refine vo_step (ok_assign rfl rfl rfl) rfl ?_; refine vo_nil ?_; refine N_seq ?_; refine V_seq ?_; refine V_seq ?_; refine V_region (id := 2) ?_; refine vo_step (ok_move rfl rfl rfl) rfl ?_; refine vo_step (ok_not rfl rfl rfl rfl) rfl ?_; refine vo_step (ok_move rfl rfl rfl) rfl ?_; refine vo_step (ok_skip rfl (blt_lt rfl) rfl) rfl ?_; refine vo_step (ok_skip rfl (blt_lt rfl) rfl) rfl ?_; refine vo_step (ok_pick rfl rfl rfl rfl) rfl ?_; refine vo_nil ?_; refine N_seq ?_; refine V_true rfl ?_; refine V_seq ?_; refine V_region (id := 3) ?_; refine vo_step (ok_build (cs := [_, _, _]) rfl rfl pl44 rfl rfl) rfl ?_; refine vo_step (ok_store L rfl rfl rfl rfl rfl rfl rfl rfl) rfl ?_; refine vo_step (ok_assign rfl rfl rfl) rfl ?_; refine vo_nil ?_; refine N_seq ?_
    refine V_ret L (rs := [.cell 2 44, .tmp 3]) rfl (fun _ _ h => h) Since.refl fun u H hH hle => ?_
    exact ⟨_, src_own rfl, rfl, rfl⟩
  | some p =>
    obtain ⟨a, b, c, d⟩ := p
    rw [hp] at hr; simp only at hr
    have hz := partsA_size hp
    have ha : a.size ≤ 1099511627776 := by omega
    have hb : b.size ≤ 1099511627776 := by omega
    have hc : c.size ≤ 1099511627776 := by omega
    cases d with
    | false =>
      rw [if_pos rfl] at hr; subst hr
      refine V_seq ?_; refine V_region (id := 0) ?_; refine vo_step (ok_alloc L rfl rfl rfl rfl) rfl ?_; refine vo_step (ok_assign rfl rfl rfl) rfl ?_; refine vo_nil ?_; refine N_seq ?_; refine V_seq ?_; refine V_region (id := 1) ?_; refine vo_step (ok_move rfl rfl rfl) rfl ?_; refine vo_step (ok_callx L rfl rfl (blt_lt rfl) rfl rfl rfl (fun u H hH hle _ => parts_some (by assumption) hH (GlobM.mono (by assumption) hle) (by assumption))) rfl ?_; refine vo_step (ok_move rfl rfl rfl) rfl ?_; refine vo_step (ok_extract rfl rfl rfl rfl) rfl ?_; refine vo_step (ok_extract rfl rfl rfl rfl) rfl ?_; refine vo_step (ok_extract rfl rfl rfl rfl) rfl ?_; refine vo_step (ok_extract rfl rfl rfl rfl) rfl ?_; refine vo_step (ok_alloc L rfl rfl rfl rfl) rfl ?_; refine vo_step (ok_store L rfl rfl rfl rfl rfl rfl rfl rfl) rfl ?_; refine vo_step (ok_assign rfl rfl rfl) rfl ?_; refine vo_step (ok_assign rfl rfl rfl) rfl ?_; refine vo_step (ok_assign rfl rfl rfl) rfl ?_; refine vo_nil ?_; refine N_seq ?_; refine V_seq ?_; refine V_seq ?_; refine V_region (id := 2) ?_; refine vo_step (ok_move rfl rfl rfl) rfl ?_; refine vo_step (ok_not rfl rfl rfl rfl) rfl ?_; refine vo_step (ok_move rfl rfl rfl) rfl ?_; refine vo_step (ok_move rfl rfl rfl) rfl ?_; refine vo_step (ok_not rfl rfl rfl rfl) rfl ?_; refine vo_step (ok_pick rfl rfl rfl rfl) rfl ?_; refine vo_nil ?_; refine N_seq ?_; refine V_true rfl ?_; refine V_seq ?_; refine V_region (id := 3) ?_; refine vo_step (ok_build (cs := [_, _, _]) rfl rfl pl44 rfl rfl) rfl ?_; refine vo_step (ok_store L rfl rfl rfl rfl rfl rfl rfl rfl) rfl ?_; refine vo_step (ok_assign rfl rfl rfl) rfl ?_; refine vo_nil ?_; refine N_seq ?_
      refine V_ret L (rs := [.cell 2 44, .tmp 3]) rfl (fun _ _ h => h) Since.refl fun u H hH hle => ?_
      exact ⟨_, src_own rfl, rfl, rfl⟩
    | true =>
      rw [if_neg (by decide)] at hr
      by_cases h0 : allE [a, b, c] = 0
      · rw [if_pos h0] at hr; subst hr
        refine V_seq ?_; refine V_region (id := 0) ?_; refine vo_step (ok_alloc L rfl rfl rfl rfl) rfl ?_; refine vo_step (ok_assign rfl rfl rfl) rfl ?_; refine vo_nil ?_; refine N_seq ?_; refine V_seq ?_; refine V_region (id := 1) ?_; refine vo_step (ok_move rfl rfl rfl) rfl ?_; refine vo_step (ok_callx L rfl rfl (blt_lt rfl) rfl rfl rfl (fun u H hH hle _ => parts_some (by assumption) hH (GlobM.mono (by assumption) hle) (by assumption))) rfl ?_; refine vo_step (ok_move rfl rfl rfl) rfl ?_; refine vo_step (ok_extract rfl rfl rfl rfl) rfl ?_; refine vo_step (ok_extract rfl rfl rfl rfl) rfl ?_; refine vo_step (ok_extract rfl rfl rfl rfl) rfl ?_; refine vo_step (ok_extract rfl rfl rfl rfl) rfl ?_; refine vo_step (ok_alloc L rfl rfl rfl rfl) rfl ?_; refine vo_step (ok_store L rfl rfl rfl rfl rfl rfl rfl rfl) rfl ?_; refine vo_step (ok_assign rfl rfl rfl) rfl ?_; refine vo_step (ok_assign rfl rfl rfl) rfl ?_; refine vo_step (ok_assign rfl rfl rfl) rfl ?_; refine vo_nil ?_; refine N_seq ?_; refine V_seq ?_; refine V_seq ?_; refine V_region (id := 2) ?_; refine vo_step (ok_move rfl rfl rfl) rfl ?_; refine vo_step (ok_not rfl rfl rfl rfl) rfl ?_; refine vo_step (ok_move rfl rfl rfl) rfl ?_; refine vo_step (ok_move rfl rfl rfl) rfl ?_; refine vo_step (ok_not rfl rfl rfl rfl) rfl ?_; refine vo_step (ok_pick rfl rfl rfl rfl) rfl ?_; refine vo_nil ?_; refine N_seq ?_; refine V_false rfl ?_; refine V_skip ?_; refine N_seq ?_; refine V_seq ?_; refine V_region (id := 4) ?_; refine vo_step (ok_loadA L (vs := [_, _]) (src_own rfl) rfl rfl rfl rfl ⟨_, rfl⟩) rfl ?_; refine vo_step (ok_move rfl rfl rfl) rfl ?_; refine vo_step (ok_build (cs := [_, _, _]) rfl rfl pl44 rfl rfl) rfl ?_; refine vo_step (ok_alloc L rfl rfl rfl rfl) rfl ?_; refine vo_step (ok_store L rfl rfl rfl rfl rfl rfl rfl rfl) rfl ?_; refine vo_nil ?_; refine N_seq ?_; refine V_seq ?_; refine V_seq ?_; refine V_region (id := 5) ?_; refine vo_step (ok_loadA L (vs := [_, _, _]) (src_own rfl) rfl rfl rfl rfl ⟨_, rfl⟩) rfl ?_; refine vo_step (ok_callx L rfl rfl (blt_lt rfl) rfl rfl rfl (fun u H hH _ _ => goal_ret (by first | assumption | decide) (by first | assumption | decide) (by first | assumption | decide) hH)) rfl ?_; refine vo_step (ok_assign rfl rfl rfl) rfl ?_; refine vo_nil ?_; refine N_seq ?_; refine V_seq ?_; refine V_region (id := 6) ?_; refine vo_step (ok_move rfl rfl rfl) rfl ?_; refine vo_step (ok_neq rfl rfl rfl rfl (decide_eq_false (by omega))) rfl ?_; refine vo_nil ?_; refine N_seq ?_; refine V_false rfl ?_; refine V_skip ?_; refine N_seq ?_; refine V_seq ?_; refine V_region (id := 8) ?_; refine vo_step (ok_loadA L (vs := [_, _, _]) (src_own rfl) rfl rfl rfl rfl ⟨_, rfl⟩) rfl ?_; refine vo_step (ok_store L rfl rfl rfl rfl rfl rfl rfl rfl) rfl ?_; refine vo_step (ok_assign rfl rfl rfl) rfl ?_; refine vo_nil ?_; refine N_seq ?_
        refine V_ret L (rs := [.cell 2 44, .tmp 3]) rfl (fun _ _ h => h) Since.refl fun u H hH hle => ?_
        exact ⟨_, src_own rfl, rfl, rfl⟩
      · rw [if_neg h0] at hr; subst hr
        refine V_seq ?_; refine V_region (id := 0) ?_; refine vo_step (ok_alloc L rfl rfl rfl rfl) rfl ?_; refine vo_step (ok_assign rfl rfl rfl) rfl ?_; refine vo_nil ?_; refine N_seq ?_; refine V_seq ?_; refine V_region (id := 1) ?_; refine vo_step (ok_move rfl rfl rfl) rfl ?_; refine vo_step (ok_callx L rfl rfl (blt_lt rfl) rfl rfl rfl (fun u H hH hle _ => parts_some (by assumption) hH (GlobM.mono (by assumption) hle) (by assumption))) rfl ?_; refine vo_step (ok_move rfl rfl rfl) rfl ?_; refine vo_step (ok_extract rfl rfl rfl rfl) rfl ?_; refine vo_step (ok_extract rfl rfl rfl rfl) rfl ?_; refine vo_step (ok_extract rfl rfl rfl rfl) rfl ?_; refine vo_step (ok_extract rfl rfl rfl rfl) rfl ?_; refine vo_step (ok_alloc L rfl rfl rfl rfl) rfl ?_; refine vo_step (ok_store L rfl rfl rfl rfl rfl rfl rfl rfl) rfl ?_; refine vo_step (ok_assign rfl rfl rfl) rfl ?_; refine vo_step (ok_assign rfl rfl rfl) rfl ?_; refine vo_step (ok_assign rfl rfl rfl) rfl ?_; refine vo_nil ?_; refine N_seq ?_; refine V_seq ?_; refine V_seq ?_; refine V_region (id := 2) ?_; refine vo_step (ok_move rfl rfl rfl) rfl ?_; refine vo_step (ok_not rfl rfl rfl rfl) rfl ?_; refine vo_step (ok_move rfl rfl rfl) rfl ?_; refine vo_step (ok_move rfl rfl rfl) rfl ?_; refine vo_step (ok_not rfl rfl rfl rfl) rfl ?_; refine vo_step (ok_pick rfl rfl rfl rfl) rfl ?_; refine vo_nil ?_; refine N_seq ?_; refine V_false rfl ?_; refine V_skip ?_; refine N_seq ?_; refine V_seq ?_; refine V_region (id := 4) ?_; refine vo_step (ok_loadA L (vs := [_, _]) (src_own rfl) rfl rfl rfl rfl ⟨_, rfl⟩) rfl ?_; refine vo_step (ok_move rfl rfl rfl) rfl ?_; refine vo_step (ok_build (cs := [_, _, _]) rfl rfl pl44 rfl rfl) rfl ?_; refine vo_step (ok_alloc L rfl rfl rfl rfl) rfl ?_; refine vo_step (ok_store L rfl rfl rfl rfl rfl rfl rfl rfl) rfl ?_; refine vo_nil ?_; refine N_seq ?_; refine V_seq ?_; refine V_seq ?_; refine V_region (id := 5) ?_; refine vo_step (ok_loadA L (vs := [_, _, _]) (src_own rfl) rfl rfl rfl rfl ⟨_, rfl⟩) rfl ?_; refine vo_step (ok_callx L rfl rfl (blt_lt rfl) rfl rfl rfl (fun u H hH _ _ => goal_ret (by first | assumption | decide) (by first | assumption | decide) (by first | assumption | decide) hH)) rfl ?_; refine vo_step (ok_assign rfl rfl rfl) rfl ?_; refine vo_nil ?_; refine N_seq ?_; refine V_seq ?_; refine V_region (id := 6) ?_; refine vo_step (ok_move rfl rfl rfl) rfl ?_; refine vo_step (ok_neq rfl rfl rfl rfl (decide_eq_true (by omega))) rfl ?_; refine vo_nil ?_; refine N_seq ?_; refine V_true rfl ?_; refine V_seq ?_; refine V_region (id := 7) ?_; refine vo_step (ok_build (cs := [_, _, _]) rfl rfl pl44 rfl rfl) rfl ?_; refine vo_step (ok_move rfl rfl rfl) rfl ?_; refine vo_step (ok_store L rfl rfl rfl rfl rfl rfl rfl rfl) rfl ?_; refine vo_step (ok_assign rfl rfl rfl) rfl ?_; refine vo_nil ?_; refine N_seq ?_
        refine V_ret L (rs := [.cell 2 44, .tmp 3]) rfl (fun _ _ h => h) Since.refl fun u H hH hle => ?_
        exact ⟨_, src_own rfl, rfl, rfl⟩
set_option maxHeartbeats 400000 in
theorem ps_ret {s : ByteArray} {r : ByteArray × ByteArray × ByteArray × Int} (hr : psA s = r) (hs : s.size ≤ 1000000) {w : World} {B : Heap} (hB : B.Le (hp w)) (hM : GlobM B) :
    Ret Try.prog 86 [.string s] w B (fun v _ => v = .tuple #[.agg #[.string r.1, .string r.2.1, .string r.2.2.1], .int .i64 r.2.2.2]) := by
  refine V_enter Try.func86 rfl Try.ntmps86 (Nat.le_of_ble_eq_true rfl) hB ?_
  unfold psA at hr
  cases hp : partsA s with
  | none =>
    rw [hp] at hr; simp only at hr; subst hr
    refine V_seq ?_; refine V_region (id := 0) ?_; refine vo_step (ok_alloc L rfl rfl rfl rfl) rfl ?_; refine vo_step (ok_assign rfl rfl rfl) rfl ?_; refine vo_nil ?_; refine N_seq ?_; refine V_seq ?_; refine V_region (id := 1) ?_; refine vo_step (ok_move rfl rfl rfl) rfl ?_; refine vo_step (ok_callx L rfl rfl (blt_lt rfl) rfl rfl rfl (fun u H hH hle _ => parts_none (by assumption) hH (GlobM.mono (by assumption) hle) (by assumption))) rfl ?_; refine vo_step (ok_move rfl rfl rfl) rfl ?_; refine vo_step (ok_extract rfl rfl rfl rfl) rfl ?_; refine vo_step (ok_extract rfl rfl rfl rfl) rfl ?_; refine vo_step (ok_extract rfl rfl rfl rfl) rfl ?_; refine vo_step (ok_extract rfl rfl rfl rfl) rfl ?_; refine vo_step (ok_alloc L rfl rfl rfl rfl) rfl ?_; refine vo_step (ok_store L rfl rfl rfl rfl rfl rfl rfl rfl) rfl ?_; refine vo_step (ok_assign rfl rfl rfl) rfl ?_; refine vo_step (ok_assign rfl rfl rfl) rfl ?_; refine vo_step (ok_assign rfl rfl rfl) rfl ?_; refine vo_nil ?_; refine N_seq ?_; refine V_seq ?_; refine V_seq ?_; refine V_region (id := 2) ?_; refine vo_step (ok_move rfl rfl rfl) rfl ?_; refine vo_step (ok_not rfl rfl rfl rfl) rfl ?_; refine vo_nil ?_; refine N_seq ?_; refine V_true rfl ?_; refine V_seq ?_; refine V_region (id := 3) ?_; refine vo_step (ok_build (cs := [_, _, _]) rfl rfl pl79 rfl rfl) rfl ?_; refine vo_step (ok_store L rfl rfl rfl rfl rfl rfl rfl rfl) rfl ?_; refine vo_step (ok_assign rfl rfl rfl) rfl ?_; refine vo_nil ?_; refine N_seq ?_
    refine V_ret L (rs := [.cell 2 79, .tmp 3]) rfl (fun _ _ h => h) Since.refl fun u H hH hle => ?_
    exact ⟨_, src_own rfl, rfl, rfl⟩
  | some p =>
    obtain ⟨a, b, c, d⟩ := p
    rw [hp] at hr; simp only at hr
    have hz := partsA_size hp
    have ha : a.size ≤ 1099511627776 := by omega
    have hb : b.size ≤ 1099511627776 := by omega
    have hc : c.size ≤ 1099511627776 := by omega
    by_cases h0 : allE [a, b] = 0
    · rw [if_pos h0] at hr
      cases d with
      | false =>
        rw [if_neg (by decide)] at hr; subst hr
        refine V_seq ?_; refine V_region (id := 0) ?_; refine vo_step (ok_alloc L rfl rfl rfl rfl) rfl ?_; refine vo_step (ok_assign rfl rfl rfl) rfl ?_; refine vo_nil ?_; refine N_seq ?_; refine V_seq ?_; refine V_region (id := 1) ?_; refine vo_step (ok_move rfl rfl rfl) rfl ?_; refine vo_step (ok_callx L rfl rfl (blt_lt rfl) rfl rfl rfl (fun u H hH hle _ => parts_some (by assumption) hH (GlobM.mono (by assumption) hle) (by assumption))) rfl ?_; refine vo_step (ok_move rfl rfl rfl) rfl ?_; refine vo_step (ok_extract rfl rfl rfl rfl) rfl ?_; refine vo_step (ok_extract rfl rfl rfl rfl) rfl ?_; refine vo_step (ok_extract rfl rfl rfl rfl) rfl ?_; refine vo_step (ok_extract rfl rfl rfl rfl) rfl ?_; refine vo_step (ok_alloc L rfl rfl rfl rfl) rfl ?_; refine vo_step (ok_store L rfl rfl rfl rfl rfl rfl rfl rfl) rfl ?_; refine vo_step (ok_assign rfl rfl rfl) rfl ?_; refine vo_step (ok_assign rfl rfl rfl) rfl ?_; refine vo_step (ok_assign rfl rfl rfl) rfl ?_; refine vo_nil ?_; refine N_seq ?_; refine V_seq ?_; refine V_seq ?_; refine V_region (id := 2) ?_; refine vo_step (ok_move rfl rfl rfl) rfl ?_; refine vo_step (ok_not rfl rfl rfl rfl) rfl ?_; refine vo_nil ?_; refine N_seq ?_; refine V_false rfl ?_; refine V_skip ?_; refine N_seq ?_; refine V_seq ?_; refine V_region (id := 4) ?_; refine vo_step (ok_loadA L (vs := [_, _]) (src_own rfl) rfl rfl rfl rfl ⟨_, rfl⟩) rfl ?_; refine vo_step (ok_callx L rfl rfl (blt_lt rfl) rfl rfl rfl (fun u H hH _ _ => object_ret (by first | assumption | decide) (by first | assumption | decide) hH)) rfl ?_; refine vo_step (ok_assign rfl rfl rfl) rfl ?_; refine vo_nil ?_; refine N_seq ?_; refine V_seq ?_; refine V_seq ?_; refine V_region (id := 5) ?_; refine vo_step (ok_move rfl rfl rfl) rfl ?_; refine vo_step (ok_move rfl rfl rfl) rfl ?_; refine vo_step (ok_skip rfl (blt_lt rfl) rfl) rfl ?_; refine vo_step (ok_skip rfl (blt_lt rfl) rfl) rfl ?_; refine vo_step (ok_pick rfl rfl rfl rfl) rfl ?_; refine vo_nil ?_; refine N_seq ?_; refine V_false rfl ?_; refine V_skip ?_; refine N_seq ?_; refine V_seq ?_; refine V_seq ?_; refine V_region (id := 7) ?_; refine vo_step (ok_move rfl rfl rfl) rfl ?_; refine vo_step (ok_neq rfl rfl rfl rfl (decide_eq_false (by omega))) rfl ?_; refine vo_nil ?_; refine N_seq ?_; refine V_false rfl ?_; refine V_skip ?_; refine N_seq ?_; refine V_seq ?_; refine V_region (id := 9) ?_; refine vo_step (ok_loadA L (vs := [_, _]) (src_own rfl) rfl rfl rfl rfl ⟨_, rfl⟩) rfl ?_; refine vo_step (ok_move rfl rfl rfl) rfl ?_; refine vo_step (ok_build (cs := [_, _, _]) rfl rfl pl79 rfl rfl) rfl ?_; refine vo_step (ok_store L rfl rfl rfl rfl rfl rfl rfl rfl) rfl ?_; refine vo_step (ok_assign rfl rfl rfl) rfl ?_; refine vo_nil ?_; refine N_seq ?_
        refine V_ret L (rs := [.cell 2 79, .tmp 3]) rfl (fun _ _ h => h) Since.refl fun u H hH hle => ?_
        exact ⟨_, src_own rfl, rfl, rfl⟩
      | true =>
        rw [if_pos rfl] at hr
        by_cases h1 : chk c = 0
        · rw [if_pos h1] at hr; subst hr
          refine V_seq ?_; refine V_region (id := 0) ?_; refine vo_step (ok_alloc L rfl rfl rfl rfl) rfl ?_; refine vo_step (ok_assign rfl rfl rfl) rfl ?_; refine vo_nil ?_; refine N_seq ?_; refine V_seq ?_; refine V_region (id := 1) ?_; refine vo_step (ok_move rfl rfl rfl) rfl ?_; refine vo_step (ok_callx L rfl rfl (blt_lt rfl) rfl rfl rfl (fun u H hH hle _ => parts_some (by assumption) hH (GlobM.mono (by assumption) hle) (by assumption))) rfl ?_; refine vo_step (ok_move rfl rfl rfl) rfl ?_; refine vo_step (ok_extract rfl rfl rfl rfl) rfl ?_; refine vo_step (ok_extract rfl rfl rfl rfl) rfl ?_; refine vo_step (ok_extract rfl rfl rfl rfl) rfl ?_; refine vo_step (ok_extract rfl rfl rfl rfl) rfl ?_; refine vo_step (ok_alloc L rfl rfl rfl rfl) rfl ?_; refine vo_step (ok_store L rfl rfl rfl rfl rfl rfl rfl rfl) rfl ?_; refine vo_step (ok_assign rfl rfl rfl) rfl ?_; refine vo_step (ok_assign rfl rfl rfl) rfl ?_; refine vo_step (ok_assign rfl rfl rfl) rfl ?_; refine vo_nil ?_; refine N_seq ?_; refine V_seq ?_; refine V_seq ?_; refine V_region (id := 2) ?_; refine vo_step (ok_move rfl rfl rfl) rfl ?_; refine vo_step (ok_not rfl rfl rfl rfl) rfl ?_; refine vo_nil ?_; refine N_seq ?_; refine V_false rfl ?_; refine V_skip ?_; refine N_seq ?_; refine V_seq ?_; refine V_region (id := 4) ?_; refine vo_step (ok_loadA L (vs := [_, _]) (src_own rfl) rfl rfl rfl rfl ⟨_, rfl⟩) rfl ?_; refine vo_step (ok_callx L rfl rfl (blt_lt rfl) rfl rfl rfl (fun u H hH _ _ => object_ret (by first | assumption | decide) (by first | assumption | decide) hH)) rfl ?_; refine vo_step (ok_assign rfl rfl rfl) rfl ?_; refine vo_nil ?_; refine N_seq ?_; refine V_seq ?_; refine V_seq ?_; refine V_region (id := 5) ?_; refine vo_step (ok_move rfl rfl rfl) rfl ?_; refine vo_step (ok_move rfl rfl rfl) rfl ?_; refine vo_step (ok_move rfl rfl rfl) rfl ?_; refine vo_step (ok_eql rfl rfl rfl rfl (decide_eq_true (by omega))) rfl ?_; refine vo_step (ok_pick rfl rfl rfl rfl) rfl ?_; refine vo_nil ?_; refine N_seq ?_; refine V_true rfl ?_; refine V_region (id := 6) ?_; refine vo_step (ok_move rfl rfl rfl) rfl ?_; refine vo_step (ok_callx L rfl rfl (blt_lt rfl) rfl rfl rfl (fun u H hH _ _ => check_ret _ (by first | omega | decide) hH)) rfl ?_; refine vo_step (ok_assign rfl rfl rfl) rfl ?_; refine vo_nil ?_; refine N_seq ?_; refine V_seq ?_; refine V_seq ?_; refine V_region (id := 7) ?_; refine vo_step (ok_move rfl rfl rfl) rfl ?_; refine vo_step (ok_neq rfl rfl rfl rfl (decide_eq_false (by omega))) rfl ?_; refine vo_nil ?_; refine N_seq ?_; refine V_false rfl ?_; refine V_skip ?_; refine N_seq ?_; refine V_seq ?_; refine V_region (id := 9) ?_; refine vo_step (ok_loadA L (vs := [_, _]) (src_own rfl) rfl rfl rfl rfl ⟨_, rfl⟩) rfl ?_; refine vo_step (ok_move rfl rfl rfl) rfl ?_; refine vo_step (ok_build (cs := [_, _, _]) rfl rfl pl79 rfl rfl) rfl ?_; refine vo_step (ok_store L rfl rfl rfl rfl rfl rfl rfl rfl) rfl ?_; refine vo_step (ok_assign rfl rfl rfl) rfl ?_; refine vo_nil ?_; refine N_seq ?_
          refine V_ret L (rs := [.cell 2 79, .tmp 3]) rfl (fun _ _ h => h) Since.refl fun u H hH hle => ?_
          exact ⟨_, src_own rfl, rfl, rfl⟩
        · rw [if_neg h1] at hr; subst hr
          refine V_seq ?_; refine V_region (id := 0) ?_; refine vo_step (ok_alloc L rfl rfl rfl rfl) rfl ?_; refine vo_step (ok_assign rfl rfl rfl) rfl ?_; refine vo_nil ?_; refine N_seq ?_; refine V_seq ?_; refine V_region (id := 1) ?_; refine vo_step (ok_move rfl rfl rfl) rfl ?_; refine vo_step (ok_callx L rfl rfl (blt_lt rfl) rfl rfl rfl (fun u H hH hle _ => parts_some (by assumption) hH (GlobM.mono (by assumption) hle) (by assumption))) rfl ?_; refine vo_step (ok_move rfl rfl rfl) rfl ?_; refine vo_step (ok_extract rfl rfl rfl rfl) rfl ?_; refine vo_step (ok_extract rfl rfl rfl rfl) rfl ?_; refine vo_step (ok_extract rfl rfl rfl rfl) rfl ?_; refine vo_step (ok_extract rfl rfl rfl rfl) rfl ?_; refine vo_step (ok_alloc L rfl rfl rfl rfl) rfl ?_; refine vo_step (ok_store L rfl rfl rfl rfl rfl rfl rfl rfl) rfl ?_; refine vo_step (ok_assign rfl rfl rfl) rfl ?_; refine vo_step (ok_assign rfl rfl rfl) rfl ?_; refine vo_step (ok_assign rfl rfl rfl) rfl ?_; refine vo_nil ?_; refine N_seq ?_; refine V_seq ?_; refine V_seq ?_; refine V_region (id := 2) ?_; refine vo_step (ok_move rfl rfl rfl) rfl ?_; refine vo_step (ok_not rfl rfl rfl rfl) rfl ?_; refine vo_nil ?_; refine N_seq ?_; refine V_false rfl ?_; refine V_skip ?_; refine N_seq ?_; refine V_seq ?_; refine V_region (id := 4) ?_; refine vo_step (ok_loadA L (vs := [_, _]) (src_own rfl) rfl rfl rfl rfl ⟨_, rfl⟩) rfl ?_; refine vo_step (ok_callx L rfl rfl (blt_lt rfl) rfl rfl rfl (fun u H hH _ _ => object_ret (by first | assumption | decide) (by first | assumption | decide) hH)) rfl ?_; refine vo_step (ok_assign rfl rfl rfl) rfl ?_; refine vo_nil ?_; refine N_seq ?_; refine V_seq ?_; refine V_seq ?_; refine V_region (id := 5) ?_; refine vo_step (ok_move rfl rfl rfl) rfl ?_; refine vo_step (ok_move rfl rfl rfl) rfl ?_; refine vo_step (ok_move rfl rfl rfl) rfl ?_; refine vo_step (ok_eql rfl rfl rfl rfl (decide_eq_true (by omega))) rfl ?_; refine vo_step (ok_pick rfl rfl rfl rfl) rfl ?_; refine vo_nil ?_; refine N_seq ?_; refine V_true rfl ?_; refine V_region (id := 6) ?_; refine vo_step (ok_move rfl rfl rfl) rfl ?_; refine vo_step (ok_callx L rfl rfl (blt_lt rfl) rfl rfl rfl (fun u H hH _ _ => check_ret _ (by first | omega | decide) hH)) rfl ?_; refine vo_step (ok_assign rfl rfl rfl) rfl ?_; refine vo_nil ?_; refine N_seq ?_; refine V_seq ?_; refine V_seq ?_; refine V_region (id := 7) ?_; refine vo_step (ok_move rfl rfl rfl) rfl ?_; refine vo_step (ok_neq rfl rfl rfl rfl (decide_eq_true (by omega))) rfl ?_; refine vo_nil ?_; refine N_seq ?_; refine V_true rfl ?_; refine V_seq ?_; refine V_region (id := 8) ?_; refine vo_step (ok_build (cs := [_, _, _]) rfl rfl pl79 rfl rfl) rfl ?_; refine vo_step (ok_move rfl rfl rfl) rfl ?_; refine vo_step (ok_store L rfl rfl rfl rfl rfl rfl rfl rfl) rfl ?_; refine vo_step (ok_assign rfl rfl rfl) rfl ?_; refine vo_nil ?_; refine N_seq ?_
          refine V_ret L (rs := [.cell 2 79, .tmp 3]) rfl (fun _ _ h => h) Since.refl fun u H hH hle => ?_
          exact ⟨_, src_own rfl, rfl, rfl⟩
    · rw [if_neg h0] at hr; subst hr
      cases d
      · refine V_seq ?_; refine V_region (id := 0) ?_; refine vo_step (ok_alloc L rfl rfl rfl rfl) rfl ?_; refine vo_step (ok_assign rfl rfl rfl) rfl ?_; refine vo_nil ?_; refine N_seq ?_; refine V_seq ?_; refine V_region (id := 1) ?_; refine vo_step (ok_move rfl rfl rfl) rfl ?_; refine vo_step (ok_callx L rfl rfl (blt_lt rfl) rfl rfl rfl (fun u H hH hle _ => parts_some (by assumption) hH (GlobM.mono (by assumption) hle) (by assumption))) rfl ?_; refine vo_step (ok_move rfl rfl rfl) rfl ?_; refine vo_step (ok_extract rfl rfl rfl rfl) rfl ?_; refine vo_step (ok_extract rfl rfl rfl rfl) rfl ?_; refine vo_step (ok_extract rfl rfl rfl rfl) rfl ?_; refine vo_step (ok_extract rfl rfl rfl rfl) rfl ?_; refine vo_step (ok_alloc L rfl rfl rfl rfl) rfl ?_; refine vo_step (ok_store L rfl rfl rfl rfl rfl rfl rfl rfl) rfl ?_; refine vo_step (ok_assign rfl rfl rfl) rfl ?_; refine vo_step (ok_assign rfl rfl rfl) rfl ?_; refine vo_step (ok_assign rfl rfl rfl) rfl ?_; refine vo_nil ?_; refine N_seq ?_; refine V_seq ?_; refine V_seq ?_; refine V_region (id := 2) ?_; refine vo_step (ok_move rfl rfl rfl) rfl ?_; refine vo_step (ok_not rfl rfl rfl rfl) rfl ?_; refine vo_nil ?_; refine N_seq ?_; refine V_false rfl ?_; refine V_skip ?_; refine N_seq ?_; refine V_seq ?_; refine V_region (id := 4) ?_; refine vo_step (ok_loadA L (vs := [_, _]) (src_own rfl) rfl rfl rfl rfl ⟨_, rfl⟩) rfl ?_; refine vo_step (ok_callx L rfl rfl (blt_lt rfl) rfl rfl rfl (fun u H hH _ _ => object_ret (by first | assumption | decide) (by first | assumption | decide) hH)) rfl ?_; refine vo_step (ok_assign rfl rfl rfl) rfl ?_; refine vo_nil ?_; refine N_seq ?_; refine V_seq ?_; refine V_seq ?_; refine V_region (id := 5) ?_; refine vo_step (ok_move rfl rfl rfl) rfl ?_; refine vo_step (ok_move rfl rfl rfl) rfl ?_; refine vo_step (ok_skip rfl (blt_lt rfl) rfl) rfl ?_; refine vo_step (ok_skip rfl (blt_lt rfl) rfl) rfl ?_; refine vo_step (ok_pick rfl rfl rfl rfl) rfl ?_; refine vo_nil ?_; refine N_seq ?_; refine V_false rfl ?_; refine V_skip ?_; refine N_seq ?_; refine V_seq ?_; refine V_seq ?_; refine V_region (id := 7) ?_; refine vo_step (ok_move rfl rfl rfl) rfl ?_; refine vo_step (ok_neq rfl rfl rfl rfl (decide_eq_true (by omega))) rfl ?_; refine vo_nil ?_; refine N_seq ?_; refine V_true rfl ?_; refine V_seq ?_; refine V_region (id := 8) ?_; refine vo_step (ok_build (cs := [_, _, _]) rfl rfl pl79 rfl rfl) rfl ?_; refine vo_step (ok_move rfl rfl rfl) rfl ?_; refine vo_step (ok_store L rfl rfl rfl rfl rfl rfl rfl rfl) rfl ?_; refine vo_step (ok_assign rfl rfl rfl) rfl ?_; refine vo_nil ?_; refine N_seq ?_
        refine V_ret L (rs := [.cell 2 79, .tmp 3]) rfl (fun _ _ h => h) Since.refl fun u H hH hle => ?_
        exact ⟨_, src_own rfl, rfl, rfl⟩
      · refine V_seq ?_; refine V_region (id := 0) ?_; refine vo_step (ok_alloc L rfl rfl rfl rfl) rfl ?_; refine vo_step (ok_assign rfl rfl rfl) rfl ?_; refine vo_nil ?_; refine N_seq ?_; refine V_seq ?_; refine V_region (id := 1) ?_; refine vo_step (ok_move rfl rfl rfl) rfl ?_; refine vo_step (ok_callx L rfl rfl (blt_lt rfl) rfl rfl rfl (fun u H hH hle _ => parts_some (by assumption) hH (GlobM.mono (by assumption) hle) (by assumption))) rfl ?_; refine vo_step (ok_move rfl rfl rfl) rfl ?_; refine vo_step (ok_extract rfl rfl rfl rfl) rfl ?_; refine vo_step (ok_extract rfl rfl rfl rfl) rfl ?_; refine vo_step (ok_extract rfl rfl rfl rfl) rfl ?_; refine vo_step (ok_extract rfl rfl rfl rfl) rfl ?_; refine vo_step (ok_alloc L rfl rfl rfl rfl) rfl ?_; refine vo_step (ok_store L rfl rfl rfl rfl rfl rfl rfl rfl) rfl ?_; refine vo_step (ok_assign rfl rfl rfl) rfl ?_; refine vo_step (ok_assign rfl rfl rfl) rfl ?_; refine vo_step (ok_assign rfl rfl rfl) rfl ?_; refine vo_nil ?_; refine N_seq ?_; refine V_seq ?_; refine V_seq ?_; refine V_region (id := 2) ?_; refine vo_step (ok_move rfl rfl rfl) rfl ?_; refine vo_step (ok_not rfl rfl rfl rfl) rfl ?_; refine vo_nil ?_; refine N_seq ?_; refine V_false rfl ?_; refine V_skip ?_; refine N_seq ?_; refine V_seq ?_; refine V_region (id := 4) ?_; refine vo_step (ok_loadA L (vs := [_, _]) (src_own rfl) rfl rfl rfl rfl ⟨_, rfl⟩) rfl ?_; refine vo_step (ok_callx L rfl rfl (blt_lt rfl) rfl rfl rfl (fun u H hH _ _ => object_ret (by first | assumption | decide) (by first | assumption | decide) hH)) rfl ?_; refine vo_step (ok_assign rfl rfl rfl) rfl ?_; refine vo_nil ?_; refine N_seq ?_; refine V_seq ?_; refine V_seq ?_; refine V_region (id := 5) ?_; refine vo_step (ok_move rfl rfl rfl) rfl ?_; refine vo_step (ok_move rfl rfl rfl) rfl ?_; refine vo_step (ok_move rfl rfl rfl) rfl ?_; refine vo_step (ok_eql rfl rfl rfl rfl (decide_eq_false (by omega))) rfl ?_; refine vo_step (ok_pick rfl rfl rfl rfl) rfl ?_; refine vo_nil ?_; refine N_seq ?_; refine V_false rfl ?_; refine V_skip ?_; refine N_seq ?_; refine V_seq ?_; refine V_seq ?_; refine V_region (id := 7) ?_; refine vo_step (ok_move rfl rfl rfl) rfl ?_; refine vo_step (ok_neq rfl rfl rfl rfl (decide_eq_true (by omega))) rfl ?_; refine vo_nil ?_; refine N_seq ?_; refine V_true rfl ?_; refine V_seq ?_; refine V_region (id := 8) ?_; refine vo_step (ok_build (cs := [_, _, _]) rfl rfl pl79 rfl rfl) rfl ?_; refine vo_step (ok_move rfl rfl rfl) rfl ?_; refine vo_step (ok_store L rfl rfl rfl rfl rfl rfl rfl rfl) rfl ?_; refine vo_step (ok_assign rfl rfl rfl) rfl ?_; refine vo_nil ?_; refine N_seq ?_
        refine V_ret L (rs := [.cell 2 79, .tmp 3]) rfl (fun _ _ h => h) Since.refl fun u H hH hle => ?_
        exact ⟨_, src_own rfl, rfl, rfl⟩
theorem pg_ret' {s a b c : ByteArray} {e : Int} (hr : pgA s = (a, b, c, e)) (hs : s.size ≤ 1000000) {w : World} {B : Heap} (hB : B.Le (hp w)) (hM : GlobM B) :
    Ret Try.prog 85 [.string s] w B (fun v _ => v = .tuple #[.agg #[.string a, .string b, .string c], .int .i64 e]) := pg_ret hr hs hB hM
theorem ps_ret' {s a b c : ByteArray} {e : Int} (hr : psA s = (a, b, c, e)) (hs : s.size ≤ 1000000) {w : World} {B : Heap} (hB : B.Le (hp w)) (hM : GlobM B) :
    Ret Try.prog 86 [.string s] w B (fun v _ => v = .tuple #[.agg #[.string a, .string b, .string c], .int .i64 e]) := ps_ret hr hs hB hM
end Go.V
/- Tuples (chapter 2): plain laws. -/
namespace Go.V.L2
open Go.Proofs Go.RowKit Go.V
/-- A tuple: its goal, and its subject. -/
abbrev U := Str3 × Str3
def ucs (t : U) : List Value := [.string t.1.1.1, .string t.1.1.2, .string t.1.2, .string t.2.1.1, .string t.2.1.2, .string t.2.2]
theorem ucs_len (t : U) : (ucs t).length = 6 := rfl
def cmpT : U → U → Int := lexC cmp3 cmp3
theorem cmpT_ord : Ord3 cmpT := cmp3_ord.lex cmp3_ord
theorem u_eq {t v : U} : (t.1.1.1 = v.1.1.1 ∧ t.1.1.2 = v.1.1.2 ∧ t.1.2 = v.1.2 ∧ t.2.1.1 = v.2.1.1 ∧ t.2.1.2 = v.2.1.2 ∧ t.2.2 = v.2.2) ↔ t = v :=
  ⟨fun ⟨a, b, c, d, e, f⟩ => Prod.ext (Prod.ext (Prod.ext a b) c) (Prod.ext (Prod.ext d e) f), fun e => by subst e; exact ⟨rfl, rfl, rfl, rfl, rfl, rfl⟩⟩
instance memU (t : U) (l : List U) : Decidable (t ∈ l) := decidable_of_iff (l.any (fun x => decide (x = t)) = true) (by simp)
/-- The error of a tuple. -/
def tE (t : U) : Int := if allE [t.1.1.1, t.1.1.2, t.1.2] = 0 then subjE t.2.1.1 t.2.1.2 t.2.2 else allE [t.1.1.1, t.1.1.2, t.1.2]
abbrev sAt : ByteArray := ⟨#[64]⟩
def tT (t : U) : ByteArray := goalT t.1.1.1 t.1.1.2 t.1.2 ++ sAt ++ subjT t.2.1.1 t.2.1.2 t.2.2
/-- Strings of a tuple are not too long. -/
def TZ (t : U) : Prop := (t.1.1.1.size ≤ 1099511627776 ∧ t.1.1.2.size ≤ 1099511627776 ∧ t.1.2.size ≤ 1099511627776) ∧ t.2.1.1.size ≤ 1099511627776 ∧ t.2.1.2.size ≤ 1099511627776 ∧ t.2.2.size ≤ 1099511627776
instance (t : U) : Decidable (TZ t) := inferInstanceAs (Decidable (_ ∧ _))
theorem sst_iff {α : Type} {c : α → α → Int} (h : Ord3 c) : ∀ {l : List α}, Sst c l ↔ ∀ (j : Nat) (a b : α), l[j]? = some a → l[j + 1]? = some b → c a b < 0
  | [] => ⟨fun _ j a b h1 _ => by simp at h1, fun _ => Sst.nil⟩
  | [x] => ⟨fun _ j a b _ h2 => by simp at h2, fun _ => List.pairwise_singleton ..⟩
  | x :: y :: l => by
    constructor
    · intro hs j a b h1 h2
      have hp := List.pairwise_cons.1 hs
      cases j with
      | zero => simp at h1 h2; subst h1 h2; exact hp.1 _ (List.mem_cons_self ..)
      | succ j => exact (sst_iff h).1 hp.2 j a b (by simpa using h1) (by simpa using h2)
    · intro hj
      have hl : Sst c (y :: l) := (sst_iff h).2 fun j a b h1 h2 => hj (j + 1) a b (by simpa using h1) (by simpa using h2)
      have hxy : c x y < 0 := hj 0 x y rfl rfl
      refine List.pairwise_cons.2 ⟨fun z hz => ?_, hl⟩
      rcases List.mem_cons.1 hz with rfl | hz
      · exact hxy
      · exact h.tr hxy ((List.pairwise_cons.1 hl).1 z hz)
instance {α : Type} (c : α → α → Int) (l : List α) : Decidable (Sst c l) := inferInstanceAs (Decidable (l.Pairwise _))
def isB (l : List U) : Bool := decide (Sst cmpT l)
theorem isB_no {l : List U} {j : Nat} {a b : U} (h1 : l[j]? = some a) (h2 : l[j + 1]? = some b) (h : ¬ cmpT a b < 0) : isB l = false := decide_eq_false fun hs => h ((sst_iff cmpT_ord).1 hs j a b h1 h2)
theorem isB_yes {l : List U} (h : ∀ j a b, l[j]? = some a → l[j + 1]? = some b → cmpT a b < 0) : isB l = true := decide_eq_true ((sst_iff cmpT_ord).2 h)
/-- Which tuple a text is. -/
def ptA (s : ByteArray) : U × Int :=
  if (cutA s 64).2.2 = true ∧ hasA (cutA s 64).2.1 64 = false then
    (if (pgA (cutA s 64).1).2.2.2 = 0 then
      (if (psA (cutA s 64).2.1).2.2.2 = 0 then
        (((((pgA (cutA s 64).1).1, (pgA (cutA s 64).1).2.1), (pgA (cutA s 64).1).2.2.1), (((psA (cutA s 64).2.1).1, (psA (cutA s 64).2.1).2.1), (psA (cutA s 64).2.1).2.2.1)), 0)
      else ((((⟨#[]⟩, ⟨#[]⟩), ⟨#[]⟩), ((⟨#[]⟩, ⟨#[]⟩), ⟨#[]⟩)), (psA (cutA s 64).2.1).2.2.2))
    else ((((⟨#[]⟩, ⟨#[]⟩), ⟨#[]⟩), ((⟨#[]⟩, ⟨#[]⟩), ⟨#[]⟩)), (pgA (cutA s 64).1).2.2.2))
  else ((((⟨#[]⟩, ⟨#[]⟩), ⟨#[]⟩), ((⟨#[]⟩, ⟨#[]⟩), ⟨#[]⟩)), 5)
end Go.V.L2
/- The kit's nineteenth floor: slices that are made and written to; results that are owned. -/
namespace Go.V
open Go.RowKit
/-- The cells of k zeros. -/
def zsL (P : Program) (e : TypeId) (k : Nat) : List Value := match P.info? e with
  | some i => match i.zero with
    | some z => (madeCells z.cells k).toList
    | none => []
  | none => []
theorem zsL_length {P : Program} {e : TypeId} {s by_ k : Nat} (h : elI P e = some (s, by_)) : (zsL P e k).length = k := by
  obtain ⟨i, z, hi, hz, _, _, _, _⟩ := elI_spec h
  unfold zsL
  rw [hi]; dsimp only; rw [hz]
  simp [size_madeCells]
/-- An owned slice without room behind it. -/
def SlE (e : TypeId) (s n : Nat) (xs : List Value) : Res where
  P x _ u C := xs.length = n * s ∧ ((n = 0 ∧ x = .slice none 0 0 ∧ ∀ k, ¬ C k) ∨ ∃ b, x = .slice (some ⟨b, 0, none⟩) n n ∧ u.heap[b]? = some (.cells xs.toArray e) ∧ n ≤ maxLen ∧ ∀ k, C k ↔ k = b)
  st := fun ⟨hl, h⟩ _ _ _ hk => ⟨hl, by
    rcases h with h | ⟨b, h1, h2, h3, h4⟩
    · exact .inl h
    · exact .inr ⟨b, h1, (hk b ((h4 b).2 rfl)).trans h2, h3, h4⟩⟩
theorem SlE.toR {e : TypeId} {s n : Nat} {xs : List Value} {x : Value} {H : Heap} {u : World} {C : Nat → Prop} (h : (SlE e s n xs).P x H u C) : (SlR e s n xs).P x H u C :=
  ⟨h.1, h.2.imp id fun ⟨b, h1, h2, h3, h4⟩ => ⟨b, n, [], h1, by rw [List.append_nil]; exact h2, Nat.le_refl _, h3, by rw [List.append_nil]; exact h.1, h4⟩⟩
section
variable {P : Program} {F : Fr} {B : Heap} {O : Boxes} {n : Nat} {ops : Array Oper} {κ : Kap} {d : Nat} {ty : TypeId} {pos : String} {aft : Array Edge} {g : Option (Nat × Bool)} {a : Act} {u : World} {H : Heap} {fp : Nat → Nat → Prop} {os : List Oper} {Q : Exit → Act → World → Prop} {ex : Exs}
/-- 'make([]T, c)'. -/
theorem ok_makeN (L : Tabs P) {t e : TypeId} {x y : Operand} {kl kc : IntKind} {s by_ : Nat} (c : Nat) {p q : Int} (hn : Nat.blt d n = true) (hg : gK ops κ ⟨some d, .makeSlice t x y, ty, pos, aft, g⟩ = some true) (ht : L.sl t = some e) (he : elI P e = some (s, by_))
    (hx : evK κ x = some (.int kl q)) (hy : evK κ y = some (.int kc p)) (hq : q = c) (hp : p = c) (hb : by_ * c ≤ 281474976710656) (hc : c ≤ maxLen) : StepOK P F B n ops O κ ⟨some d, .makeSlice t x y, ty, pos, aft, g⟩ d (.own (SlE e s c (zsL P e (c * s)))) := by
  rintro κ' a u hl ⟨H, fp, hh⟩
  unfold After
  rw [if_pos (wanted_gK hh hl hg)]
  have en := hh.env hl
  have hzl := zsL_length (k := c * s) he
  obtain ⟨i, z, hi, hz, hs1, hs2, hs3, hs4⟩ := elI_spec he
  have h1 := en.is_ x _ (by simp [Op.operands]) hx
  have h2 := en.is_ y _ (by simp [Op.operands]) hy
  subst hp
  subst hq
  have hb' : (i.bytes : Int) * (c : Int) ≤ 281474976710656 := by
    have h : ((by_ * c : Nat) : Int) ≤ 281474976710656 := by omega
    rw [hs2]; rwa [Int.natCast_mul] at h
  have h63 : (c : Int) ≤ 9223372036854775807 := by simp [maxLen] at hc; omega
  have hr := run_make (P := P) u t e i z (Tabs.sl_spec ht) hi hz kl kc c c (by omega) (by omega) hb' h63
  simp only [Int.toNat_natCast] at hr
  have hrun : (execOp a.eval ⟨some d, .makeSlice t x y, ty, pos, aft, g⟩).run P u = .ok (.value (.slice (some ⟨u.heap.size, 0, none⟩) c c)) (u.alloc (.cells (madeCells z.cells (c * i.size)) e)) := by
    simp only [execOp, h1, h2, Sem.run_bind, hr, Result.andThen_ok]; rfl
  rw [hrun]
  simp only [Upon]
  have hzs : zsL P e (c * s) = (madeCells z.cells (c * i.size)).toList := by
    unfold zsL
    rw [hi]; dsimp only; rw [hz, hs1]
  have hg2 := hh.grow (Grow.hid hh.sub (.cells (madeCells z.cells (c * i.size)) e))
  refine ⟨H, _, hg2.putR (C := fun k => k = u.heap.size) (by simp [Act.put]) rfl (fun t ht => eval_put_other ht) ⟨hzl, .inr ⟨u.heap.size, eval_put_same (by rw [hh.size]; exact blt_lt hn), by rw [heap_push_same, hzs], hc, fun _ => Iff.rfl⟩⟩ (fun k hk => ?_) fun t r' _ ht k hf hk => ?_⟩
  · subst hk
    exact ⟨size_of_heap (heap_push_same u _), none_of_ge hh.sub (Nat.le_refl _), .inl hh.keep.size, fun y hy e => by have := size_of_heap (hh.boxes y hy).1; omega⟩
  · have := ((hh.slot t _ ht).2 k hf).1
    omega
/-- The block of an owned slice gets a number. -/
theorem Has.boxE {t : Nat} {e : TypeId} {s m : Nat} {xs : List Value} (hm : 0 < m) (hk : κ t = some (.own (SlE e s m xs))) (h : Has F B O n κ a u) :
    ∃ b, (xs.length = m * s ∧ m ≤ maxLen) ∧ Has F B (bx b xs e :: O) n (upd κ t (.is (.slice (some ⟨b, 0, none⟩) m m))) a u := by
  obtain ⟨H, fp, h⟩ := h
  obtain ⟨⟨hl, hv⟩, hM⟩ := h.slot t _ hk
  rcases hv with ⟨h0, _, _⟩ | ⟨b, hv, hb, h4, hC⟩
  · omega
  · have := h.toBox hk hb ((hC b).2 rfl)
    rw [hv] at this
    exact ⟨b, ⟨hl, h4⟩, H, fp, this⟩
theorem Has.unboxE {t b m : Nat} {e : TypeId} {s : Nat} {xs : List Value} {O1 O2 : Boxes} (hO : O = O1 ++ bx b xs e :: O2) (hd : F.ds = []) (hk : κ t = some (.is (.slice (some ⟨b, 0, none⟩) m m))) (hl : xs.length = m * s) (h4 : m ≤ maxLen)
    (h : Has F B O n κ a u) : Has F B (O1 ++ O2) n (upd κ t (.own (SlE e s m xs))) a u := by
  obtain ⟨H, fp, h⟩ := h
  subst hO
  have hb := (h.boxes (bx b xs e) (by simp)).1
  exact ⟨H, _, h.ofBox (by rw [hd]; simp) ⟨hl, .inr ⟨b, h.slot t _ hk, hb, h4, fun _ => Iff.rfl⟩⟩⟩
theorem V_boxE (t : Nat) {e : TypeId} {s m : Nat} {xs : List Value} {c : Code} (hm : 0 < m) (hk : κ t = some (.own (SlE e s m xs)))
    (h : ∀ b, (xs.length = m * s ∧ m ≤ maxLen) → V P F B n (bx b xs e :: O) (upd κ t (.is (.slice (some ⟨b, 0, none⟩) m m))) c Q) : V P F B n O κ c Q := fun a u hh =>
  let ⟨b, h1, h'⟩ := hh.boxE hm hk; h b h1 a u h'
theorem N_unboxE (t : Nat) {b m : Nat} {e : TypeId} {s : Nat} {xs : List Value} (O1 : Boxes) {O2 : Boxes} (hO : O = O1 ++ bx b xs e :: O2) (hk : κ t = some (.is (.slice (some ⟨b, 0, none⟩) m m))) (hl : xs.length = m * s) (h4 : m ≤ maxLen)
    (h : N F B n (O1 ++ O2) (upd κ t (.own (SlE e s m xs))) Q) (hd : F.ds = [] := by rfl) : N F B n O κ Q := fun a u hh => h a u (hh.unboxE hO hd hk hl h4)
theorem V_unboxE (t : Nat) {b m : Nat} {e : TypeId} {s : Nat} {xs : List Value} (O1 : Boxes) {O2 : Boxes} {c : Code} (hO : O = O1 ++ bx b xs e :: O2) (hk : κ t = some (.is (.slice (some ⟨b, 0, none⟩) m m))) (hl : xs.length = m * s) (h4 : m ≤ maxLen)
    (h : V P F B n (O1 ++ O2) (upd κ t (.own (SlE e s m xs))) c Q) (hd : F.ds = [] := by rfl) : V P F B n O κ c Q := fun a u hh => h a u (hh.unboxE hO hd hk hl h4)
theorem ok_lenE (L : Tabs P) {q : Nat} {tt e e' : TypeId} {s m : Nat} {xs : List Value} (hn : Nat.blt d n = true) (hg : gK ops κ ⟨some d, .call ⟨.builtin .len, #[.tmp q], #[tt]⟩, ty, pos, aft, g⟩ = some true) (hx : κ q = some (.own (SlE e' s m xs))) (ht : L.sl tt = some e) :
    StepOK P F B n ops O κ ⟨some d, .call ⟨.builtin .len, #[.tmp q], #[tt]⟩, ty, pos, aft, g⟩ d (.is (.int .i64 m)) :=
  ok_pure rfl (blt_lt hn) hg trivial fun a u H fp en => ⟨_, by
    obtain ⟨⟨_, ⟨rfl, h1, _⟩ | ⟨b, h1, _⟩⟩, _⟩ := en.own_ q _ (by simp [Op.operands, Call.operands]) hx
    · simp [execOp, resolve, h1, invoke, builtin, Builtin.len_, run_underlying (Tabs.sl_spec ht), goInt]
    · simp [execOp, resolve, h1, invoke, builtin, Builtin.len_, run_underlying (Tabs.sl_spec ht), goInt], rfl⟩
theorem ok_capE (L : Tabs P) {q : Nat} {tt e e' : TypeId} {s m : Nat} {xs : List Value} (hn : Nat.blt d n = true) (hg : gK ops κ ⟨some d, .call ⟨.builtin .cap, #[.tmp q], #[tt]⟩, ty, pos, aft, g⟩ = some true) (hx : κ q = some (.own (SlE e' s m xs))) (ht : L.sl tt = some e) :
    StepOK P F B n ops O κ ⟨some d, .call ⟨.builtin .cap, #[.tmp q], #[tt]⟩, ty, pos, aft, g⟩ d (.is (.int .i64 m)) :=
  ok_pure rfl (blt_lt hn) hg trivial fun a u H fp en => ⟨_, by
    obtain ⟨⟨_, ⟨rfl, h1, _⟩ | ⟨b, h1, _⟩⟩, _⟩ := en.own_ q _ (by simp [Op.operands, Call.operands]) hx
    · simp [execOp, resolve, h1, invoke, builtin, Builtin.cap_, run_underlying (Tabs.sl_spec ht), goInt]
    · simp [execOp, resolve, h1, invoke, builtin, Builtin.cap_, run_underlying (Tabs.sl_spec ht), goInt], rfl⟩
/-- An owned slice is shown. -/
theorem Has.pubE {t : Nat} {e : TypeId} {s m : Nat} {xs : List Value} (hk : κ t = some (.own (SlE e s m xs))) (h : Has F B O n κ a u) : Has F B O n (upd κ t (.sat (SlV e s xs m true))) a u := by
  obtain ⟨H, fp, h⟩ := h
  obtain ⟨⟨hl, hv⟩, hM⟩ := h.slot t _ hk
  rcases hv with ⟨rfl, hv, hC⟩ | ⟨b, hv, hb, h4, hC⟩
  · have hx : xs = [] := List.eq_nil_of_length_eq_zero (by simpa using hl)
    subst hx
    have h2 := h.name t
    rw [hv] at h2
    have h3 : Has F B O n (upd κ t (.is (.slice none 0 0))) a u := ⟨H, fp, h2⟩
    have h4 := h3.seen (t := t) (SlV e s [] 0 true) (upd_same _ _ _) SlV.mono ⟨by simp, .inl ⟨rfl, rfl⟩⟩
    rw [upd_upd] at h4
    exact h4
  · obtain ⟨H', h'⟩ := h.pub (φ := SlV e s xs m true) hk hb ((hC b).2 rfl) SlV.mono fun H' _ hb' => ⟨hl, .inr ⟨b, 0, m, _, _, (0, 0), hv, hb', by simp, Nat.le_refl _, fun _ => rfl⟩⟩
    exact ⟨H', fp, h'⟩
theorem V_pubE (t : Nat) {e : TypeId} {s m : Nat} {xs : List Value} {c : Code} (hk : κ t = some (.own (SlE e s m xs))) (h : V P F B n O (upd κ t (.sat (SlV e s xs m true))) c Q) : V P F B n O κ c Q := fun a u hh => h a u (hh.pubE hk)
theorem N_pubE (t : Nat) {e : TypeId} {s m : Nat} {xs : List Value} (hk : κ t = some (.own (SlE e s m xs))) (h : N F B n O (upd κ t (.sat (SlV e s xs m true))) Q) : N F B n O κ Q := fun a u hh => h a u (hh.pubE hk)
theorem vo_pubE (t : Nat) {e : TypeId} {s m : Nat} {xs : List Value} (hk : κ t = some (.own (SlE e s m xs))) (h : VO P F B n O ops (upd κ t (.sat (SlV e s xs m true))) os Q) : VO P F B n O ops κ os Q := fun a u hh => h a u (hh.pubE hk)
/-- An element of a flat list turns. -/
theorem set_at {α : Type} {f : α → List Value} {s : Nat} (hf : ∀ a, (f a).length = s) (l : List α) (k m : Nat) (zs : List Value) (y : α) (hl : l.length = k) (hz : zs.length = (m - k) * s) (hk : k < m) :
    (l.flatMap f ++ zs).take (k * s) ++ (f y ++ (l.flatMap f ++ zs).drop (k * s + s)) = (l ++ [y]).flatMap f ++ zs.drop s := by
  have h1 : (l.flatMap f).length = k * s := by
    subst hl
    clear hz hk
    induction l with
    | nil => simp
    | cons x l ih => rw [List.flatMap_cons, List.length_append, hf, ih, List.length_cons, Nat.add_mul, Nat.one_mul]; omega
  have h2 : s ≤ zs.length := by rw [hz]; exact Nat.le_mul_of_pos_left _ (by omega)
  rw [← h1, List.take_left', List.drop_append]
  · rw [List.drop_eq_nil_of_le (by omega), List.nil_append, show (l.flatMap f).length + s - (l.flatMap f).length = s by omega, List.flatMap_append]
    simp
  · rfl
/-! ### results that are owned -/
/-- What is returned is the caller's. -/
def OwnP (w : World) (r : Res) (v : Value) (H : Heap) (u : World) : Prop := ∃ C : Nat → Prop, r.P v H u C ∧ ∀ k, C k → w.heap.size ≤ k ∧ k < u.heap.size ∧ H k = none
def RetO (P : Program) (f : FuncId) (args : List Value) (w : World) (B : Heap) (r : Res) : Prop := RetL P f args w B noL (OwnP w r)
theorem ok_callO (L : Tabs P) {o : Oper} {d f : Nat} {args : Array Operand} {at_ : Array TypeId} {cap : List Value} {r : Res} {fo : Operand}
    (hop : o.op = .call { callee := .value fo, args := args, argTypes := at_ }) (hd : o.dst = some d) (hn : d < n) (hg : gK ops κ o = some true)
    (hf : evK κ fo = some (.func (.func f) #[] cap.toArray)) (hfn : L.fn f = some ())
    (h : ∀ u H, H.Le (hp u) → B.Le H → Below F.w0.heap.size F.w0 F.w0 → Args κ H args.toList [] (fun vs => RetO P f (vs ++ cap) u H r)) :
    StepOK P F B n ops O κ o d (.own r) := by
  rintro κ' a u hl ⟨H, fp, hh⟩
  unfold After
  rw [if_pos (wanted_gK hh hl hg)]
  have e := hh.env hl
  have hfe : a.eval fo = .func (.func f) #[] cap.toArray := e.is_ fo _ (by simp [hop, Op.operands, Call.operands]) hf
  have hc := Args.use e args.toList [] (fun x hx => by simp [hop, Op.operands, Call.operands] at hx ⊢; exact .inr hx) (h u H e.sub e.base (Below.refl _ _))
  simp only [List.reverse_nil, List.nil_append] at hc
  rw [run_call L hop hfe hfn]
  simp only [Upon]
  refine Calls.mono hc fun e' u' hp => ?_
  obtain ⟨v, rfl, H', g', C, hv, hC⟩ := hp
  have h2 := hh.grow g'
  refine ⟨v, rfl, ?_⟩
  simp only [hd]
  refine ⟨H', _, h2.putR (C := C) (by simp [Act.put]) rfl (fun t ht => eval_put_other ht) (by rw [eval_put_same (by rw [hh.size]; exact hn)]; exact hv) (fun k hk => ?_) fun t r' _ ht k hf hk => ?_⟩
  · obtain ⟨h3, h4, h5⟩ := hC k hk
    exact ⟨h4, h5, .inl (Nat.le_trans hh.keep.size h3), fun y hy e => by have := size_of_heap (hh.boxes y hy).1; omega⟩
  · have h3 := (hC k hk).1
    have := ((hh.slot t _ ht).2 k hf).1
    omega
/-- A return, the one result being owned. -/
theorem V_retO {fn : Func} {B0 : Heap} {t : Nat} {r : Res} (hrs : fn.results = #[.tmp t]) (hQ : ∀ a u, bodyPostM Fence.wide 0 P fn (PostL F.w0 B0 F.L (OwnP F.w0 r)) .ret a u → Q .ret a u) (hs : Since F B0 B) (hk : κ t = some (.own r)) (hL : F.L = noL := by rfl) : V P F B n O κ .ret Q :=
  V_retG hQ hs fun O' a u H fp _ hh => by
    obtain ⟨hown, hM⟩ := hh.slot t _ hk
    refine ⟨a.eval (.tmp t), ?_, fp t, hown, fun k hk => ?_⟩
    · simp [results, hrs, Act.eval]
    · obtain ⟨h1, h2, h3, _⟩ := hM k hk
      refine ⟨?_, h1, h2⟩
      rcases h3 with h3 | h3
      · exact h3
      · have h3' : F.L k := h3
        rw [hL] at h3'; exact h3'.elim
theorem RetO.mono {P : Program} {f : FuncId} {args : List Value} {w : World} {B : Heap} {r r' : Res} (h : RetO P f args w B r) (hi : ∀ v H u C, r.P v H u C → r'.P v H u C) : RetO P f args w B r' :=
  RetL.mono h fun _ _ _ _ ⟨C, h1, h2⟩ => ⟨C, hi _ _ _ _ h1, h2⟩
/-! ### what is owned is lent for a call -/
open Classical in
/-- The visible heap, and what is lent. -/
noncomputable def joinH (H : Heap) (u : World) (C : Nat → Prop) : Heap := fun k => if C k then hp u k else H k
theorem joinH_in {H : Heap} {u : World} {C : Nat → Prop} {k : Nat} (h : C k) : joinH H u C k = hp u k := if_pos h
theorem joinH_out {H : Heap} {u : World} {C : Nat → Prop} {k : Nat} (h : ¬ C k) : joinH H u C k = H k := if_neg h
theorem joinH_sub {H : Heap} {u : World} {C : Nat → Prop} (h : H.Le (hp u)) : (joinH H u C).Le (hp u) := fun k v hv => by
  by_cases hc : C k
  · rwa [joinH_in hc] at hv
  · rw [joinH_out hc] at hv; exact h _ _ hv
theorem joinH_le {H : Heap} {u : World} {C : Nat → Prop} (h : ∀ k, C k → H k = none) : H.Le (joinH H u C) := fun k v hv => by
  by_cases hc : C k
  · rw [h k hc] at hv; cases hv
  · rwa [joinH_out hc]
def Lend (r : Res) (φ : Value → Heap → Prop) : Prop := ∀ x H u C, r.P x H u C → φ x (joinH H u C)
theorem lend_SlR {e : TypeId} {s m : Nat} {xs : List Value} : Lend (SlR e s m xs) (SlV e s xs m false) := fun x H u C ⟨hl, h⟩ => ⟨hl, by
  rcases h with ⟨h0, hv, _⟩ | ⟨b, cap, rest, hv, hb, h3, _, _, hC⟩
  · exact .inl ⟨h0, hv⟩
  · refine .inr ⟨b, 0, cap, _, _, _, hv, (joinH_in ((hC b).2 rfl)).trans hb, by simp, h3, fun h => by cases h⟩⟩
theorem lend_SlE {e : TypeId} {s m : Nat} {xs : List Value} : Lend (SlE e s m xs) (SlV e s xs m true) := fun x H u C ⟨hl, h⟩ => ⟨hl, by
  rcases h with ⟨h0, hv, _⟩ | ⟨b, hv, hb, h3, hC⟩
  · exact .inl ⟨h0, hv⟩
  · exact .inr ⟨b, 0, m, _, _, _, hv, (joinH_in ((hC b).2 rfl)).trans hb, by simp, Nat.le_refl _, fun _ => rfl⟩⟩
def opsHas (q : Nat) (l : List Operand) : Bool := l.any fun x => match x with | .tmp t => Nat.beq t q | _ => false
theorem opsHas_mem {q : Nat} {l : List Operand} (h : opsHas q l = true) : Operand.tmp q ∈ l := by
  obtain ⟨x, hx, h1⟩ := List.any_eq_true.1 h
  cases x with
  | tmp t => have := Nat.eq_of_beq_eq_true h1; subst this; exact hx
  | const _ => cases h1
  | global _ => cases h1
  | func _ => cases h1
theorem ok_callLend (L : Tabs P) (q : Nat) {r : Res} {φ : Value → Heap → Prop} {o : Oper} {d f : Nat} {args : Array Operand} {at_ : Array TypeId} {cap : List Value} {c : Value} {fo : Operand}
    (hop : o.op = .call { callee := .value fo, args := args, argTypes := at_ }) (hd : o.dst = some d) (hn : d < n) (hg : gK ops κ o = some true)
    (hf : evK κ fo = some (.func (.func f) #[] cap.toArray)) (hfn : L.fn f = some ()) (hq : κ q = some (.own r)) (hm : opsHas q o.op.operands.toList = true) (hl : Lend r φ) (hmo : Kn.mono (.sat φ))
    (h : ∀ u H, H.Le (hp u) → B.Le H → Below F.w0.heap.size F.w0 F.w0 → Args (upd κ q (.sat φ)) H args.toList [] (fun vs => Ret P f (vs ++ cap) u H (fun v _ => v = c))) :
    StepOK P F B n ops O κ o d (.is c) := by
  rintro κ' a u hlk ⟨H, fp, hh⟩
  unfold After
  rw [if_pos (wanted_gK hh hlk hg)]
  have e := hh.env hlk
  have hfe : a.eval fo = .func (.func f) #[] cap.toArray := e.is_ fo _ (by simp [hop, Op.operands, Call.operands]) hf
  obtain ⟨hown, hM⟩ := e.own_ q r (by simpa using opsHas_mem hm) hq
  have hle : H.Le (joinH H u (fp q)) := joinH_le fun k hk => (hM k hk).2.1
  have e1 : Env F B O (upd κ q (.sat φ)) o a u (joinH H u (fp q)) fp := by
    refine ⟨fun x v hx hv => ?_, fun t ψ ht hk => ?_, fun t r' ht hk => ?_, joinH_sub hh.sub, fun k v hv => hle _ _ (hh.base _ _ hv), fun y hy => ?_, hh.keep⟩
    · refine e.is_ x v hx ?_
      cases x with
      | tmp t =>
        simp only [evK] at hv ⊢
        by_cases htq : t = q
        · subst htq; rw [upd_same] at hv; cases hv
        · rw [upd_other _ _ htq] at hv; exact hv
      | _ => exact hv
    · by_cases htq : t = q
      · subst htq; rw [upd_same] at hk; cases hk
        exact hl _ _ _ _ hown
      · rw [upd_other _ _ htq] at hk
        have hk' : κ' t = some (.sat ψ) := (hlk t (looks_of ht)).trans hk
        exact hh.mono t _ hk' _ _ _ (e.sat_ t ψ ht hk) hle
    · by_cases htq : t = q
      · subst htq; rw [upd_same] at hk; cases hk
      · rw [upd_other _ _ htq] at hk
        obtain ⟨h1, h2⟩ := e.own_ t r' ht hk
        have hk' : κ' t = some (.own r') := (hlk t (looks_of ht)).trans hk
        have hq' : κ' q = some (.own r) := (hlk q (looks_of (by simpa using opsHas_mem hm))).trans hq
        refine ⟨r'.st h1 hle (joinH_sub hh.sub) ⟨rfl, rfl, rfl, Nat.le_refl _, Nat.le_refl _⟩ fun _ _ => rfl, fun k hk2 => ?_⟩
        obtain ⟨g1, g2, g3, g4⟩ := h2 k hk2
        exact ⟨g1, (joinH_out (hh.owns t q r' r htq hk' hq' k hk2)).trans g2, g3, g4⟩
    · obtain ⟨h1, h2, h3⟩ := e.boxes y hy
      exact ⟨h1, (joinH_out fun hc => (hM _ hc).2.2.2 y hy rfl).trans h2, h3⟩
  have hc := Args.use e1 args.toList [] (fun x hx => by simp [hop, Op.operands, Call.operands] at hx ⊢; exact .inr hx) (h u (joinH H u (fp q)) e1.sub e1.base (Below.refl _ _))
  simp only [List.reverse_nil, List.nil_append] at hc
  rw [run_call L hop hfe hfn]
  simp only [Upon]
  refine Calls.mono hc fun e' u' hp => ?_
  obtain ⟨v, rfl, H', g', hv⟩ := hp
  refine ⟨v, rfl, ?_⟩
  simp only [hd]
  have g2 : Grow noL u H u' H := ⟨g'.keep, fun k x hx => by
    have h1 := hh.sub _ _ hx
    exact (g'.keep.block k (size_of_heap h1) fun h => h).trans h1, Heap.Le.refl _, fun _ _ _ => rfl⟩
  exact ⟨H, fp, (hh.grow g2).put (k := .is c) hn trivial hv⟩
theorem RetO.toRet {P : Program} {f : FuncId} {args : List Value} {w : World} {B : Heap} {r : Res} {φ : Value → Heap → Prop} (h : RetO P f args w B r) (hl : Lend r φ) : Ret P f args w B φ :=
  Calls.mono h fun _ u ⟨v, he, H, g, C, h1, h2⟩ => ⟨v, he, joinH H u C, ⟨g.keep, joinH_sub g.sub, fun k x hx => joinH_le (fun k hk => (h2 k hk).2.2) _ _ (g.le _ _ hx), fun k hk hn => (joinH_out fun hc => by have := (h2 k hc).1; omega).trans (g.fresh k hk hn)⟩, hl _ _ _ _ h1⟩
theorem V_enterO {f : FuncId} {fn : Func} {c : Code} {args : List Value} {w : World} {B : Heap} {r : Res} (hf : P.funcs[f]? = some fn) (hb : fn.body = some c) (hn : fn.ntmps = n)
    (hs : args.length ≤ n) (hB : B.Le (hp w)) (h : V P (Fr.pure w) B n [] (argsK 0 args) c (bodyPostM Fence.wide 0 P fn (PostL w B noL (OwnP w r)))) : RetO P f args w B r :=
  calls_of_V hf hb (h _ w ⟨B, fun _ => noL, by subst hn; exact has_enter noL (fun _ h => h.elim) hs hB _⟩)
theorem Has.nilE {t : Nat} (e : TypeId) (s : Nat) (hk : κ t = some (.is (.slice none 0 0))) (h : Has F B O n κ a u) : Has F B O n (upd κ t (.own (SlE e s 0 []))) a u := by
  obtain ⟨H, fp, h⟩ := h
  exact ⟨H, _, h.putR (C := noL) rfl rfl (fun _ _ => rfl) ⟨by simp, .inl ⟨rfl, h.slot t _ hk, fun _ h => h⟩⟩ (fun _ h => h.elim) fun _ _ _ _ _ _ h => h⟩
theorem V_nilE (t : Nat) (e : TypeId) (s : Nat) {c : Code} (hk : κ t = some (.is (.slice none 0 0))) (h : V P F B n O (upd κ t (.own (SlE e s 0 []))) c Q) : V P F B n O κ c Q := fun a u hh => h a u (hh.nilE e s hk)
end
end Go.V
/- The kit's twentieth floor: variables of the call's own that are held beside their slots: their fields' addresses are taken, in whatever order. -/
namespace Go.V
open Go.RowKit
/-- A variable of which the number is known: what it holds. -/
def HeldR (b : Nat) (cs : List Value) (ty : TypeId) : Res where
  P _ _ u C := u.heap[b]? = some (.cells cs.toArray ty) ∧ ∀ k, C k ↔ k = b
  st := fun ⟨h1, h2⟩ _ _ _ hk => ⟨(hk b ((h2 b).2 rfl)).trans h1, h2⟩
section
variable {P : Program} {F : Fr} {B : Heap} {O : Boxes} {n : Nat} {ops : Array Oper} {κ : Kap} {d : Nat} {ty : TypeId} {pos : String} {aft : Array Edge} {g : Option (Nat × Bool)} {a : Act} {u : World} {H : Heap} {fp : Nat → Nat → Prop} {os : List Oper} {Q : Exit → Act → World → Prop} {ex : Exs}
theorem Has.hold {t q : Nat} {cs : List Value} {ty : TypeId} (hk : κ t = some (.own (Cell cs ty))) (h : Has F B O n κ a u) : ∃ b, Has F B O n (upd (upd (upd κ t nilK) q (.own (HeldR b cs ty))) t (.is (.pointer (some ⟨b, 0, none⟩)))) a u := by
  obtain ⟨H, fp, h⟩ := h
  obtain ⟨⟨b, hv, hb, hC⟩, hM⟩ := h.slot t _ hk
  have h2 := h.usePut (d := q) (a' := a) (r' := HeldR b cs ty) (C := fp t) hk ⟨Keep.refl _ _, h.sub, Heap.Le.refl _, fun _ _ _ => rfl⟩ rfl rfl (fun _ _ => rfl) ⟨hb, hC⟩ fun k hk => ⟨.inl hk, (hM k hk).1, (hM k hk).2.1⟩
  have h3 := h2.name t
  rw [hv] at h3
  exact ⟨b, H, _, h3⟩
theorem Has.release {t q b : Nat} {cs : List Value} {ty : TypeId} (hk : κ q = some (.own (HeldR b cs ty))) (ht : κ t = some (.is (.pointer (some ⟨b, 0, none⟩)))) (h : Has F B O n κ a u) : Has F B O n (upd (upd κ q nilK) t (.own (Cell cs ty))) a u := by
  obtain ⟨H, fp, h⟩ := h
  obtain ⟨⟨hb, hC⟩, hM⟩ := h.slot q _ hk
  have hx : a.eval (.tmp t) = .pointer (some ⟨b, 0, none⟩) := h.slot t _ ht
  exact ⟨H, _, h.usePut (d := t) (a' := a) (r' := Cell cs ty) (C := fp q) hk ⟨Keep.refl _ _, h.sub, Heap.Le.refl _, fun _ _ _ => rfl⟩ rfl rfl (fun _ _ => rfl) ⟨b, hx, hb, hC⟩ fun k hk => ⟨.inl hk, (hM k hk).1, (hM k hk).2.1⟩⟩
theorem V_hold (t q : Nat) {cs : List Value} {ty : TypeId} {c : Code} (hk : κ t = some (.own (Cell cs ty))) (h : ∀ b, V P F B n O (upd (upd (upd κ t nilK) q (.own (HeldR b cs ty))) t (.is (.pointer (some ⟨b, 0, none⟩)))) c Q) : V P F B n O κ c Q := fun a u hh => let ⟨b, h'⟩ := hh.hold (q := q) hk; h b a u h'
theorem V_release (t q : Nat) {b : Nat} {cs : List Value} {ty : TypeId} {c : Code} (hk : κ q = some (.own (HeldR b cs ty))) (ht : κ t = some (.is (.pointer (some ⟨b, 0, none⟩)))) (h : V P F B n O (upd (upd κ q nilK) t (.own (Cell cs ty))) c Q) : V P F B n O κ c Q := fun a u hh => h a u (hh.release hk ht)
theorem N_release (t q : Nat) {b : Nat} {cs : List Value} {ty : TypeId} (hk : κ q = some (.own (HeldR b cs ty))) (ht : κ t = some (.is (.pointer (some ⟨b, 0, none⟩)))) (h : N F B n O (upd (upd κ q nilK) t (.own (Cell cs ty))) Q) : N F B n O κ Q := fun a u hh => h a u (hh.release hk ht)
/-- An operation that reads what a slot beside its operands holds. -/
def StepOKR (P : Program) (F : Fr) (B : Heap) (n : Nat) (ops : Array Oper) (O : Boxes) (κ : Kap) (o : Oper) (q d : Nat) (k : Kn) : Prop :=
  ∀ κ' a u, (∀ t ∈ o.looksAt ops, κ' t = κ t) → κ' q = κ q → Has F B O n κ' a u → After P ops o (fun a' u' => Has F B O n (upd κ' d k) a' u') a u
theorem vo_stepR {o : Oper} {q d : Nat} {k : Kn} (hs : StepOKR P F B n ops O κ o q d k) (h : VO P F B n O ops (upd κ d k) os Q) : VO P F B n O ops κ (o :: os) Q :=
  fun a u hh => After.mono (fun a' u' hh' => h a' u' hh') (hs κ a u (fun _ _ => rfl) rfl hh)
theorem par_stepR {o : Oper} {q d : Nat} {k : Kn} (hs : StepOKR P F B n ops O κ o q d k) (hd : vd o = some d) (he : (exR ex o).contains q = true) (h : Par P F B n O ops ex (upd κ d k) os Q) : Par P F B n O ops ex κ (o :: os) Q := by
  have hm : q ∈ exR ex o := by simpa using he
  refine ⟨[(d, k)], fun p hp => ?_, fun κ' a u hl hh => hs κ' a u (fun t ht => hl t (List.mem_append_left _ ht)) (hl q (List.mem_append_right _ (List.mem_append_right _ hm))) hh, h⟩
  simp only [List.mem_cons, List.mem_nil_iff, or_false] at hp
  subst hp
  exact List.mem_append_left _ (by simp [hd])
/-- An operation that turns what a slot beside its operands holds. -/
def StepOKS (P : Program) (F : Fr) (B : Heap) (n : Nat) (ops : Array Oper) (O : Boxes) (κ : Kap) (o : Oper) (q : Nat) (k : Kn) : Prop :=
  ∀ κ' a u, (∀ t ∈ o.looksAt ops, κ' t = κ t) → κ' q = κ q → Has F B O n κ' a u → After P ops o (fun a' u' => Has F B O n (upd κ' q k) a' u') a u
theorem vo_stepS {o : Oper} {q : Nat} {k : Kn} (hs : StepOKS P F B n ops O κ o q k) (h : VO P F B n O ops (upd κ q k) os Q) : VO P F B n O ops κ (o :: os) Q :=
  fun a u hh => After.mono (fun a' u' hh' => h a' u' hh') (hs κ a u (fun _ _ => rfl) rfl hh)
theorem par_stepS {o : Oper} {q : Nat} {k : Kn} (hs : StepOKS P F B n ops O κ o q k) (he : (exO ex o).contains q = true) (h : Par P F B n O ops ex (upd κ q k) os Q) : Par P F B n O ops ex κ (o :: os) Q := by
  have hm : q ∈ exO ex o := by simpa using he
  refine ⟨[(q, k)], fun p hp => ?_, fun κ' a u hl hh => hs κ' a u (fun t ht => hl t (List.mem_append_left _ ht)) (hl q (List.mem_append_right _ (List.mem_append_left _ hm))) hh, h⟩
  simp only [List.mem_cons, List.mem_nil_iff, or_false] at hp
  subst hp
  exact List.mem_append_right _ hm
theorem lend_at {r : Res} {φ : Value → Heap → Prop} {x : Value} (h : Lend r φ) : ∀ v H u C, (AtV x r).P v H u C → φ x (joinH H u C) := fun _ H u C hp => h x H u C hp
theorem lend_held {b m : Nat} {e : TypeId} {s : Nat} {xs : List Value} (hl : xs.length = m * s) : ∀ v H u C, (HeldR b xs e).P v H u C → SlV e s xs m true (.slice (some ⟨b, 0, none⟩) m m) (joinH H u C) := fun _ H u C ⟨hb, hC⟩ =>
  ⟨hl, .inr ⟨b, 0, m, _, _, _, rfl, (joinH_in ((hC b).2 rfl)).trans hb, by simp, Nat.le_refl _, fun _ => rfl⟩⟩
/-- A call to which is lent what a slot beside its operands owns. -/
theorem ok_callLendG (L : Tabs P) (q : Nat) {r : Res} {Φ : Heap → Prop} {o : Oper} {d f : Nat} {args : Array Operand} {at_ : Array TypeId} {cap : List Value} {c : Value} {fo : Operand}
    (hop : o.op = .call { callee := .value fo, args := args, argTypes := at_ }) (hd : o.dst = some d) (hn : d < n) (hg : gK ops κ o = some true)
    (hf : evK κ fo = some (.func (.func f) #[] cap.toArray)) (hfn : L.fn f = some ()) (hq : κ q = some (.own r)) (hm : opsHas q o.op.operands.toList = false) (hl : ∀ v H u C, r.P v H u C → Φ (joinH H u C))
    (h : ∀ u H, H.Le (hp u) → B.Le H → Φ H → Args κ H args.toList [] (fun vs => Ret P f (vs ++ cap) u H (fun v _ => v = c))) :
    StepOKR P F B n ops O κ o q d (.is c) := by
  rintro κ' a u hlk hqk ⟨H, fp, hh⟩
  unfold After
  rw [if_pos (wanted_gK hh hlk hg)]
  have e := hh.env hlk
  have hfe : a.eval fo = .func (.func f) #[] cap.toArray := e.is_ fo _ (by simp [hop, Op.operands, Call.operands]) hf
  obtain ⟨hown, hM⟩ := hh.slot q _ (hqk.trans hq)
  have hle : H.Le (joinH H u (fp q)) := joinH_le fun k hk => (hM k hk).2.1
  have hqo : ∀ t, Operand.tmp t ∈ o.op.operands → t ≠ q := fun t ht e => by
    subst e
    have : opsHas t o.op.operands.toList = true := List.any_eq_true.2 ⟨Operand.tmp t, by simpa using ht, Nat.beq_refl t⟩
    rw [this] at hm; cases hm
  have e1 : Env F B O κ o a u (joinH H u (fp q)) fp := by
    refine ⟨e.is_, fun t ψ ht hk => ?_, fun t r' ht hk => ?_, joinH_sub hh.sub, fun k v hv => hle _ _ (hh.base _ _ hv), fun y hy => ?_, hh.keep⟩
    · have hk' : κ' t = some (.sat ψ) := (hlk t (looks_of ht)).trans hk
      exact hh.mono t _ hk' _ _ _ (e.sat_ t ψ ht hk) hle
    · obtain ⟨h1, h2⟩ := e.own_ t r' ht hk
      have hk' : κ' t = some (.own r') := (hlk t (looks_of ht)).trans hk
      refine ⟨r'.st h1 hle (joinH_sub hh.sub) ⟨rfl, rfl, rfl, Nat.le_refl _, Nat.le_refl _⟩ fun _ _ => rfl, fun k hk2 => ?_⟩
      obtain ⟨g1, g2, g3, g4⟩ := h2 k hk2
      exact ⟨g1, (joinH_out (hh.owns t q r' _ (hqo t ht) hk' (hqk.trans hq) k hk2)).trans g2, g3, g4⟩
    · obtain ⟨h1, h2, h3⟩ := e.boxes y hy
      exact ⟨h1, (joinH_out fun hc => (hM _ hc).2.2.2 y hy rfl).trans h2, h3⟩
  have hc := Args.use e1 args.toList [] (fun x hx => by simp [hop, Op.operands, Call.operands] at hx ⊢; exact .inr hx) (h u (joinH H u (fp q)) e1.sub e1.base (hl _ _ _ _ hown))
  simp only [List.reverse_nil, List.nil_append] at hc
  rw [run_call L hop hfe hfn]
  simp only [Upon]
  refine Calls.mono hc fun e' u' hp => ?_
  obtain ⟨v, rfl, H', g', hv⟩ := hp
  refine ⟨v, rfl, ?_⟩
  simp only [hd]
  have g2 : Grow noL u H u' H := ⟨g'.keep, fun k x hx => by
    have h1 := hh.sub _ _ hx
    exact (g'.keep.block k (size_of_heap h1) fun h => h).trans h1, Heap.Le.refl _, fun _ _ _ => rfl⟩
  exact ⟨H, fp, (hh.grow g2).put (k := .is c) hn trivial hv⟩
theorem ok_loadHA (L : Tabs P) {x : Operand} {q b : Nat} {t t' : TypeId} {s off : Nat} {cs vs : List Value} (hx : evK κ x = some (.pointer (some ⟨b, off, none⟩))) (hq : κ q = some (.own (HeldR b cs t'))) (hn : Nat.blt d n = true) (hg : gK ops κ ⟨some d, .load t x, ty, pos, aft, g⟩ = some true)
    (hl : L.ld t = some (true, s)) (hlen : vs.length = s) (hc : ∃ r, cs.drop off = vs ++ r) : StepOKR P F B n ops O κ ⟨some d, .load t x, ty, pos, aft, g⟩ q d (.is (.agg vs.toArray)) := by
  rintro κ' a u hlk hqk ⟨H, fp, hh⟩
  unfold After
  rw [if_pos (wanted_gK hh hlk hg)]
  have e := hh.env hlk
  have h1 := e.is_ x _ (by simp [Op.operands]) hx
  obtain ⟨⟨h2, hC⟩, hM⟩ := hh.slot q _ (hqk.trans hq)
  obtain ⟨r, hc⟩ := hc
  have hrun : (execOp a.eval ⟨some d, .load t x, ty, pos, aft, g⟩).run P u = .ok (.value (.agg vs.toArray)) u := by
    simp only [execOp, h1, Instr.loadAt, Instr.sureAddr, Sem.run_bind, Sem.run_pure, Result.andThen_ok]
    rw [run_loadVar_agg (Tabs.ld_spec hl) u _ vs hlen (fun j v hj => by
      have h3 : cs[off + j]? = some v := by
        have := congrArg (·[j]?) hc
        simp only [List.getElem?_drop] at this
        rw [this, List.getElem?_append_left (by
          rcases Nat.lt_or_ge j vs.length with h | h
          · exact h
          · rw [List.getElem?_eq_none h] at hj; cases hj)]
        exact hj
      show u.cell? (Addr.add ⟨b, off, none⟩ j) = some v
      have : Addr.add ⟨b, off, none⟩ j = ⟨b, off + j, none⟩ := by simp [Addr.add]
      rw [this, cell_of_heap h2]; simpa using h3)]
    rfl
  rw [hrun]
  simp only [Upon]
  exact ⟨H, fp, hh.put (k := .is (.agg vs.toArray)) (blt_lt hn) trivial rfl⟩
theorem ok_loadH1 (L : Tabs P) {x : Operand} {q b : Nat} {t t' : TypeId} {s off : Nat} {cs r : List Value} {v : Value} (hx : evK κ x = some (.pointer (some ⟨b, off, none⟩))) (hq : κ q = some (.own (HeldR b cs t'))) (hn : Nat.blt d n = true) (hg : gK ops κ ⟨some d, .load t x, ty, pos, aft, g⟩ = some true)
    (hl : L.ld t = some (false, s)) (hc : cs.drop off = v :: r) : StepOKR P F B n ops O κ ⟨some d, .load t x, ty, pos, aft, g⟩ q d (.is v) := by
  rintro κ' a u hlk hqk ⟨H, fp, hh⟩
  unfold After
  rw [if_pos (wanted_gK hh hlk hg)]
  have e := hh.env hlk
  have h1 := e.is_ x _ (by simp [Op.operands]) hx
  obtain ⟨⟨h2, hC⟩, hM⟩ := hh.slot q _ (hqk.trans hq)
  have h3 : cs[off]? = some v := by
    have := congrArg (·[0]?) hc
    simpa using this
  have hrun : (execOp a.eval ⟨some d, .load t x, ty, pos, aft, g⟩).run P u = .ok (.value v) u := by
    simp only [execOp, h1, Instr.loadAt, Instr.sureAddr, Sem.run_bind, Sem.run_pure, Result.andThen_ok]
    rw [run_loadVar_one (Tabs.ld_spec hl) u _ v (by rw [cell_of_heap h2]; simpa using h3)]
    rfl
  rw [hrun]
  simp only [Upon]
  exact ⟨H, fp, hh.put (k := .is v) (blt_lt hn) trivial rfl⟩
theorem ok_storeH (L : Tabs P) {t t' : TypeId} {ag : Bool} {z b off q : Nat} {p x : Operand} {v : Value} {cs cs' : List Value} (hg : gK ops κ ⟨none, .store t p x, ty, pos, aft, g⟩ = some true) (hp : evK κ p = some (.pointer (some ⟨b, off, none⟩))) (hq : κ q = some (.own (HeldR b cs t'))) (hx : evK κ x = some v)
    (hl : L.ld t = some (ag, z)) (hlen : (cellsL v).length = z) (hcs : Nat.ble (off + z) cs.length = true) (hpl : (cellsL v).all plainV = true) (hr : cs.take off ++ (cellsL v ++ cs.drop (off + z)) = cs') :
    StepOKS P F B n ops O κ ⟨none, .store t p x, ty, pos, aft, g⟩ q (.own (HeldR b cs' t')) := by
  rintro κ' a u hlk hqk ⟨H, fp, hh⟩
  subst hr
  unfold After
  rw [if_pos (wanted_gK hh hlk hg)]
  have e := hh.env hlk
  have hev := e.is_ x v (by simp [Op.operands]) hx
  have hes := e.is_ p _ (by simp [Op.operands]) hp
  have hqs := hqk.trans hq
  obtain ⟨⟨hb, hC⟩, hM⟩ := hh.slot q _ hqs
  have hrun : (execOp a.eval ⟨none, .store t p x, ty, pos, aft, g⟩).run P u = .ok .skip (u.setRow b (cs.take off ++ (cellsL v ++ cs.drop (off + z))).toArray) := by
    simp only [execOp, hes, hev, Instr.storeAt, Instr.sureAddr, Sem.run_bind, Sem.run_pure, Result.andThen_ok]
    have := run_storeVar_at (P := P) (off := off) (Tabs.ld_spec hl) hb hlen (Nat.le_of_ble_eq_true hcs) hpl
    rw [this]
    simp
  rw [hrun]
  simp only [Upon, Act.put]
  have hset := setRow_heap u b cs.toArray (cs.take off ++ (cellsL v ++ cs.drop (off + z))).toArray t' (0, 0) hb
  have hbm := hM b ((hC b).2 rfl)
  have := hh.usePut (d := q) (a' := a) (r' := HeldR b (cs.take off ++ (cellsL v ++ cs.drop (off + z))) t') (C := fun k => k = b) hqs (grow_setRow hh.sub hb ((hC b).2 rfl) hbm.2.1 _) rfl rfl (fun _ _ => rfl) ⟨hset, fun _ => Iff.rfl⟩ (fun k hk => by
    subst hk; exact ⟨.inl ((hC k).2 rfl), by rw [setRow_size]; exact hbm.1, hbm.2.1⟩)
  rw [upd_upd] at this
  exact ⟨H, _, this⟩
/-- The block of an owned slice is held beside its slot. -/
theorem V_holdE (t q : Nat) {e : TypeId} {s m : Nat} {xs : List Value} {c : Code} (hm : 0 < m) (hk : κ t = some (.own (SlE e s m xs)))
    (h : ∀ b, xs.length = m * s → V P F B n O (upd (upd (upd κ t nilK) q (.own (HeldR b xs e))) t (.is (.slice (some ⟨b, 0, none⟩) m m))) c Q) : V P F B n O κ c Q := fun a u hh => by
  obtain ⟨H, fp, hh⟩ := hh
  obtain ⟨⟨hl, hv⟩, hM⟩ := hh.slot t _ hk
  rcases hv with ⟨h0, _, _⟩ | ⟨b, hv, hb, h4, hC⟩
  · omega
  · have h2 := hh.usePut (d := q) (a' := a) (r' := HeldR b xs e) (C := fp t) hk ⟨Keep.refl _ _, hh.sub, Heap.Le.refl _, fun _ _ _ => rfl⟩ rfl rfl (fun _ _ => rfl) ⟨hb, hC⟩ fun k hk => ⟨.inl hk, (hM k hk).1, (hM k hk).2.1⟩
    have h3 := h2.name t
    rw [hv] at h3
    exact h b hl a u ⟨H, _, h3⟩
theorem SlE.shape {e : TypeId} {s m : Nat} {xs : List Value} : ∀ v H u C, (SlE e s m xs).P v H u C → ∃ p, v = .slice p m m := fun v _ _ _ ⟨_, h⟩ => by
  rcases h with ⟨rfl, rfl, _⟩ | ⟨b, rfl, _⟩
  · exact ⟨_, rfl⟩
  · exact ⟨_, rfl⟩
/-! ### what is held being known by what it satisfies -/
def HeldX (b : Nat) (ty : TypeId) (Φ : List Value → Heap → Prop) (hΦ : MonoX Φ) : Res := ExR (fun cs => HeldR b cs ty) Φ hΦ
theorem ok_loadXA (L : Tabs P) {x : Operand} {q b : Nat} {t t' : TypeId} {s off : Nat} {vs : List Value} {Φ : List Value → Heap → Prop} {hΦ : MonoX Φ} (hx : evK κ x = some (.pointer (some ⟨b, off, none⟩))) (hq : κ q = some (.own (HeldX b t' Φ hΦ))) (hn : Nat.blt d n = true) (hg : gK ops κ ⟨some d, .load t x, ty, pos, aft, g⟩ = some true)
    (hl : L.ld t = some (true, s)) (hlen : vs.length = s) (hc : ∀ cs H, Φ cs H → ∃ r, cs.drop off = vs ++ r) : StepOKR P F B n ops O κ ⟨some d, .load t x, ty, pos, aft, g⟩ q d (.is (.agg vs.toArray)) := by
  rintro κ' a u hlk hqk ⟨H, fp, hh⟩
  unfold After
  rw [if_pos (wanted_gK hh hlk hg)]
  have e := hh.env hlk
  have h1 := e.is_ x _ (by simp [Op.operands]) hx
  obtain ⟨⟨cs, hcs, h2, hC⟩, hM⟩ := hh.slot q _ (hqk.trans hq)
  obtain ⟨r, hc⟩ := hc cs H hcs
  have hrun : (execOp a.eval ⟨some d, .load t x, ty, pos, aft, g⟩).run P u = .ok (.value (.agg vs.toArray)) u := by
    simp only [execOp, h1, Instr.loadAt, Instr.sureAddr, Sem.run_bind, Sem.run_pure, Result.andThen_ok]
    rw [run_loadVar_agg (Tabs.ld_spec hl) u _ vs hlen (fun j v hj => by
      have h3 : cs[off + j]? = some v := by
        have := congrArg (·[j]?) hc
        simp only [List.getElem?_drop] at this
        rw [this, List.getElem?_append_left (by
          rcases Nat.lt_or_ge j vs.length with h | h
          · exact h
          · rw [List.getElem?_eq_none h] at hj; cases hj)]
        exact hj
      show u.cell? (Addr.add ⟨b, off, none⟩ j) = some v
      have : Addr.add ⟨b, off, none⟩ j = ⟨b, off + j, none⟩ := by simp [Addr.add]
      rw [this, cell_of_heap h2]; simpa using h3)]
    rfl
  rw [hrun]
  simp only [Upon]
  exact ⟨H, fp, hh.put (k := .is (.agg vs.toArray)) (blt_lt hn) trivial rfl⟩
/-- What is stored is known by what it satisfies. -/
def StP (Φ : List Value → Heap → Prop) (φ : Value → Heap → Prop) (off z : Nat) : List Value → Heap → Prop := fun cs' H => ∃ cs v, Φ cs H ∧ φ v H ∧ cs' = cs.take off ++ (cellsL v ++ cs.drop (off + z))
theorem StP.mono {Φ : List Value → Heap → Prop} {φ : Value → Heap → Prop} {off z : Nat} (h1 : MonoX Φ) (h2 : Kn.mono (.sat φ)) : MonoX (StP Φ φ off z) := fun _ _ _ ⟨cs, v, a1, a2, a3⟩ hle => ⟨cs, v, h1 _ _ _ a1 hle, h2 _ _ _ a2 hle, a3⟩
theorem ok_storeXX (L : Tabs P) {t t' : TypeId} {ag : Bool} {z b off q w : Nat} {p : Operand} {φ : Value → Heap → Prop} {Φ : List Value → Heap → Prop} {hΦ : MonoX Φ} (hm : Kn.mono (.sat φ)) (hg : gK ops κ ⟨none, .store t p (.tmp w), ty, pos, aft, g⟩ = some true) (hp : evK κ p = some (.pointer (some ⟨b, off, none⟩))) (hq : κ q = some (.own (HeldX b t' Φ hΦ))) (hx : κ w = some (.sat φ))
    (hl : L.ld t = some (ag, z)) (hv : ∀ v H, φ v H → (cellsL v).length = z ∧ (cellsL v).all plainV = true) (hcs : ∀ cs H, Φ cs H → off + z ≤ cs.length) :
    StepOKS P F B n ops O κ ⟨none, .store t p (.tmp w), ty, pos, aft, g⟩ q (.own (HeldX b t' (StP Φ φ off z) (StP.mono hΦ hm))) := by
  rintro κ' a u hlk hqk ⟨H, fp, hh⟩
  unfold After
  rw [if_pos (wanted_gK hh hlk hg)]
  have e := hh.env hlk
  have hev := e.sat_ w φ (by simp [Op.operands]) hx
  have hes := e.is_ p _ (by simp [Op.operands]) hp
  have hqs := hqk.trans hq
  obtain ⟨⟨cs, hcs', hb, hC⟩, hM⟩ := hh.slot q _ hqs
  have hlc := hcs cs H hcs'
  generalize hv' : a.eval (.tmp w) = v at hev
  obtain ⟨hlen, hpl⟩ := hv v H hev
  have hrun : (execOp a.eval ⟨none, .store t p (.tmp w), ty, pos, aft, g⟩).run P u = .ok .skip (u.setRow b (cs.take off ++ (cellsL v ++ cs.drop (off + z))).toArray) := by
    simp only [execOp, hes, hv', Instr.storeAt, Instr.sureAddr, Sem.run_bind, Sem.run_pure, Result.andThen_ok]
    have := run_storeVar_at (P := P) (off := off) (Tabs.ld_spec hl) hb hlen hlc hpl
    rw [this]
    simp
  rw [hrun]
  simp only [Upon, Act.put]
  have hset := setRow_heap u b cs.toArray (cs.take off ++ (cellsL v ++ cs.drop (off + z))).toArray t' (0, 0) hb
  have hbm := hM b ((hC b).2 rfl)
  have := hh.usePut (d := q) (a' := a) (r' := HeldX b t' (StP Φ φ off z) (StP.mono hΦ hm)) (C := fun k => k = b) hqs (grow_setRow hh.sub hb ((hC b).2 rfl) hbm.2.1 _) rfl rfl (fun _ _ => rfl) ⟨_, ⟨cs, v, hcs', hev, rfl⟩, hset, fun _ => Iff.rfl⟩ (fun k hk => by
    subst hk; exact ⟨.inl ((hC k).2 rfl), by rw [setRow_size]; exact hbm.1, hbm.2.1⟩)
  rw [upd_upd] at this
  exact ⟨H, _, this⟩
theorem V_holdX (t q : Nat) {cs : List Value} {ty : TypeId} {c : Code} (hk : κ t = some (.own (Cell cs ty))) (h : ∀ b, V P F B n O (upd (upd (upd κ t nilK) q (.own (HeldX b ty (fun c _ => c = cs) (fun _ _ _ h _ => h)))) t (.is (.pointer (some ⟨b, 0, none⟩)))) c Q) : V P F B n O κ c Q := fun a u hh => by
  obtain ⟨H, fp, hh⟩ := hh
  obtain ⟨⟨b, hv, hb, hC⟩, hM⟩ := hh.slot t _ hk
  have h2 := hh.usePut (d := q) (a' := a) (r' := HeldX b ty (fun c _ => c = cs) (fun _ _ _ h _ => h)) (C := fp t) hk ⟨Keep.refl _ _, hh.sub, Heap.Le.refl _, fun _ _ _ => rfl⟩ rfl rfl (fun _ _ => rfl) ⟨cs, rfl, hb, hC⟩ fun k hk => ⟨.inl hk, (hM k hk).1, (hM k hk).2.1⟩
  have h3 := h2.name t
  rw [hv] at h3
  exact h b a u ⟨H, _, h3⟩
theorem V_releaseX (t q : Nat) {b : Nat} {ty : TypeId} {Φ : List Value → Heap → Prop} {hΦ : MonoX Φ} {c : Code} (hk : κ q = some (.own (HeldX b ty Φ hΦ))) (ht : κ t = some (.is (.pointer (some ⟨b, 0, none⟩)))) (hne : t ≠ q) (h : ∀ cs H, Since F B H → Φ cs H → V P F H n O (upd (upd (upd κ q (.own (HeldR b cs ty))) q nilK) t (.own (Cell cs ty))) c Q) : V P F B n O κ c Q :=
  V_opnX q hk fun cs H hs hcs => V_release t q (upd_same _ _ _) ((upd_other _ _ hne).trans ht) (h cs H hs hcs)
/-! ### what is appended to nothing; a call to which is shown what a slot owns -/
theorem ok_append0 (L : Tabs P) {t e : TypeId} {x y : Operand} {s by_ m : Nat} {news : List Value} (hn : Nat.blt d n = true) (hg : gK ops κ ⟨some d, .call ⟨.builtin .append, #[x, y], #[t, t]⟩, ty, pos, aft, g⟩ = some true)
    (hx : evK κ x = some (.slice none 0 0)) (hy : Apd F B O κ y m news) (ht : L.sl t = some e) (he : elI P e = some (s, by_)) (hl : news.length = m * s) (h1 : news.all plainV = true) (hb : m * by_ ≤ 140737488355328) (h63 : m ≤ 9223372036854775807) :
    StepOK P F B n ops O κ ⟨some d, .call ⟨.builtin .append, #[x, y], #[t, t]⟩, ty, pos, aft, g⟩ d (.own (SlR e s m news)) := by
  rintro κ' a u hlk ⟨H, fp, hh⟩
  unfold After
  rw [if_pos (wanted_gK hh hlk hg)]
  have en := hh.env hlk
  obtain ⟨i, z, hi, hz, hs1, hs2, hs3, hs4⟩ := elI_spec he
  have hxe := en.is_ x _ (by simp [Op.operands, Call.operands]) hx
  obtain ⟨x', u', C', hr, hown', hgr, hC'⟩ := appendR (C := noL) (xs := []) (nn := 0) (x := .slice none 0 0) u (aty := ty) (Tabs.sl_spec ht) hi hz hs1 hs2 hs3 hs4 hh.sub ⟨by simp, .inl ⟨rfl, rfl, fun _ h => h⟩⟩ (fun k hk => hk.elim) (hy _ a u H fp (by simp [Op.operands, Call.operands]) en) hl (fun v hv => plain_one (List.all_eq_true.1 h1 v hv)) (by omega) (by rw [Nat.zero_add]; exact hb)
  rw [Nat.zero_add, List.nil_append] at hown'
  have hrun : (execOp a.eval ⟨some d, .call ⟨.builtin .append, #[x, y], #[t, t]⟩, ty, pos, aft, g⟩).run P u = .ok (.value x') u' := by
    simp only [execOp, resolve, invoke, builtin, Sem.run_bind, Sem.run_pure, Result.andThen_ok, List.map_toArray, List.map_cons, List.map_nil, hxe, hr]
  rw [hrun]
  simp only [Upon]
  have h2 := hh.grow hgr
  refine ⟨H, _, h2.putR (C := C') (by simp [Act.put]) rfl (fun t ht => eval_put_other ht) (by rw [eval_put_same (by rw [hh.size]; exact blt_lt hn)]; exact hown') (fun k hk => ?_) fun t r' _ ht k hf hk => ?_⟩
  · obtain ⟨h3, h4, h5⟩ := hC' k hk
    have h3' : u.heap.size ≤ k := h3.resolve_left fun h => h
    exact ⟨h4, h5, .inl (Nat.le_trans hh.keep.size h3'), fun y hy e => by have := size_of_heap (hh.boxes y hy).1; omega⟩
  · have h3' : u.heap.size ≤ k := (hC' k hk).1.resolve_left fun h => h
    have := ((hh.slot t _ ht).2 k hf).1
    omega
theorem ok_callPub (L : Tabs P) {q : Nat} {e : TypeId} {s m : Nat} {xs : List Value} {o : Oper} {d f : Nat} {args : Array Operand} {at_ : Array TypeId} {cap : List Value} {ψ : Value → Heap → Prop} {fo : Operand}
    (hop : o.op = .call { callee := .value fo, args := args, argTypes := at_ }) (hd : o.dst = some d) (hn : d < n) (hg : gK ops (upd κ q (.sat (SlV e s xs m false))) o = some true)
    (hf : evK (upd κ q (.sat (SlV e s xs m false))) fo = some (.func (.func f) #[] cap.toArray)) (hfn : L.fn f = some ()) (hq : κ q = some (.own (SlR e s m xs))) (hm : Kn.mono (.sat ψ))
    (h : ∀ u H, H.Le (hp u) → B.Le H → Below F.w0.heap.size F.w0 F.w0 → Args (upd κ q (.sat (SlV e s xs m false))) H args.toList [] (fun vs => Ret P f (vs ++ cap) u H ψ)) :
    StepOK2 P F B n ops O κ o q (.sat (SlV e s xs m false)) d (.sat ψ) := by
  intro κ' a u hlk hks hh
  have h1 := hh.pubR (hks.trans hq)
  refine ok_call L hop hd hn hg hf hfn hm h (upd κ' q (.sat (SlV e s xs m false))) a u (fun t ht => ?_) h1
  by_cases htq : t = q
  · subst htq; rw [upd_same, upd_same]
  · rw [upd_other _ _ htq, upd_other _ _ htq]; exact hlk t ht
end
end Go.V
/- The walks of tuples (chapter 2): check, order, texts, sorted lists. -/
namespace Go.V.L2
open Go.Proofs Go.RowKit Go.V
abbrev uv (t : U) : Value := .agg #[.string t.1.1.1, .string t.1.1.2, .string t.1.2, .string t.2.1.1, .string t.2.1.2, .string t.2.2]
abbrev tyU : TypeId := 81
/-- A slice of tuples that is seen. -/
abbrev US (l : List U) (fu : Bool) : Value → Heap → Prop := SlV tyU 6 (l.flatMap ucs) l.length fu
theorem us_at {l : List U} {i : Nat} {t : U} (h : l[i]? = some t) : ((l.flatMap ucs).drop (i * 6)).take 6 = [.string t.1.1.1, .string t.1.1.2, .string t.1.2, .string t.2.1.1, .string t.2.1.2, .string t.2.2] := flatMap_at ucs_len l i t h
attribute [local irreducible] V N X VO Par StepOK Has Ret RetL Src
theorem tcheck_ret {t : U} (hz : TZ t) {w : World} {B : Heap} (hB : B.Le (hp w)) : Ret Try.prog 53 [uv t] w B (fun v _ => v = .int .i64 (tE t)) := by
  obtain ⟨⟨z1, z2, z3⟩, z4, z5, z6⟩ := hz
  unfold tE
  refine V_enter Try.func53 rfl Try.ntmps53 (Nat.le_of_ble_eq_true rfl) hB ?_
  by_cases h : allE [t.1.1.1, t.1.1.2, t.1.2] = 0
  · rw [if_pos h]
    refine V_seq ?_; refine V_region (id := 0) ?_; refine vo_step (ok_box rfl rfl rfl rfl) rfl ?_; refine vo_step (ok_assign rfl rfl rfl) rfl ?_; refine vo_nil ?_; refine N_seq ?_; refine V_seq ?_; refine V_seq ?_; refine V_region (id := 1) ?_; refine vo_step (ok_fieldAt L rfl rfl rfl rfl) rfl ?_; refine vo_step (ok_loadA L (vs := [_, _, _]) (src_at rfl) rfl rfl rfl rfl ⟨_, rfl⟩) rfl ?_; refine vo_step (ok_callx L rfl rfl (blt_lt rfl) rfl rfl rfl (fun u H hH _ _ => goal_ret (by first | assumption | decide) (by first | assumption | decide) (by first | assumption | decide) hH)) rfl ?_; refine vo_step (ok_assign rfl rfl rfl) rfl ?_; refine vo_nil ?_; refine N_seq ?_; refine V_seq ?_; refine V_region (id := 2) ?_; refine vo_step (ok_move rfl rfl rfl) rfl ?_; refine vo_step (ok_neq rfl rfl rfl rfl (decide_eq_false (by omega))) rfl ?_; refine vo_nil ?_; refine N_seq ?_; refine V_false rfl ?_; refine V_skip ?_; refine N_seq ?_; refine V_seq ?_; refine V_region (id := 4) ?_; refine vo_step (ok_fieldAt L rfl rfl rfl rfl) rfl ?_; refine vo_step (ok_loadA L (vs := [_, _, _]) (src_at rfl) rfl rfl rfl rfl ⟨_, rfl⟩) rfl ?_; refine vo_step (ok_callx L rfl rfl (blt_lt rfl) rfl rfl rfl (fun u H hH _ _ => subject_ret (by first | assumption | decide) (by first | assumption | decide) (by first | assumption | decide) hH)) rfl ?_; refine vo_step (ok_assign rfl rfl rfl) rfl ?_; refine vo_nil ?_; refine N_seq ?_
    refine V_ret L (rs := [.tmp 2]) rfl (fun _ _ h => h) Since.refl fun u H hH hle => ?_
    rfl
  · rw [if_neg h]
    refine V_seq ?_; refine V_region (id := 0) ?_; refine vo_step (ok_box rfl rfl rfl rfl) rfl ?_; refine vo_step (ok_assign rfl rfl rfl) rfl ?_; refine vo_nil ?_; refine N_seq ?_; refine V_seq ?_; refine V_seq ?_; refine V_region (id := 1) ?_; refine vo_step (ok_fieldAt L rfl rfl rfl rfl) rfl ?_; refine vo_step (ok_loadA L (vs := [_, _, _]) (src_at rfl) rfl rfl rfl rfl ⟨_, rfl⟩) rfl ?_; refine vo_step (ok_callx L rfl rfl (blt_lt rfl) rfl rfl rfl (fun u H hH _ _ => goal_ret (by first | assumption | decide) (by first | assumption | decide) (by first | assumption | decide) hH)) rfl ?_; refine vo_step (ok_assign rfl rfl rfl) rfl ?_; refine vo_nil ?_; refine N_seq ?_; refine V_seq ?_; refine V_region (id := 2) ?_; refine vo_step (ok_move rfl rfl rfl) rfl ?_; refine vo_step (ok_neq rfl rfl rfl rfl (decide_eq_true (by omega))) rfl ?_; refine vo_nil ?_; refine N_seq ?_; refine V_true rfl ?_; refine V_seq ?_; refine V_region (id := 3) ?_; refine vo_step (ok_move rfl rfl rfl) rfl ?_; refine vo_step (ok_assign rfl rfl rfl) rfl ?_; refine vo_nil ?_; refine N_seq ?_
    refine V_ret L (rs := [.tmp 2]) rfl (fun _ _ h => h) Since.refl fun u H hH hle => ?_
    rfl
theorem tcmp_ret {a b : U} {w : World} {B : Heap} (hB : B.Le (hp w)) : Ret Try.prog 49 [uv a, uv b] w B (fun v _ => v = .int .i64 (cmpT a b)) := by
  refine V_enter Try.func49 rfl Try.ntmps49 (Nat.le_of_ble_eq_true rfl) hB ?_
  refine V_seq ?_; refine V_region (id := 0) ?_; refine vo_step (ok_box rfl rfl rfl rfl) rfl ?_; refine vo_step (ok_box rfl rfl rfl rfl) rfl ?_; refine vo_step (ok_assign rfl rfl rfl) rfl ?_; refine vo_nil ?_; refine N_seq ?_; refine V_seq ?_; refine V_regionD (id := 1) [] mixed (by kernel_rfl) ?_; refine par_step (ok_fieldAt L rfl rfl rfl rfl) rfl ?_; refine par_step (ok_loadA L (vs := [_, _, _]) (src_at rfl) rfl rfl rfl rfl ⟨_, rfl⟩) rfl ?_; refine par_step (ok_fieldAt L rfl rfl rfl rfl) rfl ?_; refine par_step (ok_loadA L (vs := [_, _, _]) (src_at rfl) rfl rfl rfl rfl ⟨_, rfl⟩) rfl ?_; refine par_step (ok_callx L rfl rfl (blt_lt rfl) rfl rfl rfl (fun u H hH _ _ => cmpG_ret hH)) rfl ?_; refine par_step (ok_fieldAt L rfl rfl rfl rfl) rfl ?_; refine par_step (ok_loadA L (vs := [_, _, _]) (src_at rfl) rfl rfl rfl rfl ⟨_, rfl⟩) rfl ?_; refine par_step (ok_fieldAt L rfl rfl rfl rfl) rfl ?_; refine par_step (ok_loadA L (vs := [_, _, _]) (src_at rfl) rfl rfl rfl rfl ⟨_, rfl⟩) rfl ?_; refine par_step (ok_callx L rfl rfl (blt_lt rfl) rfl rfl rfl (fun u H hH _ _ => cmpU_ret hH)) rfl ?_; refine par_step (ok_buildSlice L rfl rfl rfl rfl rfl rfl rfl rfl rfl) rfl ?_; refine par_step (ok_callx L rfl rfl (blt_lt rfl) rfl rfl rfl (fun u H hH _ _ v hv => or2_ret hH hv)) rfl ?_; refine par_step (ok_assign rfl rfl rfl) rfl ?_; refine par_nil ?_; refine N_seq ?_
  refine V_ret L (rs := [.tmp 4]) rfl (fun _ _ h => h) Since.refl fun u H hH hle => ?_
  rfl
theorem subjT_size (a b c : ByteArray) : (subjT a b c).size ≤ a.size + b.size + c.size + 2 := by
  unfold subjT
  split
  · rw [objT_size]; omega
  · rw [goalT_size]; omega
theorem ttext_ret {t : U} (hz : TZ t) {w : World} {B : Heap} (hB : B.Le (hp w)) : Ret Try.prog 54 [uv t] w B (fun v _ => v = .string (tT t)) := by
  obtain ⟨⟨z1, z2, z3⟩, z4, z5, z6⟩ := hz
  have h0 : sAt.size = 1 := rfl
  have h1 := goalT_size t.1.1.1 t.1.1.2 t.1.2
  have h2 := subjT_size t.2.1.1 t.2.1.2 t.2.2
  have h3 : (goalT t.1.1.1 t.1.1.2 t.1.2).size + sAt.size ≤ 9223372036854775807 := by omega
  have h4 : (goalT t.1.1.1 t.1.1.2 t.1.2 ++ sAt).size + (subjT t.2.1.1 t.2.1.2 t.2.2).size ≤ 9223372036854775807 := by rw [ByteArray.size_append]; omega
  refine V_enter Try.func54 rfl Try.ntmps54 (Nat.le_of_ble_eq_true rfl) hB ?_
  refine V_seq ?_; refine V_region (id := 0) ?_; refine vo_step (ok_box rfl rfl rfl rfl) rfl ?_; refine vo_step (ok_assign rfl rfl rfl) rfl ?_; refine vo_nil ?_; refine N_seq ?_; refine V_seq ?_; refine V_regionD (id := 1) [] mixed (by kernel_rfl) ?_; refine par_step (ok_fieldAt L rfl rfl rfl rfl) rfl ?_; refine par_step (ok_loadA L (vs := [_, _, _]) (src_at rfl) rfl rfl rfl rfl ⟨_, rfl⟩) rfl ?_; refine par_step (ok_callx L rfl rfl (blt_lt rfl) rfl rfl rfl (fun u H hH _ _ => goalText_ret (by first | assumption | decide) (by first | assumption | decide) (by first | assumption | decide) hH)) rfl ?_; refine par_step (ok_sadd rfl rfl rfl rfl (by assumption) rfl) rfl ?_; refine par_step (ok_fieldAt L rfl rfl rfl rfl) rfl ?_; refine par_step (ok_loadA L (vs := [_, _, _]) (src_at rfl) rfl rfl rfl rfl ⟨_, rfl⟩) rfl ?_; refine par_step (ok_callx L rfl rfl (blt_lt rfl) rfl rfl rfl (fun u H hH _ _ => subjText_ret (by first | assumption | decide) (by first | assumption | decide) (by first | assumption | decide) hH)) rfl ?_; refine par_step (ok_sadd rfl rfl rfl rfl (by assumption) rfl) rfl ?_; refine par_step (ok_assign rfl rfl rfl) rfl ?_; refine par_nil ?_; refine N_seq ?_
  refine V_ret L (rs := [.tmp 2]) rfl (fun _ _ h => h) Since.refl fun u H hH hle => ?_
  rfl
set_option maxHeartbeats 1000000 in
theorem tparse_ret {s : ByteArray} {r : U × Int} (hr : ptA s = r) (hs : s.size ≤ 1000000) {w : World} {B : Heap} (hB : B.Le (hp w)) (hM : GlobM B) :
    Ret Try.prog 51 [.string s] w B (fun v _ => v = .tuple #[uv r.1, .int .i64 r.2]) := by
  subst hr
  have hz := cutA_size s 64
  have hz1 : (cutA s 64).1.size ≤ 1000000 := by omega
  have hz2 : (cutA s 64).2.1.size ≤ 1000000 := by omega
  unfold ptA
  refine V_enter Try.func51 rfl Try.ntmps51 (Nat.le_of_ble_eq_true rfl) hB ?_
  cases h1 : (cutA s 64).2.2
  · rw [if_neg (fun h => by cases h.1)]
    refine V_seq ?_; refine V_region (id := 0) ?_; refine vo_step (ok_alloc L rfl rfl rfl rfl) rfl ?_; refine vo_step (ok_assign rfl rfl rfl) rfl ?_; refine vo_nil ?_; refine N_seq ?_; refine V_seq ?_; refine V_region (id := 1) ?_; refine vo_step (ok_move rfl rfl rfl) rfl ?_; refine vo_step (ok_callx L rfl rfl (blt_lt rfl) rfl rfl rfl (fun u H hH hle _ => cut_ret (by assumption) hH (GlobM.mono (by assumption) hle) (by assumption))) rfl ?_; refine vo_step (ok_move rfl rfl rfl) rfl ?_; refine vo_step (ok_extract rfl rfl rfl rfl) rfl ?_; refine vo_step (ok_extract rfl rfl rfl rfl) rfl ?_; refine vo_step (ok_extract rfl rfl rfl rfl) rfl ?_; refine vo_step (ok_assign rfl rfl rfl) rfl ?_; refine vo_step (ok_assign rfl rfl rfl) rfl ?_; refine vo_step (ok_assign rfl rfl rfl) rfl ?_; refine vo_nil ?_; refine N_seq ?_; refine V_seq ?_; refine V_seq ?_; refine V_region (id := 2) ?_; refine vo_step (ok_move rfl rfl rfl) rfl ?_; refine vo_step (ok_not rfl rfl rfl rfl) rfl ?_; refine vo_step (ok_move rfl rfl rfl) rfl ?_; refine vo_step (ok_skip rfl (blt_lt rfl) rfl) rfl ?_; refine vo_step (ok_skip rfl (blt_lt rfl) rfl) rfl ?_; refine vo_step (ok_pick rfl rfl rfl rfl) rfl ?_; refine vo_nil ?_; refine N_seq ?_; refine V_true rfl ?_; refine V_seq ?_; refine V_region (id := 3) ?_; refine vo_step (ok_build (cs := [_, _, _, _, _, _]) rfl rfl pl81 rfl rfl) rfl ?_; refine vo_step (ok_store L rfl rfl rfl rfl rfl rfl rfl rfl) rfl ?_; refine vo_step (ok_assign rfl rfl rfl) rfl ?_; refine vo_nil ?_; refine N_seq ?_
    refine V_ret L (rs := [.cell 2 81, .tmp 3]) rfl (fun _ _ h => h) Since.refl fun u H hH hle => ?_
    exact ⟨_, src_own rfl, rfl, rfl⟩
  · cases h2 : hasA (cutA s 64).2.1 64
    · rw [if_pos ⟨rfl, rfl⟩]
      rcases hp : pgA (cutA s 64).1 with ⟨a, b, c, e⟩
      dsimp only
      by_cases he : e = 0
      · rw [if_pos he]
        rcases hq : psA (cutA s 64).2.1 with ⟨a', b', c', e'⟩
        dsimp only
        by_cases he' : e' = 0
        · rw [if_pos he']
          refine V_seq ?_; refine V_region (id := 0) ?_; refine vo_step (ok_alloc L rfl rfl rfl rfl) rfl ?_; refine vo_step (ok_assign rfl rfl rfl) rfl ?_; refine vo_nil ?_; refine N_seq ?_; refine V_seq ?_; refine V_region (id := 1) ?_; refine vo_step (ok_move rfl rfl rfl) rfl ?_; refine vo_step (ok_callx L rfl rfl (blt_lt rfl) rfl rfl rfl (fun u H hH hle _ => cut_ret (by assumption) hH (GlobM.mono (by assumption) hle) (by assumption))) rfl ?_; refine vo_step (ok_move rfl rfl rfl) rfl ?_; refine vo_step (ok_extract rfl rfl rfl rfl) rfl ?_; refine vo_step (ok_extract rfl rfl rfl rfl) rfl ?_; refine vo_step (ok_extract rfl rfl rfl rfl) rfl ?_; refine vo_step (ok_assign rfl rfl rfl) rfl ?_; refine vo_step (ok_assign rfl rfl rfl) rfl ?_; refine vo_step (ok_assign rfl rfl rfl) rfl ?_; refine vo_nil ?_; refine N_seq ?_; refine V_seq ?_; refine V_seq ?_; refine V_region (id := 2) ?_; refine vo_step (ok_move rfl rfl rfl) rfl ?_; refine vo_step (ok_not rfl rfl rfl rfl) rfl ?_; refine vo_step (ok_move rfl rfl rfl) rfl ?_; refine vo_step (ok_move rfl rfl rfl) rfl ?_; refine vo_step (ok_callx L rfl rfl (blt_lt rfl) rfl rfl rfl (fun u H hH _ _ => contains_ret hH (by assumption))) rfl ?_; refine vo_step (ok_pick rfl rfl rfl rfl) rfl ?_; refine vo_nil ?_; refine N_seq ?_; refine V_false rfl ?_; refine V_skip ?_; refine N_seq ?_; refine V_seq ?_; refine V_region (id := 4) ?_; refine vo_step (ok_move rfl rfl rfl) rfl ?_; refine vo_step (ok_callx L rfl rfl (blt_lt rfl) rfl rfl rfl (fun u H hH hle _ => pg_ret' (by first | assumption | rfl) (by first | assumption | omega | decide) hH (GlobM.mono (by assumption) hle))) rfl ?_; refine vo_step (ok_move rfl rfl rfl) rfl ?_; refine vo_step (ok_extract rfl rfl rfl rfl) rfl ?_; refine vo_step (ok_extract rfl rfl rfl rfl) rfl ?_; refine vo_step (ok_alloc L rfl rfl rfl rfl) rfl ?_; refine vo_step (ok_store L rfl rfl rfl rfl rfl rfl rfl rfl) rfl ?_; refine vo_step (ok_assign rfl rfl rfl) rfl ?_; refine vo_nil ?_; refine N_seq ?_; refine V_seq ?_; refine V_seq ?_; refine V_region (id := 5) ?_; refine vo_step (ok_move rfl rfl rfl) rfl ?_; refine vo_step (ok_neq rfl rfl rfl rfl (decide_eq_false (by omega))) rfl ?_; refine vo_nil ?_; refine N_seq ?_; refine V_false rfl ?_; refine V_skip ?_; refine N_seq ?_; refine V_seq ?_; refine V_region (id := 7) ?_; refine vo_step (ok_move rfl rfl rfl) rfl ?_; refine vo_step (ok_callx L rfl rfl (blt_lt rfl) rfl rfl rfl (fun u H hH hle _ => ps_ret' (by first | assumption | rfl) (by first | assumption | omega | decide) hH (GlobM.mono (by assumption) hle))) rfl ?_; refine vo_step (ok_move rfl rfl rfl) rfl ?_; refine vo_step (ok_extract rfl rfl rfl rfl) rfl ?_; refine vo_step (ok_extract rfl rfl rfl rfl) rfl ?_; refine vo_step (ok_alloc L rfl rfl rfl rfl) rfl ?_; refine vo_step (ok_store L rfl rfl rfl rfl rfl rfl rfl rfl) rfl ?_; refine vo_step (ok_assign rfl rfl rfl) rfl ?_; refine vo_nil ?_; refine N_seq ?_; refine V_seq ?_; refine V_seq ?_; refine V_region (id := 8) ?_; refine vo_step (ok_move rfl rfl rfl) rfl ?_; refine vo_step (ok_neq rfl rfl rfl rfl (decide_eq_false (by omega))) rfl ?_; refine vo_nil ?_; refine N_seq ?_; refine V_false rfl ?_; refine V_skip ?_; refine N_seq ?_; refine V_seq ?_; refine V_region (id := 10) ?_; refine vo_step (ok_loadA L (vs := [_, _, _]) (src_own rfl) rfl rfl rfl rfl ⟨_, rfl⟩) rfl ?_; refine vo_step (ok_loadA L (vs := [_, _, _]) (src_own rfl) rfl rfl rfl rfl ⟨_, rfl⟩) rfl ?_; refine vo_step (ok_build (cs := [_, _, _, _, _, _]) rfl rfl pl81 rfl rfl) rfl ?_; refine vo_step (ok_store L rfl rfl rfl rfl rfl rfl rfl rfl) rfl ?_; refine vo_step (ok_assign rfl rfl rfl) rfl ?_; refine vo_nil ?_; refine N_seq ?_
          refine V_ret L (rs := [.cell 2 81, .tmp 3]) rfl (fun _ _ h => h) Since.refl fun u H hH hle => ?_
          exact ⟨_, src_own rfl, rfl, rfl⟩
        · rw [if_neg he']
          refine V_seq ?_; refine V_region (id := 0) ?_; refine vo_step (ok_alloc L rfl rfl rfl rfl) rfl ?_; refine vo_step (ok_assign rfl rfl rfl) rfl ?_; refine vo_nil ?_; refine N_seq ?_; refine V_seq ?_; refine V_region (id := 1) ?_; refine vo_step (ok_move rfl rfl rfl) rfl ?_; refine vo_step (ok_callx L rfl rfl (blt_lt rfl) rfl rfl rfl (fun u H hH hle _ => cut_ret (by assumption) hH (GlobM.mono (by assumption) hle) (by assumption))) rfl ?_; refine vo_step (ok_move rfl rfl rfl) rfl ?_; refine vo_step (ok_extract rfl rfl rfl rfl) rfl ?_; refine vo_step (ok_extract rfl rfl rfl rfl) rfl ?_; refine vo_step (ok_extract rfl rfl rfl rfl) rfl ?_; refine vo_step (ok_assign rfl rfl rfl) rfl ?_; refine vo_step (ok_assign rfl rfl rfl) rfl ?_; refine vo_step (ok_assign rfl rfl rfl) rfl ?_; refine vo_nil ?_; refine N_seq ?_; refine V_seq ?_; refine V_seq ?_; refine V_region (id := 2) ?_; refine vo_step (ok_move rfl rfl rfl) rfl ?_; refine vo_step (ok_not rfl rfl rfl rfl) rfl ?_; refine vo_step (ok_move rfl rfl rfl) rfl ?_; refine vo_step (ok_move rfl rfl rfl) rfl ?_; refine vo_step (ok_callx L rfl rfl (blt_lt rfl) rfl rfl rfl (fun u H hH _ _ => contains_ret hH (by assumption))) rfl ?_; refine vo_step (ok_pick rfl rfl rfl rfl) rfl ?_; refine vo_nil ?_; refine N_seq ?_; refine V_false rfl ?_; refine V_skip ?_; refine N_seq ?_; refine V_seq ?_; refine V_region (id := 4) ?_; refine vo_step (ok_move rfl rfl rfl) rfl ?_; refine vo_step (ok_callx L rfl rfl (blt_lt rfl) rfl rfl rfl (fun u H hH hle _ => pg_ret' (by first | assumption | rfl) (by first | assumption | omega | decide) hH (GlobM.mono (by assumption) hle))) rfl ?_; refine vo_step (ok_move rfl rfl rfl) rfl ?_; refine vo_step (ok_extract rfl rfl rfl rfl) rfl ?_; refine vo_step (ok_extract rfl rfl rfl rfl) rfl ?_; refine vo_step (ok_alloc L rfl rfl rfl rfl) rfl ?_; refine vo_step (ok_store L rfl rfl rfl rfl rfl rfl rfl rfl) rfl ?_; refine vo_step (ok_assign rfl rfl rfl) rfl ?_; refine vo_nil ?_; refine N_seq ?_; refine V_seq ?_; refine V_seq ?_; refine V_region (id := 5) ?_; refine vo_step (ok_move rfl rfl rfl) rfl ?_; refine vo_step (ok_neq rfl rfl rfl rfl (decide_eq_false (by omega))) rfl ?_; refine vo_nil ?_; refine N_seq ?_; refine V_false rfl ?_; refine V_skip ?_; refine N_seq ?_; refine V_seq ?_; refine V_region (id := 7) ?_; refine vo_step (ok_move rfl rfl rfl) rfl ?_; refine vo_step (ok_callx L rfl rfl (blt_lt rfl) rfl rfl rfl (fun u H hH hle _ => ps_ret' (by first | assumption | rfl) (by first | assumption | omega | decide) hH (GlobM.mono (by assumption) hle))) rfl ?_; refine vo_step (ok_move rfl rfl rfl) rfl ?_; refine vo_step (ok_extract rfl rfl rfl rfl) rfl ?_; refine vo_step (ok_extract rfl rfl rfl rfl) rfl ?_; refine vo_step (ok_alloc L rfl rfl rfl rfl) rfl ?_; refine vo_step (ok_store L rfl rfl rfl rfl rfl rfl rfl rfl) rfl ?_; refine vo_step (ok_assign rfl rfl rfl) rfl ?_; refine vo_nil ?_; refine N_seq ?_; refine V_seq ?_; refine V_seq ?_; refine V_region (id := 8) ?_; refine vo_step (ok_move rfl rfl rfl) rfl ?_; refine vo_step (ok_neq rfl rfl rfl rfl (decide_eq_true (by omega))) rfl ?_; refine vo_nil ?_; refine N_seq ?_; refine V_true rfl ?_; refine V_seq ?_; refine V_region (id := 9) ?_; refine vo_step (ok_build (cs := [_, _, _, _, _, _]) rfl rfl pl81 rfl rfl) rfl ?_; refine vo_step (ok_move rfl rfl rfl) rfl ?_; refine vo_step (ok_store L rfl rfl rfl rfl rfl rfl rfl rfl) rfl ?_; refine vo_step (ok_assign rfl rfl rfl) rfl ?_; refine vo_nil ?_; refine N_seq ?_
          refine V_ret L (rs := [.cell 2 81, .tmp 3]) rfl (fun _ _ h => h) Since.refl fun u H hH hle => ?_
          exact ⟨_, src_own rfl, rfl, rfl⟩
      · rw [if_neg he]
        refine V_seq ?_; refine V_region (id := 0) ?_; refine vo_step (ok_alloc L rfl rfl rfl rfl) rfl ?_; refine vo_step (ok_assign rfl rfl rfl) rfl ?_; refine vo_nil ?_; refine N_seq ?_; refine V_seq ?_; refine V_region (id := 1) ?_; refine vo_step (ok_move rfl rfl rfl) rfl ?_; refine vo_step (ok_callx L rfl rfl (blt_lt rfl) rfl rfl rfl (fun u H hH hle _ => cut_ret (by assumption) hH (GlobM.mono (by assumption) hle) (by assumption))) rfl ?_; refine vo_step (ok_move rfl rfl rfl) rfl ?_; refine vo_step (ok_extract rfl rfl rfl rfl) rfl ?_; refine vo_step (ok_extract rfl rfl rfl rfl) rfl ?_; refine vo_step (ok_extract rfl rfl rfl rfl) rfl ?_; refine vo_step (ok_assign rfl rfl rfl) rfl ?_; refine vo_step (ok_assign rfl rfl rfl) rfl ?_; refine vo_step (ok_assign rfl rfl rfl) rfl ?_; refine vo_nil ?_; refine N_seq ?_; refine V_seq ?_; refine V_seq ?_; refine V_region (id := 2) ?_; refine vo_step (ok_move rfl rfl rfl) rfl ?_; refine vo_step (ok_not rfl rfl rfl rfl) rfl ?_; refine vo_step (ok_move rfl rfl rfl) rfl ?_; refine vo_step (ok_move rfl rfl rfl) rfl ?_; refine vo_step (ok_callx L rfl rfl (blt_lt rfl) rfl rfl rfl (fun u H hH _ _ => contains_ret hH (by assumption))) rfl ?_; refine vo_step (ok_pick rfl rfl rfl rfl) rfl ?_; refine vo_nil ?_; refine N_seq ?_; refine V_false rfl ?_; refine V_skip ?_; refine N_seq ?_; refine V_seq ?_; refine V_region (id := 4) ?_; refine vo_step (ok_move rfl rfl rfl) rfl ?_; refine vo_step (ok_callx L rfl rfl (blt_lt rfl) rfl rfl rfl (fun u H hH hle _ => pg_ret' (by first | assumption | rfl) (by first | assumption | omega | decide) hH (GlobM.mono (by assumption) hle))) rfl ?_; refine vo_step (ok_move rfl rfl rfl) rfl ?_; refine vo_step (ok_extract rfl rfl rfl rfl) rfl ?_; refine vo_step (ok_extract rfl rfl rfl rfl) rfl ?_; refine vo_step (ok_alloc L rfl rfl rfl rfl) rfl ?_; refine vo_step (ok_store L rfl rfl rfl rfl rfl rfl rfl rfl) rfl ?_; refine vo_step (ok_assign rfl rfl rfl) rfl ?_; refine vo_nil ?_; refine N_seq ?_; refine V_seq ?_; refine V_seq ?_; refine V_region (id := 5) ?_; refine vo_step (ok_move rfl rfl rfl) rfl ?_; refine vo_step (ok_neq rfl rfl rfl rfl (decide_eq_true (by omega))) rfl ?_; refine vo_nil ?_; refine N_seq ?_; refine V_true rfl ?_; refine V_seq ?_; refine V_region (id := 6) ?_; refine vo_step (ok_build (cs := [_, _, _, _, _, _]) rfl rfl pl81 rfl rfl) rfl ?_; refine vo_step (ok_move rfl rfl rfl) rfl ?_; refine vo_step (ok_store L rfl rfl rfl rfl rfl rfl rfl rfl) rfl ?_; refine vo_step (ok_assign rfl rfl rfl) rfl ?_; refine vo_nil ?_; refine N_seq ?_
        refine V_ret L (rs := [.cell 2 81, .tmp 3]) rfl (fun _ _ h => h) Since.refl fun u H hH hle => ?_
        exact ⟨_, src_own rfl, rfl, rfl⟩
    · rw [if_neg (fun h => by cases h.2)]
      refine V_seq ?_; refine V_region (id := 0) ?_; refine vo_step (ok_alloc L rfl rfl rfl rfl) rfl ?_; refine vo_step (ok_assign rfl rfl rfl) rfl ?_; refine vo_nil ?_; refine N_seq ?_; refine V_seq ?_; refine V_region (id := 1) ?_; refine vo_step (ok_move rfl rfl rfl) rfl ?_; refine vo_step (ok_callx L rfl rfl (blt_lt rfl) rfl rfl rfl (fun u H hH hle _ => cut_ret (by assumption) hH (GlobM.mono (by assumption) hle) (by assumption))) rfl ?_; refine vo_step (ok_move rfl rfl rfl) rfl ?_; refine vo_step (ok_extract rfl rfl rfl rfl) rfl ?_; refine vo_step (ok_extract rfl rfl rfl rfl) rfl ?_; refine vo_step (ok_extract rfl rfl rfl rfl) rfl ?_; refine vo_step (ok_assign rfl rfl rfl) rfl ?_; refine vo_step (ok_assign rfl rfl rfl) rfl ?_; refine vo_step (ok_assign rfl rfl rfl) rfl ?_; refine vo_nil ?_; refine N_seq ?_; refine V_seq ?_; refine V_seq ?_; refine V_region (id := 2) ?_; refine vo_step (ok_move rfl rfl rfl) rfl ?_; refine vo_step (ok_not rfl rfl rfl rfl) rfl ?_; refine vo_step (ok_move rfl rfl rfl) rfl ?_; refine vo_step (ok_move rfl rfl rfl) rfl ?_; refine vo_step (ok_callx L rfl rfl (blt_lt rfl) rfl rfl rfl (fun u H hH _ _ => contains_ret hH (by assumption))) rfl ?_; refine vo_step (ok_pick rfl rfl rfl rfl) rfl ?_; refine vo_nil ?_; refine N_seq ?_; refine V_true rfl ?_; refine V_seq ?_; refine V_region (id := 3) ?_; refine vo_step (ok_build (cs := [_, _, _, _, _, _]) rfl rfl pl81 rfl rfl) rfl ?_; refine vo_step (ok_store L rfl rfl rfl rfl rfl rfl rfl rfl) rfl ?_; refine vo_step (ok_assign rfl rfl rfl) rfl ?_; refine vo_nil ?_; refine N_seq ?_
      refine V_ret L (rs := [.cell 2 81, .tmp 3]) rfl (fun _ _ h => h) Since.refl fun u H hH hle => ?_
      exact ⟨_, src_own rfl, rfl, rfl⟩
theorem tis_ret {l : List U} {fu : Bool} (hl : l.length ≤ 1000000) {r : Bool} (hr : isB l = r) {v : Value} {w : World} {B : Heap} (hB : B.Le (hp w)) (hv : US l fu v B) :
    Ret Try.prog 43 [v] w B (fun v _ => v = .bool r) := by
  subst hr
  refine V_enter Try.func43 rfl Try.ntmps43 (Nat.le_of_ble_eq_true rfl) hB ?_
  refine V_seen 0 (US l fu) rfl SlV.mono hv ?_
  refine V_seq ?_; refine V_region (id := 0) ?_; refine vo_step (ok_assign rfl rfl rfl) rfl ?_; refine vo_nil ?_; refine N_seq ?_; refine V_seq ?_; refine V_seq ?_; refine V_region (id := 1) ?_; refine vo_step (ok_assign rfl rfl rfl) rfl ?_; refine vo_nil ?_; refine N_seq ?_; refine V_block ?_
  refine V_loop (fun i : Nat => [(0, .sat (US l fu)), (3, .is (.int .i64 (i + 1 : Nat)))])
    (fun i => ∀ j a b, j < i → l[j]? = some a → l[j + 1]? = some b → cmpT a b < 0) (fun i => l.length - i) 0 (fun j a b h => by omega) ⟨rfl, rfl, trivial⟩ ?_
  rintro i hall
  by_cases hlt : i + 1 < l.length
  · obtain ⟨a, ha⟩ := get_some (show i < l.length by omega)
    obtain ⟨b, hb⟩ := get_some hlt
    have hca := us_at ha
    have hcb := us_at hb
    have hsub : IntKind.i64.wrap (((i + 1 : Nat) : Int) - 1) = (i : Int) := wrap_i64 (by omega) (by omega) |>.trans (by omega)
    by_cases hc : cmpT a b < 0
    · refine V_seq ?_; refine V_seq ?_; refine V_region (id := 2) ?_; refine vo_step (ok_move rfl rfl rfl) rfl ?_; refine vo_step (ok_moves' rfl rfl rfl) rfl ?_; refine vo_step (ok_lenV L rfl rfl rfl rfl) rfl ?_; refine vo_step (ok_lss rfl rfl rfl rfl (decide_eq_true (by omega))) rfl ?_; refine vo_nil ?_; refine N_seq ?_; refine V_true rfl ?_; refine V_skip ?_; refine N_seq ?_; refine V_seq ?_; refine V_block ?_; refine V_seq ?_; refine V_regionD (id := 4) [] mixed (by kernel_rfl) ?_; refine par_step (ok_moves' rfl rfl rfl) rfl ?_; refine par_step (ok_move rfl rfl rfl) rfl ?_; refine par_step (ok_sub rfl rfl rfl rfl (by assumption)) rfl ?_; refine par_step (ok_indexV L _ rfl rfl rfl rfl rfl rfl rfl (by first | omega | decide) (by assumption)) rfl ?_; refine par_step (ok_loadPA L (vs := [_, _, _, _, _, _]) rfl rfl rfl rfl rfl ⟨_, rfl⟩) rfl ?_; refine par_step (ok_moves' rfl rfl rfl) rfl ?_; refine par_step (ok_move rfl rfl rfl) rfl ?_; refine par_step (ok_indexV L _ rfl rfl rfl rfl rfl rfl rfl (by first | omega | decide) (by assumption)) rfl ?_; refine par_step (ok_loadPA L (vs := [_, _, _, _, _, _]) rfl rfl rfl rfl rfl ⟨_, rfl⟩) rfl ?_; refine par_step (ok_callx L rfl rfl (blt_lt rfl) rfl rfl rfl (fun u H hH _ _ => tcmp_ret hH)) rfl ?_; refine par_step (ok_geq rfl rfl rfl rfl (decide_eq_false (by omega))) rfl ?_; refine par_nil ?_; refine N_seq ?_; refine V_false rfl ?_; refine V_skip ?_; refine N_block ?_; refine N_seq ?_; refine V_region (id := 3) ?_; refine vo_step (ok_move rfl rfl rfl) rfl ?_; refine vo_step (ok_add rfl rfl rfl rfl (wrap_i64 (by omega) (by omega))) rfl ?_; refine vo_step (ok_assign rfl rfl rfl) rfl ?_; refine vo_nil ?_
      exact N_round (x := i) (i + 1) (fun j a' b' hj h1 h2 => by
        by_cases hji : j = i
        · subst hji; rw [ha] at h1; rw [hb] at h2; cases h1; cases h2; exact hc
        · exact hall j a' b' (by omega) h1 h2) (by omega) ⟨rfl, rfl, trivial⟩
    · rw [isB_no ha hb hc]
      refine V_seq ?_; refine V_seq ?_; refine V_region (id := 2) ?_; refine vo_step (ok_move rfl rfl rfl) rfl ?_; refine vo_step (ok_moves' rfl rfl rfl) rfl ?_; refine vo_step (ok_lenV L rfl rfl rfl rfl) rfl ?_; refine vo_step (ok_lss rfl rfl rfl rfl (decide_eq_true (by omega))) rfl ?_; refine vo_nil ?_; refine N_seq ?_; refine V_true rfl ?_; refine V_skip ?_; refine N_seq ?_; refine V_seq ?_; refine V_block ?_; refine V_seq ?_; refine V_regionD (id := 4) [] mixed (by kernel_rfl) ?_; refine par_step (ok_moves' rfl rfl rfl) rfl ?_; refine par_step (ok_move rfl rfl rfl) rfl ?_; refine par_step (ok_sub rfl rfl rfl rfl (by assumption)) rfl ?_; refine par_step (ok_indexV L _ rfl rfl rfl rfl rfl rfl rfl (by first | omega | decide) (by assumption)) rfl ?_; refine par_step (ok_loadPA L (vs := [_, _, _, _, _, _]) rfl rfl rfl rfl rfl ⟨_, rfl⟩) rfl ?_; refine par_step (ok_moves' rfl rfl rfl) rfl ?_; refine par_step (ok_move rfl rfl rfl) rfl ?_; refine par_step (ok_indexV L _ rfl rfl rfl rfl rfl rfl rfl (by first | omega | decide) (by assumption)) rfl ?_; refine par_step (ok_loadPA L (vs := [_, _, _, _, _, _]) rfl rfl rfl rfl rfl ⟨_, rfl⟩) rfl ?_; refine par_step (ok_callx L rfl rfl (blt_lt rfl) rfl rfl rfl (fun u H hH _ _ => tcmp_ret hH)) rfl ?_; refine par_step (ok_geq rfl rfl rfl rfl (decide_eq_true (by omega))) rfl ?_; refine par_nil ?_; refine N_seq ?_; refine V_true rfl ?_; refine V_seq ?_; refine V_region (id := 5) ?_; refine vo_step (ok_assign rfl rfl rfl) rfl ?_; refine vo_nil ?_; refine N_seq ?_
      refine V_ret L (rs := [.tmp 2]) rfl (fun _ _ h => h) Since.refl fun u H hH hle => ?_
      rfl
  · rw [isB_yes fun j a b h1 h2 => hall j a b (by
      have : j + 1 < l.length := by
        rcases Nat.lt_or_ge (j + 1) l.length with h | h
        · exact h
        · rw [List.getElem?_eq_none h] at h2; cases h2
      omega) h1 h2]
    refine V_seq ?_; refine V_seq ?_; refine V_region (id := 2) ?_; refine vo_step (ok_move rfl rfl rfl) rfl ?_; refine vo_step (ok_moves' rfl rfl rfl) rfl ?_; refine vo_step (ok_lenV L rfl rfl rfl rfl) rfl ?_; refine vo_step (ok_lss rfl rfl rfl rfl (decide_eq_false (by omega))) rfl ?_; refine vo_nil ?_; refine N_seq ?_; refine V_false rfl ?_; refine V_exit ?_; refine X_then ?_; refine X_then ?_; refine X_here ?_; refine N_seq ?_; refine V_seq ?_; refine V_region (id := 6) ?_; refine vo_step (ok_assign rfl rfl rfl) rfl ?_; refine vo_nil ?_; refine N_seq ?_
    refine V_ret L (rs := [.tmp 2]) rfl (fun _ _ h => h) Since.refl fun u H hH hle => ?_
    rfl
end Go.V.L2
/- The walks of the definition of names. -/
namespace Go.V
open Go.Proofs Go.RowKit
attribute [local irreducible] V N X VO Par StepOK Has Ret RetL Src
theorem chk_of {s : ByteArray} {b : Bool} (h1 : b = true → 1 ≤ s.size ∧ s.size ≤ 16 ∧ s.data.toList.all okB = true) (h2 : b = false → chk s = 6) : (if b = true then 0 else 6 : Int) = chk s := by
  cases b with
  | true => obtain ⟨a1, a2, a3⟩ := h1 rfl; rw [if_pos rfl, chk_all a1 a2 a3]
  | false => rw [if_neg (by decide), h2 rfl]
set_option maxHeartbeats 1000000 in
theorem rcheck_ret {s : ByteArray} (hs : s.size ≤ 1099511627776) {w : World} {B : Heap} (hB : B.Le (hp w)) :
    Ret Try.prog 119 [.string s] w B (fun v _ => v = .int .i64 (chk s)) := by
  refine V_enter Try.func119 rfl Try.ntmps119 (Nat.le_of_ble_eq_true rfl) hB ?_
  by_cases h0 : 1 ≤ s.size ∧ s.size ≤ 16
  · obtain ⟨h1, h2⟩ := h0
    refine V_seq ?_; refine V_region (id := 0) ?_; refine vo_step (ok_assign rfl rfl rfl) rfl ?_; refine vo_nil ?_; refine N_seq ?_; refine V_seq ?_; refine V_region (id := 1) ?_; refine vo_step (ok_move rfl rfl rfl) rfl ?_; refine vo_step (ok_lenS L rfl rfl rfl rfl) rfl ?_; refine vo_step (ok_gtr rfl rfl rfl rfl (decide_eq_true (by omega))) rfl ?_; refine vo_step (ok_move rfl rfl rfl) rfl ?_; refine vo_step (ok_move rfl rfl rfl) rfl ?_; refine vo_step (ok_lenS L rfl rfl rfl rfl) rfl ?_; refine vo_step (ok_leq rfl rfl rfl rfl (decide_eq_true (by omega))) rfl ?_; refine vo_step (ok_pick rfl rfl rfl rfl) rfl ?_; refine vo_step (ok_assign rfl rfl rfl) rfl ?_; refine vo_nil ?_; refine N_seq ?_; refine V_seq ?_; refine V_seq ?_; refine V_region (id := 2) ?_; refine vo_step (ok_assign rfl rfl rfl) rfl ?_; refine vo_nil ?_; refine N_seq ?_; refine V_block ?_
    refine V_loop (fun p : Nat × Bool => [(0, .is (.string s)), (3, .is (.bool p.2)), (4, .is (.int .i64 p.1))])
      (fun p => p.1 ≤ s.size ∧ (p.2 = true → (s.data.toList.take p.1).all okB = true) ∧ (p.2 = false → chk s = 6)) (fun p => s.size - p.1) (0, true) ⟨Nat.zero_le _, fun _ => by simp, fun h => by cases h⟩ ⟨rfl, rfl, rfl, trivial⟩ ?_
    rintro ⟨k, b⟩ ⟨hk, hall, hbad⟩
    dsimp only at hk hall hbad ⊢
    by_cases hlt : k < s.size
    · cases b with
      | false =>
        refine V_seq ?_; refine V_seq ?_; refine V_region (id := 3) ?_; refine vo_step (ok_move rfl rfl rfl) rfl ?_; refine vo_step (ok_move rfl rfl rfl) rfl ?_; refine vo_step (ok_lenS L rfl rfl rfl rfl) rfl ?_; refine vo_step (ok_lss rfl rfl rfl rfl (decide_eq_true (by omega))) rfl ?_; refine vo_step (ok_move rfl rfl rfl) rfl ?_; refine vo_step (ok_move rfl rfl rfl) rfl ?_; refine vo_step (ok_pick rfl rfl rfl rfl) rfl ?_; refine vo_nil ?_; refine N_seq ?_; refine V_false rfl ?_; refine V_exit ?_; refine X_then ?_; refine X_then ?_; refine X_here ?_; refine N_seq ?_; refine V_seq ?_; refine V_seq ?_; refine V_region (id := 6) ?_; refine vo_step (ok_move rfl rfl rfl) rfl ?_; refine vo_nil ?_; refine N_seq ?_; refine V_false rfl ?_; refine V_skip ?_; refine N_seq ?_; refine V_seq ?_; refine V_region (id := 8) ?_; refine vo_step (ok_assign rfl rfl rfl) rfl ?_; refine vo_nil ?_; refine N_seq ?_
        refine V_ret L (rs := [.tmp 2]) rfl (fun _ _ h => h) Since.refl fun u H hH hle => ?_
        exact congrArg _ (hbad rfl).symm
      | true =>
        obtain ⟨c, hc⟩ := getElem?_lt hlt
        have hu := u8_lt c
        by_cases a1 : 97 ≤ (c.toNat : Int)
        · by_cases a4 : (c.toNat : Int) ≤ 122
          · refine V_seq ?_; refine V_seq ?_; refine V_region (id := 3) ?_; refine vo_step (ok_move rfl rfl rfl) rfl ?_; refine vo_step (ok_move rfl rfl rfl) rfl ?_; refine vo_step (ok_lenS L rfl rfl rfl rfl) rfl ?_; refine vo_step (ok_lss rfl rfl rfl rfl (decide_eq_true (by omega))) rfl ?_; refine vo_step (ok_move rfl rfl rfl) rfl ?_; refine vo_step (ok_move rfl rfl rfl) rfl ?_; refine vo_step (ok_pick rfl rfl rfl rfl) rfl ?_; refine vo_nil ?_; refine N_seq ?_; refine V_true rfl ?_; refine V_skip ?_; refine N_seq ?_; refine V_seq ?_; refine V_block ?_; refine V_region (id := 5) ?_; refine vo_step (ok_move rfl rfl rfl) rfl ?_; refine vo_step (ok_move rfl rfl rfl) rfl ?_; refine vo_step (ok_indexS L rfl rfl rfl rfl rfl (by assumption)) rfl ?_; refine vo_step (ok_geq rfl rfl rfl rfl (decide_eq_true (by omega))) rfl ?_; refine vo_step (ok_move rfl rfl rfl) rfl ?_; refine vo_step (ok_move rfl rfl rfl) rfl ?_; refine vo_step (ok_move rfl rfl rfl) rfl ?_; refine vo_step (ok_indexS L rfl rfl rfl rfl rfl (by assumption)) rfl ?_; refine vo_step (ok_leq rfl rfl rfl rfl (decide_eq_true (by omega))) rfl ?_; refine vo_step (ok_pick rfl rfl rfl rfl) rfl ?_; refine vo_step (ok_move rfl rfl rfl) rfl ?_; refine vo_step (ok_skip rfl (blt_lt rfl) rfl) rfl ?_; refine vo_step (ok_skip rfl (blt_lt rfl) rfl) rfl ?_; refine vo_step (ok_skip rfl (blt_lt rfl) rfl) rfl ?_; refine vo_step (ok_skip rfl (blt_lt rfl) rfl) rfl ?_; refine vo_step (ok_skip rfl (blt_lt rfl) rfl) rfl ?_; refine vo_step (ok_skip rfl (blt_lt rfl) rfl) rfl ?_; refine vo_step (ok_skip rfl (blt_lt rfl) rfl) rfl ?_; refine vo_step (ok_skip rfl (blt_lt rfl) rfl) rfl ?_; refine vo_step (ok_skip rfl (blt_lt rfl) rfl) rfl ?_; refine vo_step (ok_skip rfl (blt_lt rfl) rfl) rfl ?_; refine vo_step (ok_pick rfl rfl rfl rfl) rfl ?_; refine vo_step (ok_assign rfl rfl rfl) rfl ?_; refine vo_nil ?_; refine N_block ?_; refine N_seq ?_; refine V_region (id := 4) ?_; refine vo_step (ok_move rfl rfl rfl) rfl ?_; refine vo_step (ok_add rfl rfl rfl rfl (wrap_i64 (by omega) (by omega))) rfl ?_; refine vo_step (ok_assign rfl rfl rfl) rfl ?_; refine vo_nil ?_
            exact N_round (x := (k, true)) (k + 1, true) ⟨hlt, fun _ => take_all hc (okB_4 (by omega) (by omega)) (hall rfl), fun h => (by cases h)⟩ (by dsimp only; omega) ⟨rfl, rfl, rfl, trivial⟩
          · refine V_seq ?_; refine V_seq ?_; refine V_region (id := 3) ?_; refine vo_step (ok_move rfl rfl rfl) rfl ?_; refine vo_step (ok_move rfl rfl rfl) rfl ?_; refine vo_step (ok_lenS L rfl rfl rfl rfl) rfl ?_; refine vo_step (ok_lss rfl rfl rfl rfl (decide_eq_true (by omega))) rfl ?_; refine vo_step (ok_move rfl rfl rfl) rfl ?_; refine vo_step (ok_move rfl rfl rfl) rfl ?_; refine vo_step (ok_pick rfl rfl rfl rfl) rfl ?_; refine vo_nil ?_; refine N_seq ?_; refine V_true rfl ?_; refine V_skip ?_; refine N_seq ?_; refine V_seq ?_; refine V_block ?_; refine V_region (id := 5) ?_; refine vo_step (ok_move rfl rfl rfl) rfl ?_; refine vo_step (ok_move rfl rfl rfl) rfl ?_; refine vo_step (ok_indexS L rfl rfl rfl rfl rfl (by assumption)) rfl ?_; refine vo_step (ok_geq rfl rfl rfl rfl (decide_eq_true (by omega))) rfl ?_; refine vo_step (ok_move rfl rfl rfl) rfl ?_; refine vo_step (ok_move rfl rfl rfl) rfl ?_; refine vo_step (ok_move rfl rfl rfl) rfl ?_; refine vo_step (ok_indexS L rfl rfl rfl rfl rfl (by assumption)) rfl ?_; refine vo_step (ok_leq rfl rfl rfl rfl (decide_eq_false (by omega))) rfl ?_; refine vo_step (ok_pick rfl rfl rfl rfl) rfl ?_; refine vo_step (ok_move rfl rfl rfl) rfl ?_; refine vo_step (ok_move rfl rfl rfl) rfl ?_; refine vo_step (ok_move rfl rfl rfl) rfl ?_; refine vo_step (ok_indexS L rfl rfl rfl rfl rfl (by assumption)) rfl ?_; refine vo_step (ok_geq rfl rfl rfl rfl (decide_eq_true (by omega))) rfl ?_; refine vo_step (ok_move rfl rfl rfl) rfl ?_; refine vo_step (ok_move rfl rfl rfl) rfl ?_; refine vo_step (ok_move rfl rfl rfl) rfl ?_; refine vo_step (ok_indexS L rfl rfl rfl rfl rfl (by assumption)) rfl ?_; refine vo_step (ok_leq rfl rfl rfl rfl (decide_eq_false (by omega))) rfl ?_; refine vo_step (ok_pick rfl rfl rfl rfl) rfl ?_; refine vo_step (ok_pick rfl rfl rfl rfl) rfl ?_; refine vo_step (ok_assign rfl rfl rfl) rfl ?_; refine vo_nil ?_; refine N_block ?_; refine N_seq ?_; refine V_region (id := 4) ?_; refine vo_step (ok_move rfl rfl rfl) rfl ?_; refine vo_step (ok_add rfl rfl rfl rfl (wrap_i64 (by omega) (by omega))) rfl ?_; refine vo_step (ok_assign rfl rfl rfl) rfl ?_; refine vo_nil ?_
            exact N_round (x := (k, true)) (k + 1, false) ⟨hlt, fun h => (by cases h), fun _ => chk_at hc (okB_3 (by omega))⟩ (by dsimp only; omega) ⟨rfl, rfl, rfl, trivial⟩
        · by_cases a2 : 48 ≤ (c.toNat : Int)
          · by_cases a3 : (c.toNat : Int) ≤ 57
            · refine V_seq ?_; refine V_seq ?_; refine V_region (id := 3) ?_; refine vo_step (ok_move rfl rfl rfl) rfl ?_; refine vo_step (ok_move rfl rfl rfl) rfl ?_; refine vo_step (ok_lenS L rfl rfl rfl rfl) rfl ?_; refine vo_step (ok_lss rfl rfl rfl rfl (decide_eq_true (by omega))) rfl ?_; refine vo_step (ok_move rfl rfl rfl) rfl ?_; refine vo_step (ok_move rfl rfl rfl) rfl ?_; refine vo_step (ok_pick rfl rfl rfl rfl) rfl ?_; refine vo_nil ?_; refine N_seq ?_; refine V_true rfl ?_; refine V_skip ?_; refine N_seq ?_; refine V_seq ?_; refine V_block ?_; refine V_region (id := 5) ?_; refine vo_step (ok_move rfl rfl rfl) rfl ?_; refine vo_step (ok_move rfl rfl rfl) rfl ?_; refine vo_step (ok_indexS L rfl rfl rfl rfl rfl (by assumption)) rfl ?_; refine vo_step (ok_geq rfl rfl rfl rfl (decide_eq_false (by omega))) rfl ?_; refine vo_step (ok_move rfl rfl rfl) rfl ?_; refine vo_step (ok_skip rfl (blt_lt rfl) rfl) rfl ?_; refine vo_step (ok_skip rfl (blt_lt rfl) rfl) rfl ?_; refine vo_step (ok_skip rfl (blt_lt rfl) rfl) rfl ?_; refine vo_step (ok_skip rfl (blt_lt rfl) rfl) rfl ?_; refine vo_step (ok_pick rfl rfl rfl rfl) rfl ?_; refine vo_step (ok_move rfl rfl rfl) rfl ?_; refine vo_step (ok_move rfl rfl rfl) rfl ?_; refine vo_step (ok_move rfl rfl rfl) rfl ?_; refine vo_step (ok_indexS L rfl rfl rfl rfl rfl (by assumption)) rfl ?_; refine vo_step (ok_geq rfl rfl rfl rfl (decide_eq_true (by omega))) rfl ?_; refine vo_step (ok_move rfl rfl rfl) rfl ?_; refine vo_step (ok_move rfl rfl rfl) rfl ?_; refine vo_step (ok_move rfl rfl rfl) rfl ?_; refine vo_step (ok_indexS L rfl rfl rfl rfl rfl (by assumption)) rfl ?_; refine vo_step (ok_leq rfl rfl rfl rfl (decide_eq_true (by omega))) rfl ?_; refine vo_step (ok_pick rfl rfl rfl rfl) rfl ?_; refine vo_step (ok_pick rfl rfl rfl rfl) rfl ?_; refine vo_step (ok_assign rfl rfl rfl) rfl ?_; refine vo_nil ?_; refine N_block ?_; refine N_seq ?_; refine V_region (id := 4) ?_; refine vo_step (ok_move rfl rfl rfl) rfl ?_; refine vo_step (ok_add rfl rfl rfl rfl (wrap_i64 (by omega) (by omega))) rfl ?_; refine vo_step (ok_assign rfl rfl rfl) rfl ?_; refine vo_nil ?_
              exact N_round (x := (k, true)) (k + 1, true) ⟨hlt, fun _ => take_all hc (okB_5 (by omega) (by omega)) (hall rfl), fun h => (by cases h)⟩ (by dsimp only; omega) ⟨rfl, rfl, rfl, trivial⟩
            · refine V_seq ?_; refine V_seq ?_; refine V_region (id := 3) ?_; refine vo_step (ok_move rfl rfl rfl) rfl ?_; refine vo_step (ok_move rfl rfl rfl) rfl ?_; refine vo_step (ok_lenS L rfl rfl rfl rfl) rfl ?_; refine vo_step (ok_lss rfl rfl rfl rfl (decide_eq_true (by omega))) rfl ?_; refine vo_step (ok_move rfl rfl rfl) rfl ?_; refine vo_step (ok_move rfl rfl rfl) rfl ?_; refine vo_step (ok_pick rfl rfl rfl rfl) rfl ?_; refine vo_nil ?_; refine N_seq ?_; refine V_true rfl ?_; refine V_skip ?_; refine N_seq ?_; refine V_seq ?_; refine V_block ?_; refine V_region (id := 5) ?_; refine vo_step (ok_move rfl rfl rfl) rfl ?_; refine vo_step (ok_move rfl rfl rfl) rfl ?_; refine vo_step (ok_indexS L rfl rfl rfl rfl rfl (by assumption)) rfl ?_; refine vo_step (ok_geq rfl rfl rfl rfl (decide_eq_false (by omega))) rfl ?_; refine vo_step (ok_move rfl rfl rfl) rfl ?_; refine vo_step (ok_skip rfl (blt_lt rfl) rfl) rfl ?_; refine vo_step (ok_skip rfl (blt_lt rfl) rfl) rfl ?_; refine vo_step (ok_skip rfl (blt_lt rfl) rfl) rfl ?_; refine vo_step (ok_skip rfl (blt_lt rfl) rfl) rfl ?_; refine vo_step (ok_pick rfl rfl rfl rfl) rfl ?_; refine vo_step (ok_move rfl rfl rfl) rfl ?_; refine vo_step (ok_move rfl rfl rfl) rfl ?_; refine vo_step (ok_move rfl rfl rfl) rfl ?_; refine vo_step (ok_indexS L rfl rfl rfl rfl rfl (by assumption)) rfl ?_; refine vo_step (ok_geq rfl rfl rfl rfl (decide_eq_true (by omega))) rfl ?_; refine vo_step (ok_move rfl rfl rfl) rfl ?_; refine vo_step (ok_move rfl rfl rfl) rfl ?_; refine vo_step (ok_move rfl rfl rfl) rfl ?_; refine vo_step (ok_indexS L rfl rfl rfl rfl rfl (by assumption)) rfl ?_; refine vo_step (ok_leq rfl rfl rfl rfl (decide_eq_false (by omega))) rfl ?_; refine vo_step (ok_pick rfl rfl rfl rfl) rfl ?_; refine vo_step (ok_pick rfl rfl rfl rfl) rfl ?_; refine vo_step (ok_assign rfl rfl rfl) rfl ?_; refine vo_nil ?_; refine N_block ?_; refine N_seq ?_; refine V_region (id := 4) ?_; refine vo_step (ok_move rfl rfl rfl) rfl ?_; refine vo_step (ok_add rfl rfl rfl rfl (wrap_i64 (by omega) (by omega))) rfl ?_; refine vo_step (ok_assign rfl rfl rfl) rfl ?_; refine vo_nil ?_
              exact N_round (x := (k, true)) (k + 1, false) ⟨hlt, fun h => (by cases h), fun _ => chk_at hc (okB_2 (by omega) (by omega))⟩ (by dsimp only; omega) ⟨rfl, rfl, rfl, trivial⟩
          · refine V_seq ?_; refine V_seq ?_; refine V_region (id := 3) ?_; refine vo_step (ok_move rfl rfl rfl) rfl ?_; refine vo_step (ok_move rfl rfl rfl) rfl ?_; refine vo_step (ok_lenS L rfl rfl rfl rfl) rfl ?_; refine vo_step (ok_lss rfl rfl rfl rfl (decide_eq_true (by omega))) rfl ?_; refine vo_step (ok_move rfl rfl rfl) rfl ?_; refine vo_step (ok_move rfl rfl rfl) rfl ?_; refine vo_step (ok_pick rfl rfl rfl rfl) rfl ?_; refine vo_nil ?_; refine N_seq ?_; refine V_true rfl ?_; refine V_skip ?_; refine N_seq ?_; refine V_seq ?_; refine V_block ?_; refine V_region (id := 5) ?_; refine vo_step (ok_move rfl rfl rfl) rfl ?_; refine vo_step (ok_move rfl rfl rfl) rfl ?_; refine vo_step (ok_indexS L rfl rfl rfl rfl rfl (by assumption)) rfl ?_; refine vo_step (ok_geq rfl rfl rfl rfl (decide_eq_false (by omega))) rfl ?_; refine vo_step (ok_move rfl rfl rfl) rfl ?_; refine vo_step (ok_skip rfl (blt_lt rfl) rfl) rfl ?_; refine vo_step (ok_skip rfl (blt_lt rfl) rfl) rfl ?_; refine vo_step (ok_skip rfl (blt_lt rfl) rfl) rfl ?_; refine vo_step (ok_skip rfl (blt_lt rfl) rfl) rfl ?_; refine vo_step (ok_pick rfl rfl rfl rfl) rfl ?_; refine vo_step (ok_move rfl rfl rfl) rfl ?_; refine vo_step (ok_move rfl rfl rfl) rfl ?_; refine vo_step (ok_move rfl rfl rfl) rfl ?_; refine vo_step (ok_indexS L rfl rfl rfl rfl rfl (by assumption)) rfl ?_; refine vo_step (ok_geq rfl rfl rfl rfl (decide_eq_false (by omega))) rfl ?_; refine vo_step (ok_move rfl rfl rfl) rfl ?_; refine vo_step (ok_skip rfl (blt_lt rfl) rfl) rfl ?_; refine vo_step (ok_skip rfl (blt_lt rfl) rfl) rfl ?_; refine vo_step (ok_skip rfl (blt_lt rfl) rfl) rfl ?_; refine vo_step (ok_skip rfl (blt_lt rfl) rfl) rfl ?_; refine vo_step (ok_pick rfl rfl rfl rfl) rfl ?_; refine vo_step (ok_pick rfl rfl rfl rfl) rfl ?_; refine vo_step (ok_assign rfl rfl rfl) rfl ?_; refine vo_nil ?_; refine N_block ?_; refine N_seq ?_; refine V_region (id := 4) ?_; refine vo_step (ok_move rfl rfl rfl) rfl ?_; refine vo_step (ok_add rfl rfl rfl rfl (wrap_i64 (by omega) (by omega))) rfl ?_; refine vo_step (ok_assign rfl rfl rfl) rfl ?_; refine vo_nil ?_
            exact N_round (x := (k, true)) (k + 1, false) ⟨hlt, fun h => (by cases h), fun _ => chk_at hc (okB_1 (by omega) (by omega))⟩ (by dsimp only; omega) ⟨rfl, rfl, rfl, trivial⟩
    · cases b with
      | false =>
        refine V_seq ?_; refine V_seq ?_; refine V_region (id := 3) ?_; refine vo_step (ok_move rfl rfl rfl) rfl ?_; refine vo_step (ok_move rfl rfl rfl) rfl ?_; refine vo_step (ok_lenS L rfl rfl rfl rfl) rfl ?_; refine vo_step (ok_lss rfl rfl rfl rfl (decide_eq_false (by omega))) rfl ?_; refine vo_step (ok_move rfl rfl rfl) rfl ?_; refine vo_step (ok_skip rfl (blt_lt rfl) rfl) rfl ?_; refine vo_step (ok_pick rfl rfl rfl rfl) rfl ?_; refine vo_nil ?_; refine N_seq ?_; refine V_false rfl ?_; refine V_exit ?_; refine X_then ?_; refine X_then ?_; refine X_here ?_; refine N_seq ?_; refine V_seq ?_; refine V_seq ?_; refine V_region (id := 6) ?_; refine vo_step (ok_move rfl rfl rfl) rfl ?_; refine vo_nil ?_; refine N_seq ?_; refine V_false rfl ?_; refine V_skip ?_; refine N_seq ?_; refine V_seq ?_; refine V_region (id := 8) ?_; refine vo_step (ok_assign rfl rfl rfl) rfl ?_; refine vo_nil ?_; refine N_seq ?_
        refine V_ret L (rs := [.tmp 2]) rfl (fun _ _ h => h) Since.refl fun u H hH hle => ?_
        exact congrArg _ (hbad rfl).symm
      | true =>
        refine V_seq ?_; refine V_seq ?_; refine V_region (id := 3) ?_; refine vo_step (ok_move rfl rfl rfl) rfl ?_; refine vo_step (ok_move rfl rfl rfl) rfl ?_; refine vo_step (ok_lenS L rfl rfl rfl rfl) rfl ?_; refine vo_step (ok_lss rfl rfl rfl rfl (decide_eq_false (by omega))) rfl ?_; refine vo_step (ok_move rfl rfl rfl) rfl ?_; refine vo_step (ok_skip rfl (blt_lt rfl) rfl) rfl ?_; refine vo_step (ok_pick rfl rfl rfl rfl) rfl ?_; refine vo_nil ?_; refine N_seq ?_; refine V_false rfl ?_; refine V_exit ?_; refine X_then ?_; refine X_then ?_; refine X_here ?_; refine N_seq ?_; refine V_seq ?_; refine V_seq ?_; refine V_region (id := 6) ?_; refine vo_step (ok_move rfl rfl rfl) rfl ?_; refine vo_nil ?_; refine N_seq ?_; refine V_true rfl ?_; refine V_seq ?_; refine V_region (id := 7) ?_; refine vo_step (ok_assign rfl rfl rfl) rfl ?_; refine vo_nil ?_; refine N_seq ?_
        refine V_ret L (rs := [.tmp 2]) rfl (fun _ _ h => h) Since.refl fun u H hH hle => ?_
        exact congrArg _ (chk_all h1 h2 (all_take (by omega) (hall rfl))).symm
  · have hbad := chk_bad h0
    by_cases h1 : 1 ≤ s.size
    · have h2 : 16 < s.size := by omega
      refine V_seq ?_; refine V_region (id := 0) ?_; refine vo_step (ok_assign rfl rfl rfl) rfl ?_; refine vo_nil ?_; refine N_seq ?_; refine V_seq ?_; refine V_region (id := 1) ?_; refine vo_step (ok_move rfl rfl rfl) rfl ?_; refine vo_step (ok_lenS L rfl rfl rfl rfl) rfl ?_; refine vo_step (ok_gtr rfl rfl rfl rfl (decide_eq_true (by omega))) rfl ?_; refine vo_step (ok_move rfl rfl rfl) rfl ?_; refine vo_step (ok_move rfl rfl rfl) rfl ?_; refine vo_step (ok_lenS L rfl rfl rfl rfl) rfl ?_; refine vo_step (ok_leq rfl rfl rfl rfl (decide_eq_false (by omega))) rfl ?_; refine vo_step (ok_pick rfl rfl rfl rfl) rfl ?_; refine vo_step (ok_assign rfl rfl rfl) rfl ?_; refine vo_nil ?_; refine N_seq ?_; refine V_seq ?_; refine V_seq ?_; refine V_region (id := 2) ?_; refine vo_step (ok_assign rfl rfl rfl) rfl ?_; refine vo_nil ?_; refine N_seq ?_; refine V_block ?_
      refine V_loop (fun _ : Unit => [(0, .is (.string s)), (3, .is (.bool false)), (4, .is (.int .i64 0))]) (fun _ => True) (fun _ => 0) () trivial ⟨rfl, rfl, rfl, trivial⟩ ?_
      rintro _ _
      refine V_seq ?_; refine V_seq ?_; refine V_region (id := 3) ?_; refine vo_step (ok_move rfl rfl rfl) rfl ?_; refine vo_step (ok_move rfl rfl rfl) rfl ?_; refine vo_step (ok_lenS L rfl rfl rfl rfl) rfl ?_; refine vo_step (ok_lss rfl rfl rfl rfl (decide_eq_true (by omega))) rfl ?_; refine vo_step (ok_move rfl rfl rfl) rfl ?_; refine vo_step (ok_move rfl rfl rfl) rfl ?_; refine vo_step (ok_pick rfl rfl rfl rfl) rfl ?_; refine vo_nil ?_; refine N_seq ?_; refine V_false rfl ?_; refine V_exit ?_; refine X_then ?_; refine X_then ?_; refine X_here ?_; refine N_seq ?_; refine V_seq ?_; refine V_seq ?_; refine V_region (id := 6) ?_; refine vo_step (ok_move rfl rfl rfl) rfl ?_; refine vo_nil ?_; refine N_seq ?_; refine V_false rfl ?_; refine V_skip ?_; refine N_seq ?_; refine V_seq ?_; refine V_region (id := 8) ?_; refine vo_step (ok_assign rfl rfl rfl) rfl ?_; refine vo_nil ?_; refine N_seq ?_
      refine V_ret L (rs := [.tmp 2]) rfl (fun _ _ h => h) Since.refl fun u H hH hle => ?_
      exact congrArg _ hbad.symm
    · refine V_seq ?_; refine V_region (id := 0) ?_; refine vo_step (ok_assign rfl rfl rfl) rfl ?_; refine vo_nil ?_; refine N_seq ?_; refine V_seq ?_; refine V_region (id := 1) ?_; refine vo_step (ok_move rfl rfl rfl) rfl ?_; refine vo_step (ok_lenS L rfl rfl rfl rfl) rfl ?_; refine vo_step (ok_gtr rfl rfl rfl rfl (decide_eq_false (by omega))) rfl ?_; refine vo_step (ok_move rfl rfl rfl) rfl ?_; refine vo_step (ok_skip rfl (blt_lt rfl) rfl) rfl ?_; refine vo_step (ok_skip rfl (blt_lt rfl) rfl) rfl ?_; refine vo_step (ok_skip rfl (blt_lt rfl) rfl) rfl ?_; refine vo_step (ok_pick rfl rfl rfl rfl) rfl ?_; refine vo_step (ok_assign rfl rfl rfl) rfl ?_; refine vo_nil ?_; refine N_seq ?_; refine V_seq ?_; refine V_seq ?_; refine V_region (id := 2) ?_; refine vo_step (ok_assign rfl rfl rfl) rfl ?_; refine vo_nil ?_; refine N_seq ?_; refine V_block ?_
      refine V_loop (fun _ : Unit => [(0, .is (.string s)), (3, .is (.bool false)), (4, .is (.int .i64 0))]) (fun _ => True) (fun _ => 0) () trivial ⟨rfl, rfl, rfl, trivial⟩ ?_
      rintro _ _
      refine V_seq ?_; refine V_seq ?_; refine V_region (id := 3) ?_; refine vo_step (ok_move rfl rfl rfl) rfl ?_; refine vo_step (ok_move rfl rfl rfl) rfl ?_; refine vo_step (ok_lenS L rfl rfl rfl rfl) rfl ?_; refine vo_step (ok_lss rfl rfl rfl rfl (decide_eq_false (by omega))) rfl ?_; refine vo_step (ok_move rfl rfl rfl) rfl ?_; refine vo_step (ok_skip rfl (blt_lt rfl) rfl) rfl ?_; refine vo_step (ok_pick rfl rfl rfl rfl) rfl ?_; refine vo_nil ?_; refine N_seq ?_; refine V_false rfl ?_; refine V_exit ?_; refine X_then ?_; refine X_then ?_; refine X_here ?_; refine N_seq ?_; refine V_seq ?_; refine V_seq ?_; refine V_region (id := 6) ?_; refine vo_step (ok_move rfl rfl rfl) rfl ?_; refine vo_nil ?_; refine N_seq ?_; refine V_false rfl ?_; refine V_skip ?_; refine N_seq ?_; refine V_seq ?_; refine V_region (id := 8) ?_; refine vo_step (ok_assign rfl rfl rfl) rfl ?_; refine vo_nil ?_; refine N_seq ?_
      refine V_ret L (rs := [.tmp 2]) rfl (fun _ _ h => h) Since.refl fun u H hH hle => ?_
      exact congrArg _ hbad.symm
theorem max2 (a b : ByteArray) : (if chk b > chk a then chk b else chk a) = allE [a, b] := by
  simp only [allE]
  rcases chk_cases a with h | h <;> rcases chk_cases b with h' | h' <;> simp [h, h']
theorem max3 (a b c : ByteArray) : (if chk c > allE [a, b] then chk c else allE [a, b]) = allE [a, b, c] := by
  simp only [allE]
  rcases chk_cases a with h | h <;> rcases chk_cases b with h' | h' <;> rcases chk_cases c with h'' | h'' <;> simp [h, h', h'']
theorem robject_ret {a b : ByteArray} (ha : a.size ≤ 1099511627776) (hb : b.size ≤ 1099511627776) {w : World} {B : Heap} (hB : B.Le (hp w)) :
    Ret Try.prog 118 [.agg #[.string a, .string b]] w B (fun v _ => v = .int .i64 (allE [a, b])) := by
  refine V_enter Try.func118 rfl Try.ntmps118 (Nat.le_of_ble_eq_true rfl) hB ?_
  refine V_seq ?_; refine V_region (id := 0) ?_; refine vo_step (ok_box rfl rfl rfl rfl) rfl ?_; refine vo_step (ok_assign rfl rfl rfl) rfl ?_; refine vo_nil ?_; refine N_seq ?_; refine V_seq ?_; refine V_regionD (id := 1) [] mixed (by kernel_rfl) ?_; refine par_step (ok_fieldAt L rfl rfl rfl rfl) rfl ?_; refine par_step (ok_load1 L (src_at rfl) rfl rfl rfl rfl) rfl ?_; refine par_step (ok_callx L rfl rfl (blt_lt rfl) rfl rfl rfl (fun u H hH _ _ => rcheck_ret (by first | omega | decide) hH)) rfl ?_; refine par_step (ok_fieldAt L rfl rfl rfl rfl) rfl ?_; refine par_step (ok_load1 L (src_at rfl) rfl rfl rfl rfl) rfl ?_; refine par_step (ok_callx L rfl rfl (blt_lt rfl) rfl rfl rfl (fun u H hH _ _ => rcheck_ret (by first | omega | decide) hH)) rfl ?_; refine par_step (ok_max rfl rfl rfl rfl rfl) rfl ?_; refine par_step (ok_assign rfl rfl rfl) rfl ?_; refine par_nil ?_; refine N_seq ?_
  refine V_ret L (rs := [.tmp 2]) rfl (fun _ _ h => h) Since.refl fun u H hH hle => ?_
  exact congrArg _ (max2 a b)
theorem rgoal_ret {a b c : ByteArray} (ha : a.size ≤ 1099511627776) (hb : b.size ≤ 1099511627776) (hc : c.size ≤ 1099511627776) {w : World} {B : Heap} (hB : B.Le (hp w)) :
    Ret Try.prog 91 [.agg #[.string a, .string b, .string c]] w B (fun v _ => v = .int .i64 (allE [a, b, c])) := by
  refine V_enter Try.func91 rfl Try.ntmps91 (Nat.le_of_ble_eq_true rfl) hB ?_
  refine V_seq ?_; refine V_region (id := 0) ?_; refine vo_step (ok_box rfl rfl rfl rfl) rfl ?_; refine vo_step (ok_assign rfl rfl rfl) rfl ?_; refine vo_nil ?_; refine N_seq ?_; refine V_seq ?_; refine V_regionD (id := 1) [] mixed (by kernel_rfl) ?_; refine par_step (ok_fieldAt L rfl rfl rfl rfl) rfl ?_; refine par_step (ok_loadA L (vs := [_, _]) (src_at rfl) rfl rfl rfl rfl ⟨_, rfl⟩) rfl ?_; refine par_step (ok_callx L rfl rfl (blt_lt rfl) rfl rfl rfl (fun u H hH _ _ => robject_ret (by first | assumption | decide) (by first | assumption | decide) hH)) rfl ?_; refine par_step (ok_fieldAt L rfl rfl rfl rfl) rfl ?_; refine par_step (ok_load1 L (src_at rfl) rfl rfl rfl rfl) rfl ?_; refine par_step (ok_callx L rfl rfl (blt_lt rfl) rfl rfl rfl (fun u H hH _ _ => rcheck_ret (by first | omega | decide) hH)) rfl ?_; refine par_step (ok_max rfl rfl rfl rfl rfl) rfl ?_; refine par_step (ok_assign rfl rfl rfl) rfl ?_; refine par_nil ?_; refine N_seq ?_
  refine V_ret L (rs := [.tmp 2]) rfl (fun _ _ h => h) Since.refl fun u H hH hle => ?_
  exact congrArg _ (max3 a b c)
theorem size_nil {c : ByteArray} (h : c.size = 0) : c = ⟨#[]⟩ := by
  obtain ⟨⟨l⟩⟩ := c
  have h' : l.length = 0 := h
  rw [List.eq_nil_of_length_eq_zero h']
theorem rsubject_ret {a b c : ByteArray} (ha : a.size ≤ 1099511627776) (hb : b.size ≤ 1099511627776) (hc : c.size ≤ 1099511627776) {w : World} {B : Heap} (hB : B.Le (hp w)) :
    Ret Try.prog 92 [.agg #[.string a, .string b, .string c]] w B (fun v _ => v = .int .i64 (subjE a b c)) := by
  refine V_enter Try.func92 rfl Try.ntmps92 (Nat.le_of_ble_eq_true rfl) hB ?_
  by_cases h : c.size = 0
  · refine V_seq ?_; refine V_region (id := 0) ?_; refine vo_step (ok_box rfl rfl rfl rfl) rfl ?_; refine vo_step (ok_assign rfl rfl rfl) rfl ?_; refine vo_nil ?_; refine N_seq ?_; refine V_seq ?_; refine V_seq ?_; refine V_region (id := 1) ?_; refine vo_step (ok_fieldAt L rfl rfl rfl rfl) rfl ?_; refine vo_step (ok_load1 L (src_at rfl) rfl rfl rfl rfl) rfl ?_; refine vo_step (ok_lenS L rfl rfl rfl rfl) rfl ?_; refine vo_step (ok_eql rfl rfl rfl rfl (decide_eq_true (by omega))) rfl ?_; refine vo_nil ?_; refine N_seq ?_; refine V_true rfl ?_; refine V_seq ?_; refine V_region (id := 2) ?_; refine vo_step (ok_fieldAt L rfl rfl rfl rfl) rfl ?_; refine vo_step (ok_loadA L (vs := [_, _]) (src_at rfl) rfl rfl rfl rfl ⟨_, rfl⟩) rfl ?_; refine vo_step (ok_callx L rfl rfl (blt_lt rfl) rfl rfl rfl (fun u H hH _ _ => robject_ret (by first | assumption | decide) (by first | assumption | decide) hH)) rfl ?_; refine vo_step (ok_assign rfl rfl rfl) rfl ?_; refine vo_nil ?_; refine N_seq ?_
    refine V_ret L (rs := [.tmp 2]) rfl (fun _ _ h => h) Since.refl fun u H hH hle => ?_
    exact congrArg (Value.int .i64) (show allE [a, b] = subjE a b c from (if_pos (size_nil h)).symm)
  · refine V_seq ?_; refine V_region (id := 0) ?_; refine vo_step (ok_box rfl rfl rfl rfl) rfl ?_; refine vo_step (ok_assign rfl rfl rfl) rfl ?_; refine vo_nil ?_; refine N_seq ?_; refine V_seq ?_; refine V_seq ?_; refine V_region (id := 1) ?_; refine vo_step (ok_fieldAt L rfl rfl rfl rfl) rfl ?_; refine vo_step (ok_load1 L (src_at rfl) rfl rfl rfl rfl) rfl ?_; refine vo_step (ok_lenS L rfl rfl rfl rfl) rfl ?_; refine vo_step (ok_eql rfl rfl rfl rfl (decide_eq_false (by omega))) rfl ?_; refine vo_nil ?_; refine N_seq ?_; refine V_false rfl ?_; refine V_skip ?_; refine N_seq ?_; refine V_seq ?_; refine V_regionD (id := 3) [] mixed (by kernel_rfl) ?_; refine par_step (ok_fieldAt L rfl rfl rfl rfl) rfl ?_; refine par_step (ok_loadA L (vs := [_, _]) (src_at rfl) rfl rfl rfl rfl ⟨_, rfl⟩) rfl ?_; refine par_step (ok_callx L rfl rfl (blt_lt rfl) rfl rfl rfl (fun u H hH _ _ => robject_ret (by first | assumption | decide) (by first | assumption | decide) hH)) rfl ?_; refine par_step (ok_fieldAt L rfl rfl rfl rfl) rfl ?_; refine par_step (ok_load1 L (src_at rfl) rfl rfl rfl rfl) rfl ?_; refine par_step (ok_callx L rfl rfl (blt_lt rfl) rfl rfl rfl (fun u H hH _ _ => rcheck_ret (by first | omega | decide) hH)) rfl ?_; refine par_step (ok_max rfl rfl rfl rfl rfl) rfl ?_; refine par_step (ok_assign rfl rfl rfl) rfl ?_; refine par_nil ?_; refine N_seq ?_
    refine V_ret L (rs := [.tmp 2]) rfl (fun _ _ h => h) Since.refl fun u H hH hle => ?_
    exact congrArg (Value.int .i64) ((max3 a b c).trans (show allE [a, b, c] = subjE a b c from (if_neg (fun e => h (by subst e; rfl))).symm))
theorem rgoalText_ret {a b c : ByteArray} (ha : a.size ≤ 1099511627776) (hb : b.size ≤ 1099511627776) (hc : c.size ≤ 1099511627776) {w : World} {B : Heap} (hB : B.Le (hp w)) :
    Ret Try.prog 93 [.agg #[.string a, .string b, .string c]] w B (fun v _ => v = .string (goalT a b c)) := by
  have hz : a.size + sCol.size ≤ 9223372036854775807 := by rw [size_sCol]; omega
  have hz2 : (a ++ sCol).size + b.size ≤ 9223372036854775807 := by rw [ByteArray.size_append, size_sCol]; omega
  have hz3 : (a ++ sCol ++ b).size + sHash.size ≤ 9223372036854775807 := by rw [size_sHash]; have := objT_size a b; unfold objT at this; omega
  have hz4 : (a ++ sCol ++ b ++ sHash).size + c.size ≤ 9223372036854775807 := by rw [ByteArray.size_append, size_sHash]; have := objT_size a b; unfold objT at this; omega
  refine V_enter Try.func93 rfl Try.ntmps93 (Nat.le_of_ble_eq_true rfl) hB ?_
  refine V_seq ?_; refine V_region (id := 0) ?_; refine vo_step (ok_box rfl rfl rfl rfl) rfl ?_; refine vo_step (ok_assign rfl rfl rfl) rfl ?_; refine vo_nil ?_; refine N_seq ?_; refine V_seq ?_; refine V_region (id := 1) ?_; refine vo_step (ok_fieldAt L rfl rfl rfl rfl) rfl ?_; refine vo_step (ok_fieldAt L rfl rfl rfl rfl) rfl ?_; refine vo_step (ok_load1 L (src_at rfl) rfl rfl rfl rfl) rfl ?_; refine vo_step (ok_sadd rfl rfl rfl rfl (by assumption) rfl) rfl ?_; refine vo_step (ok_fieldAt L rfl rfl rfl rfl) rfl ?_; refine vo_step (ok_fieldAt L rfl rfl rfl rfl) rfl ?_; refine vo_step (ok_load1 L (src_at rfl) rfl rfl rfl rfl) rfl ?_; refine vo_step (ok_sadd rfl rfl rfl rfl (by assumption) rfl) rfl ?_; refine vo_step (ok_sadd rfl rfl rfl rfl (by assumption) rfl) rfl ?_; refine vo_step (ok_fieldAt L rfl rfl rfl rfl) rfl ?_; refine vo_step (ok_load1 L (src_at rfl) rfl rfl rfl rfl) rfl ?_; refine vo_step (ok_sadd rfl rfl rfl rfl (by assumption) rfl) rfl ?_; refine vo_step (ok_assign rfl rfl rfl) rfl ?_; refine vo_nil ?_; refine N_seq ?_
  refine V_ret L (rs := [.tmp 2]) rfl (fun _ _ h => h) Since.refl fun u H hH hle => ?_
  rfl
theorem rsubjText_ret {a b c : ByteArray} (ha : a.size ≤ 1099511627776) (hb : b.size ≤ 1099511627776) (hc : c.size ≤ 1099511627776) {w : World} {B : Heap} (hB : B.Le (hp w)) :
    Ret Try.prog 94 [.agg #[.string a, .string b, .string c]] w B (fun v _ => v = .string (subjT a b c)) := by
  have hz : a.size + sCol.size ≤ 9223372036854775807 := by rw [size_sCol]; omega
  have hz2 : (a ++ sCol).size + b.size ≤ 9223372036854775807 := by rw [ByteArray.size_append, size_sCol]; omega
  have hz3 : (a ++ sCol ++ b).size + sHash.size ≤ 9223372036854775807 := by rw [size_sHash]; have := objT_size a b; unfold objT at this; omega
  have hz4 : (a ++ sCol ++ b ++ sHash).size + c.size ≤ 9223372036854775807 := by rw [ByteArray.size_append, size_sHash]; have := objT_size a b; unfold objT at this; omega
  refine V_enter Try.func94 rfl Try.ntmps94 (Nat.le_of_ble_eq_true rfl) hB ?_
  by_cases h : c.size = 0
  · refine V_seq ?_; refine V_region (id := 0) ?_; refine vo_step (ok_box rfl rfl rfl rfl) rfl ?_; refine vo_step (ok_assign rfl rfl rfl) rfl ?_; refine vo_nil ?_; refine N_seq ?_; refine V_seq ?_; refine V_seq ?_; refine V_region (id := 1) ?_; refine vo_step (ok_fieldAt L rfl rfl rfl rfl) rfl ?_; refine vo_step (ok_load1 L (src_at rfl) rfl rfl rfl rfl) rfl ?_; refine vo_step (ok_lenS L rfl rfl rfl rfl) rfl ?_; refine vo_step (ok_eql rfl rfl rfl rfl (decide_eq_true (by omega))) rfl ?_; refine vo_nil ?_; refine N_seq ?_; refine V_true rfl ?_; refine V_seq ?_; refine V_region (id := 2) ?_; refine vo_step (ok_fieldAt L rfl rfl rfl rfl) rfl ?_; refine vo_step (ok_fieldAt L rfl rfl rfl rfl) rfl ?_; refine vo_step (ok_load1 L (src_at rfl) rfl rfl rfl rfl) rfl ?_; refine vo_step (ok_sadd rfl rfl rfl rfl (by assumption) rfl) rfl ?_; refine vo_step (ok_fieldAt L rfl rfl rfl rfl) rfl ?_; refine vo_step (ok_fieldAt L rfl rfl rfl rfl) rfl ?_; refine vo_step (ok_load1 L (src_at rfl) rfl rfl rfl rfl) rfl ?_; refine vo_step (ok_sadd rfl rfl rfl rfl (by assumption) rfl) rfl ?_; refine vo_step (ok_assign rfl rfl rfl) rfl ?_; refine vo_nil ?_; refine N_seq ?_
    refine V_ret L (rs := [.tmp 2]) rfl (fun _ _ h => h) Since.refl fun u H hH hle => ?_
    exact congrArg Value.string (show objT a b = subjT a b c from (if_pos (size_nil h)).symm)
  · refine V_seq ?_; refine V_region (id := 0) ?_; refine vo_step (ok_box rfl rfl rfl rfl) rfl ?_; refine vo_step (ok_assign rfl rfl rfl) rfl ?_; refine vo_nil ?_; refine N_seq ?_; refine V_seq ?_; refine V_seq ?_; refine V_region (id := 1) ?_; refine vo_step (ok_fieldAt L rfl rfl rfl rfl) rfl ?_; refine vo_step (ok_load1 L (src_at rfl) rfl rfl rfl rfl) rfl ?_; refine vo_step (ok_lenS L rfl rfl rfl rfl) rfl ?_; refine vo_step (ok_eql rfl rfl rfl rfl (decide_eq_false (by omega))) rfl ?_; refine vo_nil ?_; refine N_seq ?_; refine V_false rfl ?_; refine V_skip ?_; refine N_seq ?_; refine V_seq ?_; refine V_region (id := 3) ?_; refine vo_step (ok_fieldAt L rfl rfl rfl rfl) rfl ?_; refine vo_step (ok_fieldAt L rfl rfl rfl rfl) rfl ?_; refine vo_step (ok_load1 L (src_at rfl) rfl rfl rfl rfl) rfl ?_; refine vo_step (ok_sadd rfl rfl rfl rfl (by assumption) rfl) rfl ?_; refine vo_step (ok_fieldAt L rfl rfl rfl rfl) rfl ?_; refine vo_step (ok_fieldAt L rfl rfl rfl rfl) rfl ?_; refine vo_step (ok_load1 L (src_at rfl) rfl rfl rfl rfl) rfl ?_; refine vo_step (ok_sadd rfl rfl rfl rfl (by assumption) rfl) rfl ?_; refine vo_step (ok_sadd rfl rfl rfl rfl (by assumption) rfl) rfl ?_; refine vo_step (ok_fieldAt L rfl rfl rfl rfl) rfl ?_; refine vo_step (ok_load1 L (src_at rfl) rfl rfl rfl rfl) rfl ?_; refine vo_step (ok_sadd rfl rfl rfl rfl (by assumption) rfl) rfl ?_; refine vo_step (ok_assign rfl rfl rfl) rfl ?_; refine vo_nil ?_; refine N_seq ?_
    refine V_ret L (rs := [.tmp 2]) rfl (fun _ _ h => h) Since.refl fun u H hH hle => ?_
    exact congrArg Value.string (show goalT a b c = subjT a b c from (if_neg (fun e => h (by subst e; rfl))).symm)
end Go.V
/- The walks of the definition of tuples (chapter 2). -/
namespace Go.V.L2
open Go.Proofs Go.RowKit Go.V
theorem allE_two : ∀ (l : List ByteArray), allE l = 0 ∨ allE l = 6
  | [] => .inl rfl
  | s :: l => by
    simp only [allE]
    split
    · exact allE_two l
    · rename_i h; exact .inr ((chk_cases s).resolve_left h)
theorem subjE_two (a b c : ByteArray) : subjE a b c = 0 ∨ subjE a b c = 6 := by
  unfold subjE
  split <;> exact allE_two _
theorem tE_max (t : U) : (if subjE t.2.1.1 t.2.1.2 t.2.2 > allE [t.1.1.1, t.1.1.2, t.1.2] then subjE t.2.1.1 t.2.1.2 t.2.2 else allE [t.1.1.1, t.1.1.2, t.1.2]) = tE t := by
  unfold tE
  rcases allE_two [t.1.1.1, t.1.1.2, t.1.2] with h | h <;> rcases subjE_two t.2.1.1 t.2.1.2 t.2.2 with h' | h' <;> rw [h, h'] <;> decide
theorem eqU {t v : U} {r : Bool} (e : decide (t = v) = r) : eqCs [0, 0, 0, 0, 0, 0] [.string t.1.1.1, .string t.1.1.2, .string t.1.2, .string t.2.1.1, .string t.2.1.2, .string t.2.2] [.string v.1.1.1, .string v.1.1.2, .string v.1.2, .string v.2.1.1, .string v.2.1.2, .string v.2.2] = some r := by
  subst e
  simp only [eqCs, eqC]
  have h := @u_eq t v
  by_cases hh : t = v
  · subst hh; simp
  · rw [decide_eq_false hh]
    have h' := fun x => hh (h.1 x)
    by_cases a1 : t.1.1.1 = v.1.1.1
    · by_cases a2 : t.1.1.2 = v.1.1.2
      · by_cases a3 : t.1.2 = v.1.2
        · by_cases a4 : t.2.1.1 = v.2.1.1
          · by_cases a5 : t.2.1.2 = v.2.1.2
            · by_cases a6 : t.2.2 = v.2.2
              · exact absurd ⟨a1, a2, a3, a4, a5, a6⟩ h'
              · simp [a6]
            · simp [a5]
          · simp [a4]
        · simp [a3]
      · simp [a2]
    · simp [a1]
theorem eq3 {g h : Str3} {r : Bool} (e : decide (g = h) = r) : eqCs [0, 0, 0] [.string g.1.1, .string g.1.2, .string g.2] [.string h.1.1, .string h.1.2, .string h.2] = some r :=
  eqCs3 (by rw [← e]; exact decide_eq_decide.2 ⟨fun ⟨a, b, c⟩ => Prod.ext (Prod.ext a b) c, fun e => by subst e; exact ⟨rfl, rfl, rfl⟩⟩)
theorem cmpT_1 {a b : U} (h : a.1 ≠ b.1) : cmpT a b = cmp3 a.1 b.1 := by
  unfold cmpT lexC; rw [orL2, if_neg fun e => h (cmp3_ord.eq _ _ e)]
theorem cmpT_2 {a b : U} (h : a.1 = b.1) : cmpT a b = cmp3 a.2 b.2 := by
  unfold cmpT lexC; rw [orL2, if_pos (by rw [h]; exact cmp3_ord.refl _)]
theorem take_s {α : Type} {l : List α} {k : Nat} {g : α} (h : l[k]? = some g) : l.take (k + 1) = l.take k ++ [g] := by rw [List.take_add_one, h]; rfl
theorem drop_g {α : Type} {l : List α} {k : Nat} {g : α} (h : l[k]? = some g) : l.drop k = g :: l.drop (k + 1) := by
  obtain ⟨hl, he⟩ := List.getElem?_eq_some_iff.1 h
  rw [List.drop_eq_getElem_cons hl, he]
theorem ups_snoc {κ : Kap} {s : Nat} {r : List U} {t : U} (h : κ s = some (.own (SlR tyU 6 (r.length + 1) (r.flatMap ucs ++ [.string t.1.1.1, .string t.1.1.2, .string t.1.2, .string t.2.1.1, .string t.2.1.2, .string t.2.2])))) : κ s = some (.own (SlR tyU 6 (r ++ [t]).length ((r ++ [t]).flatMap ucs))) := by
  rw [h, List.flatMap_append, List.length_append]; rfl
attribute [local irreducible] V N X VO Par StepOK Has Ret RetL Src
theorem rtcheck_ret {t : U} (hz : TZ t) {w : World} {B : Heap} (hB : B.Le (hp w)) : Ret Try.prog 55 [uv t] w B (fun v _ => v = .int .i64 (tE t)) := by
  obtain ⟨⟨z1, z2, z3⟩, z4, z5, z6⟩ := hz
  have hm := tE_max t
  refine V_enter Try.func55 rfl Try.ntmps55 (Nat.le_of_ble_eq_true rfl) hB ?_
  refine V_seq ?_; refine V_region (id := 0) ?_; refine vo_step (ok_box rfl rfl rfl rfl) rfl ?_; refine vo_step (ok_assign rfl rfl rfl) rfl ?_; refine vo_nil ?_; refine N_seq ?_; refine V_seq ?_; refine V_regionD (id := 1) [] mixed (by kernel_rfl) ?_; refine par_step (ok_fieldAt L rfl rfl rfl rfl) rfl ?_; refine par_step (ok_loadA L (vs := [_, _, _]) (src_at rfl) rfl rfl rfl rfl ⟨_, rfl⟩) rfl ?_; refine par_step (ok_callx L rfl rfl (blt_lt rfl) rfl rfl rfl (fun u H hH _ _ => rgoal_ret (by first | assumption | decide) (by first | assumption | decide) (by first | assumption | decide) hH)) rfl ?_; refine par_step (ok_fieldAt L rfl rfl rfl rfl) rfl ?_; refine par_step (ok_loadA L (vs := [_, _, _]) (src_at rfl) rfl rfl rfl rfl ⟨_, rfl⟩) rfl ?_; refine par_step (ok_callx L rfl rfl (blt_lt rfl) rfl rfl rfl (fun u H hH _ _ => rsubject_ret (by first | assumption | decide) (by first | assumption | decide) (by first | assumption | decide) hH)) rfl ?_; refine par_step (ok_max rfl rfl rfl rfl (by assumption)) rfl ?_; refine par_step (ok_assign rfl rfl rfl) rfl ?_; refine par_nil ?_; refine N_seq ?_
  refine V_ret L (rs := [.tmp 2]) rfl (fun _ _ h => h) Since.refl fun u H hH hle => ?_
  rfl
theorem rtcmp_ret {a b : U} (ha : TZ a) (hb : TZ b) {w : World} {B : Heap} (hB : B.Le (hp w)) : Ret Try.prog 38 [uv a, uv b] w B (fun v _ => v = .int .i64 (cmpT a b)) := by
  obtain ⟨⟨z1, z2, z3⟩, z4, z5, z6⟩ := ha
  obtain ⟨⟨y1, y2, y3⟩, y4, y5, y6⟩ := hb
  refine V_enter Try.func38 rfl Try.ntmps38 (Nat.le_of_ble_eq_true rfl) hB ?_
  by_cases h : a.1 = b.1
  · have hq := eq3 (decide_eq_true h)
    rw [cmpT_2 h]
    refine V_seq ?_; refine V_region (id := 0) ?_; refine vo_step (ok_box rfl rfl rfl rfl) rfl ?_; refine vo_step (ok_box rfl rfl rfl rfl) rfl ?_; refine vo_step (ok_assign rfl rfl rfl) rfl ?_; refine vo_nil ?_; refine N_seq ?_; refine V_seq ?_; refine V_seq ?_; refine V_region (id := 1) ?_; refine vo_step (ok_fieldAt L rfl rfl rfl rfl) rfl ?_; refine vo_step (ok_loadA L (vs := [_, _, _]) (src_at rfl) rfl rfl rfl rfl ⟨_, rfl⟩) rfl ?_; refine vo_step (ok_fieldAt L rfl rfl rfl rfl) rfl ?_; refine vo_step (ok_loadA L (vs := [_, _, _]) (src_at rfl) rfl rfl rfl rfl ⟨_, rfl⟩) rfl ?_; refine vo_step (ok_aneq rfl rfl rfl rfl eq44 (by assumption) rfl) rfl ?_; refine vo_nil ?_; refine N_seq ?_; refine V_false rfl ?_; refine V_skip ?_; refine N_seq ?_; refine V_seq ?_; refine V_region (id := 3) ?_; refine vo_step (ok_fieldAt L rfl rfl rfl rfl) rfl ?_; refine vo_step (ok_loadA L (vs := [_, _, _]) (src_at rfl) rfl rfl rfl rfl ⟨_, rfl⟩) rfl ?_; refine vo_step (ok_fieldAt L rfl rfl rfl rfl) rfl ?_; refine vo_step (ok_loadA L (vs := [_, _, _]) (src_at rfl) rfl rfl rfl rfl ⟨_, rfl⟩) rfl ?_; refine vo_step (ok_callx L rfl rfl (blt_lt rfl) rfl rfl rfl (fun u H hH _ _ => rcmpU_ret (by first | assumption | decide) (by first | assumption | decide) (by first | assumption | decide) (by first | assumption | decide) (by first | assumption | decide) (by first | assumption | decide) hH)) rfl ?_; refine vo_step (ok_assign rfl rfl rfl) rfl ?_; refine vo_nil ?_; refine N_seq ?_
    refine V_ret L (rs := [.tmp 4]) rfl (fun _ _ h => h) Since.refl fun u H hH hle => ?_
    rfl
  · have hq := eq3 (decide_eq_false h)
    rw [cmpT_1 h]
    refine V_seq ?_; refine V_region (id := 0) ?_; refine vo_step (ok_box rfl rfl rfl rfl) rfl ?_; refine vo_step (ok_box rfl rfl rfl rfl) rfl ?_; refine vo_step (ok_assign rfl rfl rfl) rfl ?_; refine vo_nil ?_; refine N_seq ?_; refine V_seq ?_; refine V_seq ?_; refine V_region (id := 1) ?_; refine vo_step (ok_fieldAt L rfl rfl rfl rfl) rfl ?_; refine vo_step (ok_loadA L (vs := [_, _, _]) (src_at rfl) rfl rfl rfl rfl ⟨_, rfl⟩) rfl ?_; refine vo_step (ok_fieldAt L rfl rfl rfl rfl) rfl ?_; refine vo_step (ok_loadA L (vs := [_, _, _]) (src_at rfl) rfl rfl rfl rfl ⟨_, rfl⟩) rfl ?_; refine vo_step (ok_aneq rfl rfl rfl rfl eq44 (by assumption) rfl) rfl ?_; refine vo_nil ?_; refine N_seq ?_; refine V_true rfl ?_; refine V_seq ?_; refine V_region (id := 2) ?_; refine vo_step (ok_fieldAt L rfl rfl rfl rfl) rfl ?_; refine vo_step (ok_loadA L (vs := [_, _, _]) (src_at rfl) rfl rfl rfl rfl ⟨_, rfl⟩) rfl ?_; refine vo_step (ok_fieldAt L rfl rfl rfl rfl) rfl ?_; refine vo_step (ok_loadA L (vs := [_, _, _]) (src_at rfl) rfl rfl rfl rfl ⟨_, rfl⟩) rfl ?_; refine vo_step (ok_callx L rfl rfl (blt_lt rfl) rfl rfl rfl (fun u H hH _ _ => rcmpG_ret (by first | assumption | decide) (by first | assumption | decide) (by first | assumption | decide) (by first | assumption | decide) (by first | assumption | decide) (by first | assumption | decide) hH)) rfl ?_; refine vo_step (ok_assign rfl rfl rfl) rfl ?_; refine vo_nil ?_; refine N_seq ?_
    refine V_ret L (rs := [.tmp 4]) rfl (fun _ _ h => h) Since.refl fun u H hH hle => ?_
    rfl
theorem rttext_ret {t : U} (hz : TZ t) {w : World} {B : Heap} (hB : B.Le (hp w)) : Ret Try.prog 56 [uv t] w B (fun v _ => v = .string (tT t)) := by
  obtain ⟨⟨z1, z2, z3⟩, z4, z5, z6⟩ := hz
  have h0 : sAt.size = 1 := rfl
  have h1 := goalT_size t.1.1.1 t.1.1.2 t.1.2
  have h2 := subjT_size t.2.1.1 t.2.1.2 t.2.2
  have h3 : (goalT t.1.1.1 t.1.1.2 t.1.2).size + sAt.size ≤ 9223372036854775807 := by omega
  have h4 : (goalT t.1.1.1 t.1.1.2 t.1.2 ++ sAt).size + (subjT t.2.1.1 t.2.1.2 t.2.2).size ≤ 9223372036854775807 := by rw [ByteArray.size_append]; omega
  refine V_enter Try.func56 rfl Try.ntmps56 (Nat.le_of_ble_eq_true rfl) hB ?_
  refine V_seq ?_; refine V_region (id := 0) ?_; refine vo_step (ok_box rfl rfl rfl rfl) rfl ?_; refine vo_step (ok_assign rfl rfl rfl) rfl ?_; refine vo_nil ?_; refine N_seq ?_; refine V_seq ?_; refine V_regionD (id := 1) [] mixed (by kernel_rfl) ?_; refine par_step (ok_fieldAt L rfl rfl rfl rfl) rfl ?_; refine par_step (ok_loadA L (vs := [_, _, _]) (src_at rfl) rfl rfl rfl rfl ⟨_, rfl⟩) rfl ?_; refine par_step (ok_callx L rfl rfl (blt_lt rfl) rfl rfl rfl (fun u H hH _ _ => rgoalText_ret (by first | assumption | decide) (by first | assumption | decide) (by first | assumption | decide) hH)) rfl ?_; refine par_step (ok_sadd rfl rfl rfl rfl (by assumption) rfl) rfl ?_; refine par_step (ok_fieldAt L rfl rfl rfl rfl) rfl ?_; refine par_step (ok_loadA L (vs := [_, _, _]) (src_at rfl) rfl rfl rfl rfl ⟨_, rfl⟩) rfl ?_; refine par_step (ok_callx L rfl rfl (blt_lt rfl) rfl rfl rfl (fun u H hH _ _ => rsubjText_ret (by first | assumption | decide) (by first | assumption | decide) (by first | assumption | decide) hH)) rfl ?_; refine par_step (ok_sadd rfl rfl rfl rfl (by assumption) rfl) rfl ?_; refine par_step (ok_assign rfl rfl rfl) rfl ?_; refine par_nil ?_; refine N_seq ?_
  refine V_ret L (rs := [.tmp 2]) rfl (fun _ _ h => h) Since.refl fun u H hH hle => ?_
  rfl
theorem rin_ret {l : List U} {t : U} {fu : Bool} (hl : l.length ≤ 1000000) {e : Int} (he : (if t ∈ l then 1 else 0 : Int) = e) {v : Value} {w : World} {B : Heap} (hB : B.Le (hp w)) (hv : US l fu v B) :
    Ret Try.prog 39 [v, uv t] w B (fun v _ => v = .int .i64 e) := by
  subst he
  refine V_enter Try.func39 rfl Try.ntmps39 (Nat.le_of_ble_eq_true rfl) hB ?_
  refine V_seen 0 (US l fu) rfl SlV.mono hv ?_
  refine V_seq ?_; refine V_region (id := 0) ?_; refine vo_step (ok_box rfl rfl rfl rfl) rfl ?_; refine vo_step (ok_assign rfl rfl rfl) rfl ?_; refine vo_nil ?_; refine N_seq ?_; refine V_seq ?_; refine V_seq ?_; refine V_region (id := 1) ?_; refine vo_step (ok_assign rfl rfl rfl) rfl ?_; refine vo_nil ?_; refine N_seq ?_; refine V_block ?_
  refine V_loop (fun i : Nat => [(0, .sat (US l fu)), (3, .sat (At [.string t.1.1.1, .string t.1.1.2, .string t.1.2, .string t.2.1.1, .string t.2.1.2, .string t.2.2] tyU 0)), (5, .is (.int .i64 i))])
    (fun i => i ≤ l.length ∧ (t ∈ l ↔ t ∈ l.drop i)) (fun i => l.length - i) 0 ⟨Nat.zero_le _, Iff.rfl⟩ ⟨rfl, rfl, rfl, trivial⟩ ?_
  rintro i ⟨hi, he⟩
  by_cases hlt : i < l.length
  · obtain ⟨y, hy⟩ := get_some hlt
    have hc := us_at hy
    rw [drop_g hy] at he
    by_cases hyt : y = t
    · have hq := eqU (decide_eq_true hyt)
      rw [if_pos (he.2 (by rw [hyt]; exact List.mem_cons_self ..))]
      refine V_seq ?_; refine V_seq ?_; refine V_region (id := 2) ?_; refine vo_step (ok_move rfl rfl rfl) rfl ?_; refine vo_step (ok_moves' rfl rfl rfl) rfl ?_; refine vo_step (ok_lenV L rfl rfl rfl rfl) rfl ?_; refine vo_step (ok_lss rfl rfl rfl rfl (decide_eq_true (by omega))) rfl ?_; refine vo_nil ?_; refine N_seq ?_; refine V_true rfl ?_; refine V_skip ?_; refine N_seq ?_; refine V_seq ?_; refine V_block ?_; refine V_seq ?_; refine V_regionD (id := 4) [] mixed (by kernel_rfl) ?_; refine par_step (ok_moves' rfl rfl rfl) rfl ?_; refine par_step (ok_move rfl rfl rfl) rfl ?_; refine par_step (ok_indexV L _ rfl rfl rfl rfl rfl rfl rfl (by first | omega | decide) (by assumption)) rfl ?_; refine par_step (ok_loadPA L (vs := [_, _, _, _, _, _]) rfl rfl rfl rfl rfl ⟨_, rfl⟩) rfl ?_; refine par_step (ok_loadA L (vs := [_, _, _, _, _, _]) (src_at rfl) rfl rfl rfl rfl ⟨_, rfl⟩) rfl ?_; refine par_step (ok_aeql rfl rfl rfl rfl eq81 (by assumption) rfl) rfl ?_; refine par_nil ?_; refine N_seq ?_; refine V_true rfl ?_; refine V_seq ?_; refine V_region (id := 5) ?_; refine vo_step (ok_assign rfl rfl rfl) rfl ?_; refine vo_nil ?_; refine N_seq ?_
      refine V_ret L (rs := [.tmp 4]) rfl (fun _ _ h => h) Since.refl fun u H hH hle => ?_
      rfl
    · have hq := eqU (decide_eq_false hyt)
      refine V_seq ?_; refine V_seq ?_; refine V_region (id := 2) ?_; refine vo_step (ok_move rfl rfl rfl) rfl ?_; refine vo_step (ok_moves' rfl rfl rfl) rfl ?_; refine vo_step (ok_lenV L rfl rfl rfl rfl) rfl ?_; refine vo_step (ok_lss rfl rfl rfl rfl (decide_eq_true (by omega))) rfl ?_; refine vo_nil ?_; refine N_seq ?_; refine V_true rfl ?_; refine V_skip ?_; refine N_seq ?_; refine V_seq ?_; refine V_block ?_; refine V_seq ?_; refine V_regionD (id := 4) [] mixed (by kernel_rfl) ?_; refine par_step (ok_moves' rfl rfl rfl) rfl ?_; refine par_step (ok_move rfl rfl rfl) rfl ?_; refine par_step (ok_indexV L _ rfl rfl rfl rfl rfl rfl rfl (by first | omega | decide) (by assumption)) rfl ?_; refine par_step (ok_loadPA L (vs := [_, _, _, _, _, _]) rfl rfl rfl rfl rfl ⟨_, rfl⟩) rfl ?_; refine par_step (ok_loadA L (vs := [_, _, _, _, _, _]) (src_at rfl) rfl rfl rfl rfl ⟨_, rfl⟩) rfl ?_; refine par_step (ok_aeql rfl rfl rfl rfl eq81 (by assumption) rfl) rfl ?_; refine par_nil ?_; refine N_seq ?_; refine V_false rfl ?_; refine V_skip ?_; refine N_block ?_; refine N_seq ?_; refine V_region (id := 3) ?_; refine vo_step (ok_move rfl rfl rfl) rfl ?_; refine vo_step (ok_add rfl rfl rfl rfl (wrap_i64 (by omega) (by omega))) rfl ?_; refine vo_step (ok_assign rfl rfl rfl) rfl ?_; refine vo_nil ?_
      exact N_round (x := i) (i + 1) ⟨hlt, he.trans ⟨fun h => (List.mem_cons.1 h).resolve_left fun e => hyt e.symm, fun h => List.mem_cons_of_mem _ h⟩⟩ (by omega) ⟨rfl, rfl, rfl, trivial⟩
  · obtain rfl : i = l.length := by omega
    rw [List.drop_length] at he
    rw [if_neg fun h => by cases he.1 h]
    refine V_seq ?_; refine V_seq ?_; refine V_region (id := 2) ?_; refine vo_step (ok_move rfl rfl rfl) rfl ?_; refine vo_step (ok_moves' rfl rfl rfl) rfl ?_; refine vo_step (ok_lenV L rfl rfl rfl rfl) rfl ?_; refine vo_step (ok_lss rfl rfl rfl rfl (decide_eq_false (by omega))) rfl ?_; refine vo_nil ?_; refine N_seq ?_; refine V_false rfl ?_; refine V_exit ?_; refine X_then ?_; refine X_then ?_; refine X_here ?_; refine N_seq ?_; refine V_seq ?_; refine V_region (id := 6) ?_; refine vo_step (ok_assign rfl rfl rfl) rfl ?_; refine vo_nil ?_; refine N_seq ?_
    refine V_ret L (rs := [.tmp 4]) rfl (fun _ _ h => h) Since.refl fun u H hH hle => ?_
    rfl
theorem rtsame_ret {a b : List U} {fa fb : Bool} (hla : a.length ≤ 1000000) (hlb : b.length ≤ 1000000) {e : Int} (he : (if a = b then 1 else 0 : Int) = e) {va vb : Value} {w : World} {B : Heap} (hB : B.Le (hp w)) (ha : US a fa va B) (hb : US b fb vb B) :
    Ret Try.prog 42 [va, vb] w B (fun v _ => v = .int .i64 e) := by
  subst he
  refine V_enter Try.func42 rfl Try.ntmps42 (Nat.le_of_ble_eq_true rfl) hB ?_
  refine V_seen 0 (US a fa) rfl SlV.mono ha ?_
  refine V_seen 1 (US b fb) rfl SlV.mono hb ?_
  by_cases hlen : a.length = b.length
  · refine V_seq ?_; refine V_region (id := 0) ?_; refine vo_step (ok_assign rfl rfl rfl) rfl ?_; refine vo_nil ?_; refine N_seq ?_; refine V_seq ?_; refine V_seq ?_; refine V_region (id := 1) ?_; refine vo_step (ok_moves' rfl rfl rfl) rfl ?_; refine vo_step (ok_lenV L rfl rfl rfl rfl) rfl ?_; refine vo_step (ok_moves' rfl rfl rfl) rfl ?_; refine vo_step (ok_lenV L rfl rfl rfl rfl) rfl ?_; refine vo_step (ok_neq rfl rfl rfl rfl (decide_eq_false (by omega))) rfl ?_; refine vo_nil ?_; refine N_seq ?_; refine V_false rfl ?_; refine V_skip ?_; refine N_seq ?_; refine V_seq ?_; refine V_seq ?_; refine V_region (id := 3) ?_; refine vo_step (ok_assign rfl rfl rfl) rfl ?_; refine vo_nil ?_; refine N_seq ?_; refine V_block ?_
    refine V_loop (fun i : Nat => [(0, .sat (US a fa)), (1, .sat (US b fb)), (5, .is (.int .i64 i))])
      (fun i => i ≤ a.length ∧ a.take i = b.take i) (fun i => a.length - i) 0 ⟨Nat.zero_le _, rfl⟩ ⟨rfl, rfl, rfl, trivial⟩ ?_
    rintro i ⟨hi, he⟩
    by_cases hlt : i < a.length
    · obtain ⟨x, hx⟩ := get_some hlt
      obtain ⟨y, hy⟩ := get_some (show i < b.length by omega)
      have hcx := us_at hx
      have hcy := us_at hy
      by_cases hxy : x = y
      · have hq := eqU (decide_eq_true hxy)
        refine V_seq ?_; refine V_seq ?_; refine V_region (id := 4) ?_; refine vo_step (ok_move rfl rfl rfl) rfl ?_; refine vo_step (ok_moves' rfl rfl rfl) rfl ?_; refine vo_step (ok_lenV L rfl rfl rfl rfl) rfl ?_; refine vo_step (ok_lss rfl rfl rfl rfl (decide_eq_true (by omega))) rfl ?_; refine vo_nil ?_; refine N_seq ?_; refine V_true rfl ?_; refine V_skip ?_; refine N_seq ?_; refine V_seq ?_; refine V_block ?_; refine V_seq ?_; refine V_regionD (id := 6) [] mixed (by kernel_rfl) ?_; refine par_step (ok_moves' rfl rfl rfl) rfl ?_; refine par_step (ok_move rfl rfl rfl) rfl ?_; refine par_step (ok_indexV L _ rfl rfl rfl rfl rfl rfl rfl (by first | omega | decide) (by assumption)) rfl ?_; refine par_step (ok_loadPA L (vs := [_, _, _, _, _, _]) rfl rfl rfl rfl rfl ⟨_, rfl⟩) rfl ?_; refine par_step (ok_moves' rfl rfl rfl) rfl ?_; refine par_step (ok_move rfl rfl rfl) rfl ?_; refine par_step (ok_indexV L _ rfl rfl rfl rfl rfl rfl rfl (by first | omega | decide) (by assumption)) rfl ?_; refine par_step (ok_loadPA L (vs := [_, _, _, _, _, _]) rfl rfl rfl rfl rfl ⟨_, rfl⟩) rfl ?_; refine par_step (ok_aneq rfl rfl rfl rfl eq81 (by assumption) rfl) rfl ?_; refine par_nil ?_; refine N_seq ?_; refine V_false rfl ?_; refine V_skip ?_; refine N_block ?_; refine N_seq ?_; refine V_region (id := 5) ?_; refine vo_step (ok_move rfl rfl rfl) rfl ?_; refine vo_step (ok_add rfl rfl rfl rfl (wrap_i64 (by omega) (by omega))) rfl ?_; refine vo_step (ok_assign rfl rfl rfl) rfl ?_; refine vo_nil ?_
        exact N_round (x := i) (i + 1) ⟨hlt, by rw [take_s hx, take_s hy, he, hxy]⟩ (by omega) ⟨rfl, rfl, rfl, trivial⟩
      · have hq := eqU (decide_eq_false hxy)
        have h1 : a ≠ b := fun e => by subst e; rw [hx] at hy; exact hxy (Option.some.inj hy)
        rw [if_neg h1]
        refine V_seq ?_; refine V_seq ?_; refine V_region (id := 4) ?_; refine vo_step (ok_move rfl rfl rfl) rfl ?_; refine vo_step (ok_moves' rfl rfl rfl) rfl ?_; refine vo_step (ok_lenV L rfl rfl rfl rfl) rfl ?_; refine vo_step (ok_lss rfl rfl rfl rfl (decide_eq_true (by omega))) rfl ?_; refine vo_nil ?_; refine N_seq ?_; refine V_true rfl ?_; refine V_skip ?_; refine N_seq ?_; refine V_seq ?_; refine V_block ?_; refine V_seq ?_; refine V_regionD (id := 6) [] mixed (by kernel_rfl) ?_; refine par_step (ok_moves' rfl rfl rfl) rfl ?_; refine par_step (ok_move rfl rfl rfl) rfl ?_; refine par_step (ok_indexV L _ rfl rfl rfl rfl rfl rfl rfl (by first | omega | decide) (by assumption)) rfl ?_; refine par_step (ok_loadPA L (vs := [_, _, _, _, _, _]) rfl rfl rfl rfl rfl ⟨_, rfl⟩) rfl ?_; refine par_step (ok_moves' rfl rfl rfl) rfl ?_; refine par_step (ok_move rfl rfl rfl) rfl ?_; refine par_step (ok_indexV L _ rfl rfl rfl rfl rfl rfl rfl (by first | omega | decide) (by assumption)) rfl ?_; refine par_step (ok_loadPA L (vs := [_, _, _, _, _, _]) rfl rfl rfl rfl rfl ⟨_, rfl⟩) rfl ?_; refine par_step (ok_aneq rfl rfl rfl rfl eq81 (by assumption) rfl) rfl ?_; refine par_nil ?_; refine N_seq ?_; refine V_true rfl ?_; refine V_seq ?_; refine V_region (id := 7) ?_; refine vo_step (ok_assign rfl rfl rfl) rfl ?_; refine vo_nil ?_; refine N_seq ?_
        refine V_ret L (rs := [.tmp 4]) rfl (fun _ _ h => h) Since.refl fun u H hH hle => ?_
        rfl
    · obtain rfl : i = a.length := by omega
      have h1 : a = b := by rw [List.take_length, hlen, List.take_length] at he; exact he
      rw [if_pos h1]
      refine V_seq ?_; refine V_seq ?_; refine V_region (id := 4) ?_; refine vo_step (ok_move rfl rfl rfl) rfl ?_; refine vo_step (ok_moves' rfl rfl rfl) rfl ?_; refine vo_step (ok_lenV L rfl rfl rfl rfl) rfl ?_; refine vo_step (ok_lss rfl rfl rfl rfl (decide_eq_false (by omega))) rfl ?_; refine vo_nil ?_; refine N_seq ?_; refine V_false rfl ?_; refine V_exit ?_; refine X_then ?_; refine X_then ?_; refine X_here ?_; refine N_seq ?_; refine V_seq ?_; refine V_region (id := 8) ?_; refine vo_step (ok_assign rfl rfl rfl) rfl ?_; refine vo_nil ?_; refine N_seq ?_
      refine V_ret L (rs := [.tmp 4]) rfl (fun _ _ h => h) Since.refl fun u H hH hle => ?_
      rfl
  · have h1 : a ≠ b := fun e => hlen (by rw [e])
    rw [if_neg h1]
    refine V_seq ?_; refine V_region (id := 0) ?_; refine vo_step (ok_assign rfl rfl rfl) rfl ?_; refine vo_nil ?_; refine N_seq ?_; refine V_seq ?_; refine V_seq ?_; refine V_region (id := 1) ?_; refine vo_step (ok_moves' rfl rfl rfl) rfl ?_; refine vo_step (ok_lenV L rfl rfl rfl rfl) rfl ?_; refine vo_step (ok_moves' rfl rfl rfl) rfl ?_; refine vo_step (ok_lenV L rfl rfl rfl rfl) rfl ?_; refine vo_step (ok_neq rfl rfl rfl rfl (decide_eq_true (by omega))) rfl ?_; refine vo_nil ?_; refine N_seq ?_; refine V_true rfl ?_; refine V_seq ?_; refine V_region (id := 2) ?_; refine vo_step (ok_assign rfl rfl rfl) rfl ?_; refine vo_nil ?_; refine N_seq ?_
    refine V_ret L (rs := [.tmp 4]) rfl (fun _ _ h => h) Since.refl fun u H hH hle => ?_
    rfl
end Go.V.L2
/- The walks of the definition of tuples (chapter 2): sorted lists. -/
namespace Go.V.L2
open Go.Proofs Go.RowKit Go.V
def sortT (l : List U) : List U := sortS cmpT [] l
/-- Which ones are among the answer. -/
def pickT (x y : List U) (a c b : Bool) (t : U) : Bool := (decide (t ∈ x) && !decide (t ∈ y) && a) || (decide (t ∈ x) && decide (t ∈ y) && c) || (!decide (t ∈ x) && decide (t ∈ y) && b)
def someT (x y : List U) (a c b : Bool) : List U := sortT ((x ++ y).filter (pickT x y a c b))
theorem sortT_length (l : List U) : (sortT l).length ≤ l.length := by
  have := sortS_length (c := cmpT) l []
  rw [List.length_nil, Nat.zero_add] at this
  exact this
theorem ups_snoc2 {κ : Kap} {s : Nat} {r : List U} {t y : U} (h : κ s = some (.own (SlR tyU 6 (r.length + 1 + 1) ((r.flatMap ucs ++ ucs t) ++ ucs y)))) : κ s = some (.own (SlR tyU 6 (r ++ [t] ++ [y]).length ((r ++ [t] ++ [y]).flatMap ucs))) := by
  rw [h, List.flatMap_append, List.flatMap_append, List.length_append, List.length_append]; simp
theorem sortS_cons (c : U → U → Int) (o : List U) (t : U) (r : List U) : sortS c o (t :: r) = sortS c (if t ∈ o then o else insS c t o) r := by
  simp only [sortS]
  congr 1
  by_cases h : t ∈ o
  · rw [if_pos h, if_pos h]
  · rw [if_neg h, if_neg h]
attribute [local irreducible] V N X VO Par StepOK Has Ret RetL Src
set_option maxHeartbeats 1000000 in
theorem rtis_ret {l : List U} {fu : Bool} (hl : l.length ≤ 1000000) (hz : ∀ t ∈ l, TZ t) {e : Int} (he : (if isB l = true then 1 else 0 : Int) = e) {v : Value} {w : World} {B : Heap} (hB : B.Le (hp w)) (hv : US l fu v B) :
    Ret Try.prog 44 [v] w B (fun v _ => v = .int .i64 e) := by
  subst he
  refine V_enter Try.func44 rfl Try.ntmps44 (Nat.le_of_ble_eq_true rfl) hB ?_
  refine V_seen 0 (US l fu) rfl SlV.mono hv ?_
  refine V_seq ?_; refine V_region (id := 0) ?_; refine vo_step (ok_assign rfl rfl rfl) rfl ?_; refine vo_nil ?_; refine N_seq ?_; refine V_seq ?_; refine V_seq ?_; refine V_region (id := 1) ?_; refine vo_step (ok_assign rfl rfl rfl) rfl ?_; refine vo_nil ?_; refine N_seq ?_; refine V_block ?_
  refine V_loop (fun i : Nat => [(0, .sat (US l fu)), (3, .is (.int .i64 i))])
    (fun i => i ≤ l.length ∧ ∀ p q a b, p < q → q < i → l[p]? = some a → l[q]? = some b → cmpT a b < 0) (fun i => l.length - i) 0 ⟨Nat.zero_le _, fun p q a b _ h => by omega⟩ ⟨rfl, rfl, trivial⟩ ?_
  rintro i ⟨hi, hall⟩
  by_cases hlt : i < l.length
  · obtain ⟨b, hb⟩ := get_some hlt
    have hcb := us_at hb
    have zb := hz b (List.mem_of_getElem? hb)
    refine V_seq ?_; refine V_seq ?_; refine V_region (id := 2) ?_; refine vo_step (ok_move rfl rfl rfl) rfl ?_; refine vo_step (ok_moves' rfl rfl rfl) rfl ?_; refine vo_step (ok_lenV L rfl rfl rfl rfl) rfl ?_; refine vo_step (ok_lss rfl rfl rfl rfl (decide_eq_true (by omega))) rfl ?_; refine vo_nil ?_; refine N_seq ?_; refine V_true rfl ?_; refine V_skip ?_; refine N_seq ?_; refine V_seq ?_; refine V_block ?_; refine V_seq ?_; refine V_region (id := 4) ?_; refine vo_step (ok_assign rfl rfl rfl) rfl ?_; refine vo_nil ?_; refine N_seq ?_; refine V_block ?_
    refine V_loop (fun k : Nat => [(0, .sat (US l fu)), (3, .is (.int .i64 i)), (4, .is (.int .i64 k))])
      (fun k => k ≤ i ∧ ∀ p a, p < k → l[p]? = some a → cmpT a b < 0) (fun k => i - k) 0 ⟨Nat.zero_le _, fun p a h => by omega⟩ ⟨rfl, rfl, rfl, trivial⟩ ?_
    rintro k ⟨hk, hin⟩
    by_cases hki : k < i
    · obtain ⟨a, ha⟩ := get_some (show k < l.length by omega)
      have hca := us_at ha
      have za := hz a (List.mem_of_getElem? ha)
      by_cases hc : cmpT a b < 0
      · refine V_seq ?_; refine V_seq ?_; refine V_region (id := 5) ?_; refine vo_step (ok_move rfl rfl rfl) rfl ?_; refine vo_step (ok_move rfl rfl rfl) rfl ?_; refine vo_step (ok_lss rfl rfl rfl rfl (decide_eq_true (by omega))) rfl ?_; refine vo_nil ?_; refine N_seq ?_; refine V_true rfl ?_; refine V_skip ?_; refine N_seq ?_; refine V_seq ?_; refine V_block ?_; refine V_seq ?_; refine V_regionD (id := 7) [] mixed (by kernel_rfl) ?_; refine par_step (ok_moves' rfl rfl rfl) rfl ?_; refine par_step (ok_move rfl rfl rfl) rfl ?_; refine par_step (ok_indexV L _ rfl rfl rfl rfl rfl rfl rfl (by first | omega | decide) (by assumption)) rfl ?_; refine par_step (ok_loadPA L (vs := [_, _, _, _, _, _]) rfl rfl rfl rfl rfl ⟨_, rfl⟩) rfl ?_; refine par_step (ok_moves' rfl rfl rfl) rfl ?_; refine par_step (ok_move rfl rfl rfl) rfl ?_; refine par_step (ok_indexV L _ rfl rfl rfl rfl rfl rfl rfl (by first | omega | decide) (by assumption)) rfl ?_; refine par_step (ok_loadPA L (vs := [_, _, _, _, _, _]) rfl rfl rfl rfl rfl ⟨_, rfl⟩) rfl ?_; refine par_step (ok_callx L rfl rfl (blt_lt rfl) rfl rfl rfl (fun u H hH _ _ => rtcmp_ret za zb hH)) rfl ?_; refine par_step (ok_geq rfl rfl rfl rfl (decide_eq_false (by omega))) rfl ?_; refine par_nil ?_; refine N_seq ?_; refine V_false rfl ?_; refine V_skip ?_; refine N_block ?_; refine N_seq ?_; refine V_region (id := 6) ?_; refine vo_step (ok_move rfl rfl rfl) rfl ?_; refine vo_step (ok_add rfl rfl rfl rfl (wrap_i64 (by omega) (by omega))) rfl ?_; refine vo_step (ok_assign rfl rfl rfl) rfl ?_; refine vo_nil ?_
        exact N_round (x := k) (k + 1) ⟨hki, fun p a' hp h1 => by
          by_cases hpk : p = k
          · subst hpk; rw [ha] at h1; cases h1; exact hc
          · exact hin p a' (by omega) h1⟩ (by omega) ⟨rfl, rfl, rfl, trivial⟩
      · have hno : isB l = false := decide_eq_false fun hs => by
          have := List.pairwise_iff_getElem.1 hs k i (by omega) hlt hki
          obtain ⟨_, e1⟩ := List.getElem?_eq_some_iff.1 ha
          obtain ⟨_, e2⟩ := List.getElem?_eq_some_iff.1 hb
          rw [e1, e2] at this
          exact hc this
        rw [hno]
        refine V_seq ?_; refine V_seq ?_; refine V_region (id := 5) ?_; refine vo_step (ok_move rfl rfl rfl) rfl ?_; refine vo_step (ok_move rfl rfl rfl) rfl ?_; refine vo_step (ok_lss rfl rfl rfl rfl (decide_eq_true (by omega))) rfl ?_; refine vo_nil ?_; refine N_seq ?_; refine V_true rfl ?_; refine V_skip ?_; refine N_seq ?_; refine V_seq ?_; refine V_block ?_; refine V_seq ?_; refine V_regionD (id := 7) [] mixed (by kernel_rfl) ?_; refine par_step (ok_moves' rfl rfl rfl) rfl ?_; refine par_step (ok_move rfl rfl rfl) rfl ?_; refine par_step (ok_indexV L _ rfl rfl rfl rfl rfl rfl rfl (by first | omega | decide) (by assumption)) rfl ?_; refine par_step (ok_loadPA L (vs := [_, _, _, _, _, _]) rfl rfl rfl rfl rfl ⟨_, rfl⟩) rfl ?_; refine par_step (ok_moves' rfl rfl rfl) rfl ?_; refine par_step (ok_move rfl rfl rfl) rfl ?_; refine par_step (ok_indexV L _ rfl rfl rfl rfl rfl rfl rfl (by first | omega | decide) (by assumption)) rfl ?_; refine par_step (ok_loadPA L (vs := [_, _, _, _, _, _]) rfl rfl rfl rfl rfl ⟨_, rfl⟩) rfl ?_; refine par_step (ok_callx L rfl rfl (blt_lt rfl) rfl rfl rfl (fun u H hH _ _ => rtcmp_ret za zb hH)) rfl ?_; refine par_step (ok_geq rfl rfl rfl rfl (decide_eq_true (by omega))) rfl ?_; refine par_nil ?_; refine N_seq ?_; refine V_true rfl ?_; refine V_seq ?_; refine V_region (id := 8) ?_; refine vo_step (ok_assign rfl rfl rfl) rfl ?_; refine vo_nil ?_; refine N_seq ?_
        refine V_ret L (rs := [.tmp 2]) rfl (fun _ _ h => h) Since.refl fun u H hH hle => ?_
        rfl
    · obtain rfl : k = i := by omega
      refine V_seq ?_; refine V_seq ?_; refine V_region (id := 5) ?_; refine vo_step (ok_move rfl rfl rfl) rfl ?_; refine vo_step (ok_move rfl rfl rfl) rfl ?_; refine vo_step (ok_lss rfl rfl rfl rfl (decide_eq_false (by omega))) rfl ?_; refine vo_nil ?_; refine N_seq ?_; refine V_false rfl ?_; refine V_exit ?_; refine X_then ?_; refine X_then ?_; refine X_here ?_; refine N_block ?_; refine N_seq ?_; refine V_region (id := 3) ?_; refine vo_step (ok_move rfl rfl rfl) rfl ?_; refine vo_step (ok_add rfl rfl rfl rfl (wrap_i64 (by omega) (by omega))) rfl ?_; refine vo_step (ok_assign rfl rfl rfl) rfl ?_; refine vo_nil ?_
      exact N_round (x := k) (k + 1) ⟨hlt, fun p q a' b' h1 h2 h3 h4 => by
        by_cases hq : q = k
        · subst hq; rw [hb] at h4; cases h4; exact hin p a' h1 h3
        · exact hall p q a' b' h1 (by omega) h3 h4⟩ (by omega) ⟨rfl, rfl, trivial⟩
  · obtain rfl : i = l.length := by omega
    have hyes : isB l = true := isB_yes fun j a b h1 h2 => hall j (j + 1) a b (by omega) (by
      rcases Nat.lt_or_ge (j + 1) l.length with h | h
      · exact h
      · rw [List.getElem?_eq_none h] at h2; cases h2) h1 h2
    rw [hyes]
    refine V_seq ?_; refine V_seq ?_; refine V_region (id := 2) ?_; refine vo_step (ok_move rfl rfl rfl) rfl ?_; refine vo_step (ok_moves' rfl rfl rfl) rfl ?_; refine vo_step (ok_lenV L rfl rfl rfl rfl) rfl ?_; refine vo_step (ok_lss rfl rfl rfl rfl (decide_eq_false (by omega))) rfl ?_; refine vo_nil ?_; refine N_seq ?_; refine V_false rfl ?_; refine V_exit ?_; refine X_then ?_; refine X_then ?_; refine X_here ?_; refine N_seq ?_; refine V_seq ?_; refine V_region (id := 9) ?_; refine vo_step (ok_assign rfl rfl rfl) rfl ?_; refine vo_nil ?_; refine N_seq ?_
    refine V_ret L (rs := [.tmp 2]) rfl (fun _ _ h => h) Since.refl fun u H hH hle => ?_
    rfl
set_option maxHeartbeats 4000000 in
theorem rsorted_ret {l : List U} {fu : Bool} (hl : l.length ≤ 1000000) (hz : ∀ t ∈ l, TZ t) {v : Value} {w : World} {B : Heap} (hB : B.Le (hp w)) (hv : US l fu v B) :
    Ret Try.prog 34 [v] w B (US (sortT l) false) := by
  refine V_enter Try.func34 rfl Try.ntmps34 (Nat.le_of_ble_eq_true rfl) hB ?_
  refine V_seen 0 (US l fu) rfl SlV.mono hv ?_
  refine V_seq ?_; refine V_region (id := 0) ?_; refine vo_step (ok_assign rfl rfl rfl) rfl ?_; refine vo_nil ?_; refine N_seq ?_; refine V_seq ?_; refine V_region (id := 1) ?_; refine vo_step (ok_assign rfl rfl rfl) rfl ?_; refine vo_nil ?_; refine N_seq ?_; refine V_seq ?_; refine V_seq ?_
  refine V_seen 3 (US [] false) rfl SlV.mono SlV.nil ?_
  refine V_region (id := 2) ?_; refine vo_step (ok_assign rfl rfl rfl) rfl ?_; refine vo_nil ?_; refine N_seq ?_; refine V_block ?_
  refine V_loop (fun s : Nat × List U => [(0, .sat (US l fu)), (3, .sat (US s.2 false)), (4, .is (.int .i64 s.1))])
    (fun s => s.1 ≤ l.length ∧ s.2.length ≤ s.1 ∧ (∀ t ∈ s.2, TZ t) ∧ sortT l = sortS cmpT s.2 (l.drop s.1)) (fun s => l.length - s.1) (0, []) ⟨Nat.zero_le _, Nat.le_refl _, fun t h => (by cases h), rfl⟩ ⟨rfl, rfl, rfl, trivial⟩ ?_
  rintro ⟨i, o⟩ ⟨hi, ho, hoz, he⟩
  dsimp only at hi ho hoz he ⊢
  by_cases hlt : i < l.length
  · obtain ⟨t, ht⟩ := get_some hlt
    have hct := us_at ht
    have zt := hz t (List.mem_of_getElem? ht)
    have hol : o.length ≤ 1000000 := by omega
    rw [drop_g ht, sortS_cons] at he
    by_cases hin : t ∈ o
    · rw [if_pos hin] at he
      have h1 : (if t ∈ o then 1 else 0 : Int) = 1 := if_pos hin
      refine V_seq ?_; refine V_seq ?_; refine V_region (id := 3) ?_; refine vo_step (ok_move rfl rfl rfl) rfl ?_; refine vo_step (ok_moves' rfl rfl rfl) rfl ?_; refine vo_step (ok_lenV L rfl rfl rfl rfl) rfl ?_; refine vo_step (ok_lss rfl rfl rfl rfl (decide_eq_true (by omega))) rfl ?_; refine vo_nil ?_; refine N_seq ?_; refine V_true rfl ?_; refine V_skip ?_; refine N_seq ?_; refine V_seq ?_; refine V_block ?_; refine V_seq ?_; refine V_seq ?_; refine V_region (id := 5) ?_; refine vo_step (ok_moves' rfl rfl rfl) rfl ?_; refine vo_step (ok_moves' rfl rfl rfl) rfl ?_; refine vo_step (ok_move rfl rfl rfl) rfl ?_; refine vo_step (ok_indexV L _ rfl rfl rfl rfl rfl rfl rfl (by first | omega | decide) (by assumption)) rfl ?_; refine vo_step (ok_loadPA L (vs := [_, _, _, _, _, _]) rfl rfl rfl rfl rfl ⟨_, rfl⟩) rfl ?_; refine vo_step (ok_callx L rfl rfl (blt_lt rfl) rfl rfl rfl (fun u H hH _ _ v1 h2 => rin_ret hol h1 hH h2)) rfl ?_; refine vo_step (ok_eql rfl rfl rfl rfl (decide_eq_true (by omega))) rfl ?_; refine vo_nil ?_; refine N_seq ?_; refine V_true rfl ?_; refine V_exit ?_; refine X_then ?_; refine X_here ?_; refine N_seq ?_; refine V_region (id := 4) ?_; refine vo_step (ok_move rfl rfl rfl) rfl ?_; refine vo_step (ok_add rfl rfl rfl rfl (wrap_i64 (by omega) (by omega))) rfl ?_; refine vo_step (ok_assign rfl rfl rfl) rfl ?_; refine vo_nil ?_
      exact N_round (x := (i, o)) (i + 1, o) ⟨hlt, by dsimp only; omega, hoz, he⟩ (by dsimp only; omega) ⟨rfl, rfl, rfl, trivial⟩
    · rw [if_neg hin] at he
      have h1 : (if t ∈ o then 1 else 0 : Int) = 0 := if_neg hin
      refine V_seq ?_; refine V_seq ?_; refine V_region (id := 3) ?_; refine vo_step (ok_move rfl rfl rfl) rfl ?_; refine vo_step (ok_moves' rfl rfl rfl) rfl ?_; refine vo_step (ok_lenV L rfl rfl rfl rfl) rfl ?_; refine vo_step (ok_lss rfl rfl rfl rfl (decide_eq_true (by omega))) rfl ?_; refine vo_nil ?_; refine N_seq ?_; refine V_true rfl ?_; refine V_skip ?_; refine N_seq ?_; refine V_seq ?_; refine V_block ?_; refine V_seq ?_; refine V_seq ?_; refine V_region (id := 5) ?_; refine vo_step (ok_moves' rfl rfl rfl) rfl ?_; refine vo_step (ok_moves' rfl rfl rfl) rfl ?_; refine vo_step (ok_move rfl rfl rfl) rfl ?_; refine vo_step (ok_indexV L _ rfl rfl rfl rfl rfl rfl rfl (by first | omega | decide) (by assumption)) rfl ?_; refine vo_step (ok_loadPA L (vs := [_, _, _, _, _, _]) rfl rfl rfl rfl rfl ⟨_, rfl⟩) rfl ?_; refine vo_step (ok_callx L rfl rfl (blt_lt rfl) rfl rfl rfl (fun u H hH _ _ v1 h2 => rin_ret hol h1 hH h2)) rfl ?_; refine vo_step (ok_eql rfl rfl rfl rfl (decide_eq_false (by omega))) rfl ?_; refine vo_nil ?_; refine N_seq ?_; refine V_false rfl ?_; refine V_skip ?_; refine N_seq ?_; refine V_seq ?_; refine V_region (id := 6) ?_; refine vo_step (ok_assign rfl rfl rfl) rfl ?_; refine vo_nil ?_; refine N_seq ?_; refine V_seq ?_
      refine V_nilR 5 tyU 6 rfl ?_
      refine V_region (id := 7) ?_; refine vo_step (ok_assign rfl rfl rfl) rfl ?_; refine vo_nil ?_; refine N_seq ?_; refine V_seq ?_; refine V_seq ?_; refine V_region (id := 8) ?_; refine vo_step (ok_assign rfl rfl rfl) rfl ?_; refine vo_nil ?_; refine N_seq ?_; refine V_block ?_
      refine V_loop (fun s : Nat × List U × Bool => [(0, .sat (US l fu)), (3, .sat (US o false)), (4, .is (.int .i64 i)), (5, .own (SlR tyU 6 s.2.1.length (s.2.1.flatMap ucs))), (6, .is (.bool s.2.2)), (7, .is (.int .i64 s.1))])
        (fun s => s.1 ≤ o.length ∧ s.2.1.length ≤ s.1 + (if s.2.2 = true then 1 else 0) ∧ insS cmpT t o = s.2.1 ++ (if s.2.2 = true then o.drop s.1 else insS cmpT t (o.drop s.1))) (fun s => o.length - s.1) (0, [], false) ⟨Nat.zero_le _, Nat.zero_le _, rfl⟩ ⟨rfl, rfl, rfl, rfl, rfl, rfl, trivial⟩ ?_
      rintro ⟨k, nx, put⟩ ⟨hk, hnx, hins⟩
      dsimp only at hk hnx hins ⊢
      by_cases hko : k < o.length
      · obtain ⟨y, hy⟩ := get_some hko
        have hcy := us_at hy
        have zy := hoz y (List.mem_of_getElem? hy)
        rw [drop_g hy] at hins
        cases put
        · rw [if_neg (by decide)] at hnx
          rw [if_neg (by decide), insS] at hins
          by_cases hc : cmpT t y < 0
          · rw [if_pos hc] at hins
            refine V_seq ?_; refine V_seq ?_; refine V_region (id := 9) ?_; refine vo_step (ok_move rfl rfl rfl) rfl ?_; refine vo_step (ok_moves' rfl rfl rfl) rfl ?_; refine vo_step (ok_lenV L rfl rfl rfl rfl) rfl ?_; refine vo_step (ok_lss rfl rfl rfl rfl (decide_eq_true (by omega))) rfl ?_; refine vo_nil ?_; refine N_seq ?_; refine V_true rfl ?_; refine V_skip ?_; refine N_seq ?_; refine V_seq ?_; refine V_block ?_; refine V_seq ?_; refine V_seq ?_; refine V_regionD (id := 11) [] mixed (by kernel_rfl) ?_; refine par_step (ok_move rfl rfl rfl) rfl ?_; refine par_step (ok_not rfl rfl rfl rfl) rfl ?_; refine par_step (ok_move rfl rfl rfl) rfl ?_; refine par_step (ok_moves' rfl rfl rfl) rfl ?_; refine par_step (ok_move rfl rfl rfl) rfl ?_; refine par_step (ok_indexV L _ rfl rfl rfl rfl rfl rfl rfl (by first | omega | decide) (by assumption)) rfl ?_; refine par_step (ok_loadPA L (vs := [_, _, _, _, _, _]) rfl rfl rfl rfl rfl ⟨_, rfl⟩) rfl ?_; refine par_step (ok_moves' rfl rfl rfl) rfl ?_; refine par_step (ok_move rfl rfl rfl) rfl ?_; refine par_step (ok_indexV L _ rfl rfl rfl rfl rfl rfl rfl (by first | omega | decide) (by assumption)) rfl ?_; refine par_step (ok_loadPA L (vs := [_, _, _, _, _, _]) rfl rfl rfl rfl rfl ⟨_, rfl⟩) rfl ?_; refine par_step (ok_callx L rfl rfl (blt_lt rfl) rfl rfl rfl (fun u H hH _ _ => rtcmp_ret zt zy hH)) rfl ?_; refine par_step (ok_lss rfl rfl rfl rfl (decide_eq_true (by omega))) rfl ?_; refine par_step (ok_pick rfl rfl rfl rfl) rfl ?_; refine par_nil ?_; refine N_seq ?_; refine V_true rfl ?_; refine V_seq ?_; refine V_region (id := 12) ?_; refine vo_step2 (ok_moveO (.inl rfl) rfl rfl rfl rfl) ?_; refine vo_step (ok_moves' rfl rfl rfl) rfl ?_; refine vo_step (ok_move rfl rfl rfl) rfl ?_; refine vo_step (ok_indexV L _ rfl rfl rfl rfl rfl rfl rfl (by first | omega | decide) (by assumption)) rfl ?_; refine vo_step (ok_loadPA L (vs := [_, _, _, _, _, _]) rfl rfl rfl rfl rfl ⟨_, rfl⟩) rfl ?_; refine vo_step (ok_buildSlice L rfl rfl rfl rfl rfl rfl rfl rfl rfl) rfl ?_; refine vo_step2 (ok_append L rfl rfl rfl (apd_B rfl) rfl el81 rfl rfl (by omega) (by omega)) ?_; refine vo_step2 (ok_moveO (.inr rfl) rfl rfl rfl rfl) ?_; refine vo_nil ?_; refine N_seq ?_; refine V_region (id := 13) ?_; refine vo_step (ok_assign rfl rfl rfl) rfl ?_; refine vo_nil ?_; refine N_seq ?_; refine V_region (id := 14) ?_; refine vo_step2 (ok_moveO (.inl rfl) rfl rfl rfl rfl) ?_; refine vo_step (ok_moves' rfl rfl rfl) rfl ?_; refine vo_step (ok_move rfl rfl rfl) rfl ?_; refine vo_step (ok_indexV L _ rfl rfl rfl rfl rfl rfl rfl (by first | omega | decide) (by assumption)) rfl ?_; refine vo_step (ok_loadPA L (vs := [_, _, _, _, _, _]) rfl rfl rfl rfl rfl ⟨_, rfl⟩) rfl ?_; refine vo_step (ok_buildSlice L rfl rfl rfl rfl rfl rfl rfl rfl rfl) rfl ?_; refine vo_step2 (ok_append L rfl rfl rfl (apd_B rfl) rfl el81 rfl rfl (by omega) (by omega)) ?_; refine vo_step2 (ok_moveO (.inr rfl) rfl rfl rfl rfl) ?_; refine vo_nil ?_; refine N_block ?_; refine N_seq ?_; refine V_region (id := 10) ?_; refine vo_step (ok_move rfl rfl rfl) rfl ?_; refine vo_step (ok_add rfl rfl rfl rfl (wrap_i64 (by omega) (by omega))) rfl ?_; refine vo_step (ok_assign rfl rfl rfl) rfl ?_; refine vo_nil ?_
            exact N_round (x := (k, nx, false)) (k + 1, nx ++ [t] ++ [y], true) ⟨hko, by dsimp only; rw [if_pos rfl]; simp only [List.length_append, List.length_cons, List.length_nil]; omega, by dsimp only; rw [hins, if_pos rfl]; simp⟩ (by dsimp only; omega) ⟨rfl, rfl, rfl, ups_snoc2 rfl, rfl, rfl, trivial⟩
          · rw [if_neg hc] at hins
            refine V_seq ?_; refine V_seq ?_; refine V_region (id := 9) ?_; refine vo_step (ok_move rfl rfl rfl) rfl ?_; refine vo_step (ok_moves' rfl rfl rfl) rfl ?_; refine vo_step (ok_lenV L rfl rfl rfl rfl) rfl ?_; refine vo_step (ok_lss rfl rfl rfl rfl (decide_eq_true (by omega))) rfl ?_; refine vo_nil ?_; refine N_seq ?_; refine V_true rfl ?_; refine V_skip ?_; refine N_seq ?_; refine V_seq ?_; refine V_block ?_; refine V_seq ?_; refine V_seq ?_; refine V_regionD (id := 11) [] mixed (by kernel_rfl) ?_; refine par_step (ok_move rfl rfl rfl) rfl ?_; refine par_step (ok_not rfl rfl rfl rfl) rfl ?_; refine par_step (ok_move rfl rfl rfl) rfl ?_; refine par_step (ok_moves' rfl rfl rfl) rfl ?_; refine par_step (ok_move rfl rfl rfl) rfl ?_; refine par_step (ok_indexV L _ rfl rfl rfl rfl rfl rfl rfl (by first | omega | decide) (by assumption)) rfl ?_; refine par_step (ok_loadPA L (vs := [_, _, _, _, _, _]) rfl rfl rfl rfl rfl ⟨_, rfl⟩) rfl ?_; refine par_step (ok_moves' rfl rfl rfl) rfl ?_; refine par_step (ok_move rfl rfl rfl) rfl ?_; refine par_step (ok_indexV L _ rfl rfl rfl rfl rfl rfl rfl (by first | omega | decide) (by assumption)) rfl ?_; refine par_step (ok_loadPA L (vs := [_, _, _, _, _, _]) rfl rfl rfl rfl rfl ⟨_, rfl⟩) rfl ?_; refine par_step (ok_callx L rfl rfl (blt_lt rfl) rfl rfl rfl (fun u H hH _ _ => rtcmp_ret zt zy hH)) rfl ?_; refine par_step (ok_lss rfl rfl rfl rfl (decide_eq_false (by omega))) rfl ?_; refine par_step (ok_pick rfl rfl rfl rfl) rfl ?_; refine par_nil ?_; refine N_seq ?_; refine V_false rfl ?_; refine V_skip ?_; refine N_seq ?_; refine V_region (id := 14) ?_; refine vo_step2 (ok_moveO (.inl rfl) rfl rfl rfl rfl) ?_; refine vo_step (ok_moves' rfl rfl rfl) rfl ?_; refine vo_step (ok_move rfl rfl rfl) rfl ?_; refine vo_step (ok_indexV L _ rfl rfl rfl rfl rfl rfl rfl (by first | omega | decide) (by assumption)) rfl ?_; refine vo_step (ok_loadPA L (vs := [_, _, _, _, _, _]) rfl rfl rfl rfl rfl ⟨_, rfl⟩) rfl ?_; refine vo_step (ok_buildSlice L rfl rfl rfl rfl rfl rfl rfl rfl rfl) rfl ?_; refine vo_step2 (ok_append L rfl rfl rfl (apd_B rfl) rfl el81 rfl rfl (by omega) (by omega)) ?_; refine vo_step2 (ok_moveO (.inr rfl) rfl rfl rfl rfl) ?_; refine vo_nil ?_; refine N_block ?_; refine N_seq ?_; refine V_region (id := 10) ?_; refine vo_step (ok_move rfl rfl rfl) rfl ?_; refine vo_step (ok_add rfl rfl rfl rfl (wrap_i64 (by omega) (by omega))) rfl ?_; refine vo_step (ok_assign rfl rfl rfl) rfl ?_; refine vo_nil ?_
            exact N_round (x := (k, nx, false)) (k + 1, nx ++ [y], false) ⟨hko, by dsimp only; rw [if_neg (by decide), List.length_append, List.length_singleton]; omega, by dsimp only; rw [hins, if_neg (by decide)]; simp⟩ (by dsimp only; omega) ⟨rfl, rfl, rfl, ups_snoc rfl, rfl, rfl, trivial⟩
        · rw [if_pos rfl] at hnx hins
          refine V_seq ?_; refine V_seq ?_; refine V_region (id := 9) ?_; refine vo_step (ok_move rfl rfl rfl) rfl ?_; refine vo_step (ok_moves' rfl rfl rfl) rfl ?_; refine vo_step (ok_lenV L rfl rfl rfl rfl) rfl ?_; refine vo_step (ok_lss rfl rfl rfl rfl (decide_eq_true (by omega))) rfl ?_; refine vo_nil ?_; refine N_seq ?_; refine V_true rfl ?_; refine V_skip ?_; refine N_seq ?_; refine V_seq ?_; refine V_block ?_; refine V_seq ?_; refine V_seq ?_; refine V_regionD (id := 11) [] mixed (by kernel_rfl) ?_; refine par_step (ok_move rfl rfl rfl) rfl ?_; refine par_step (ok_not rfl rfl rfl rfl) rfl ?_; refine par_step (ok_move rfl rfl rfl) rfl ?_; refine par_step (ok_skip rfl (blt_lt rfl) rfl) rfl ?_; refine par_step (ok_skip rfl (blt_lt rfl) rfl) rfl ?_; refine par_step (ok_skip rfl (blt_lt rfl) rfl) rfl ?_; refine par_step (ok_skip rfl (blt_lt rfl) rfl) rfl ?_; refine par_step (ok_skip rfl (blt_lt rfl) rfl) rfl ?_; refine par_step (ok_skip rfl (blt_lt rfl) rfl) rfl ?_; refine par_step (ok_skip rfl (blt_lt rfl) rfl) rfl ?_; refine par_step (ok_skip rfl (blt_lt rfl) rfl) rfl ?_; refine par_step (ok_skip rfl (blt_lt rfl) rfl) rfl ?_; refine par_step (ok_skip rfl (blt_lt rfl) rfl) rfl ?_; refine par_step (ok_pick rfl rfl rfl rfl) rfl ?_; refine par_nil ?_; refine N_seq ?_; refine V_false rfl ?_; refine V_skip ?_; refine N_seq ?_; refine V_region (id := 14) ?_; refine vo_step2 (ok_moveO (.inl rfl) rfl rfl rfl rfl) ?_; refine vo_step (ok_moves' rfl rfl rfl) rfl ?_; refine vo_step (ok_move rfl rfl rfl) rfl ?_; refine vo_step (ok_indexV L _ rfl rfl rfl rfl rfl rfl rfl (by first | omega | decide) (by assumption)) rfl ?_; refine vo_step (ok_loadPA L (vs := [_, _, _, _, _, _]) rfl rfl rfl rfl rfl ⟨_, rfl⟩) rfl ?_; refine vo_step (ok_buildSlice L rfl rfl rfl rfl rfl rfl rfl rfl rfl) rfl ?_; refine vo_step2 (ok_append L rfl rfl rfl (apd_B rfl) rfl el81 rfl rfl (by omega) (by omega)) ?_; refine vo_step2 (ok_moveO (.inr rfl) rfl rfl rfl rfl) ?_; refine vo_nil ?_; refine N_block ?_; refine N_seq ?_; refine V_region (id := 10) ?_; refine vo_step (ok_move rfl rfl rfl) rfl ?_; refine vo_step (ok_add rfl rfl rfl rfl (wrap_i64 (by omega) (by omega))) rfl ?_; refine vo_step (ok_assign rfl rfl rfl) rfl ?_; refine vo_nil ?_
          exact N_round (x := (k, nx, true)) (k + 1, nx ++ [y], true) ⟨hko, by dsimp only; rw [if_pos rfl, List.length_append, List.length_singleton]; omega, by dsimp only; rw [hins, if_pos rfl]; simp⟩ (by dsimp only; omega) ⟨rfl, rfl, rfl, ups_snoc rfl, rfl, rfl, trivial⟩
      · obtain rfl : k = o.length := by omega
        rw [List.drop_length] at hins
        have hil := insS_length (c := cmpT) t o
        have hiz : ∀ x ∈ insS cmpT t o, TZ x := fun x hx => by
          rcases mem_insS.1 hx with rfl | hx
          · exact zt
          · exact hoz x hx
        cases put
        · rw [if_neg (by decide)] at hnx
          rw [if_neg (by decide), insS] at hins
          refine V_seq ?_; refine V_seq ?_; refine V_region (id := 9) ?_; refine vo_step (ok_move rfl rfl rfl) rfl ?_; refine vo_step (ok_moves' rfl rfl rfl) rfl ?_; refine vo_step (ok_lenV L rfl rfl rfl rfl) rfl ?_; refine vo_step (ok_lss rfl rfl rfl rfl (decide_eq_false (by omega))) rfl ?_; refine vo_nil ?_; refine N_seq ?_; refine V_false rfl ?_; refine V_exit ?_; refine X_then ?_; refine X_then ?_; refine X_here ?_; refine N_seq ?_; refine V_seq ?_; refine V_seq ?_; refine V_region (id := 15) ?_; refine vo_step (ok_move rfl rfl rfl) rfl ?_; refine vo_step (ok_not rfl rfl rfl rfl) rfl ?_; refine vo_nil ?_; refine N_seq ?_; refine V_true rfl ?_; refine V_region (id := 16) ?_; refine vo_step2 (ok_moveO (.inl rfl) rfl rfl rfl rfl) ?_; refine vo_step (ok_moves' rfl rfl rfl) rfl ?_; refine vo_step (ok_move rfl rfl rfl) rfl ?_; refine vo_step (ok_indexV L _ rfl rfl rfl rfl rfl rfl rfl (by first | omega | decide) (by assumption)) rfl ?_; refine vo_step (ok_loadPA L (vs := [_, _, _, _, _, _]) rfl rfl rfl rfl rfl ⟨_, rfl⟩) rfl ?_; refine vo_step (ok_buildSlice L rfl rfl rfl rfl rfl rfl rfl rfl rfl) rfl ?_; refine vo_step2 (ok_append L rfl rfl rfl (apd_B rfl) rfl el81 rfl rfl (by omega) (by omega)) ?_; refine vo_step2 (ok_moveO (.inr rfl) rfl rfl rfl rfl) ?_; refine vo_nil ?_; refine N_seq ?_
          refine V_pubR 5 (ups_snoc rfl) ?_
          rw [← hins]
          refine V_region (id := 17) ?_; refine vo_step (ok_moves' rfl rfl rfl) rfl ?_; refine vo_step (ok_assigns' rfl rfl rfl) rfl ?_; refine vo_nil ?_; refine N_block ?_; refine N_seq ?_; refine V_region (id := 4) ?_; refine vo_step (ok_move rfl rfl rfl) rfl ?_; refine vo_step (ok_add rfl rfl rfl rfl (wrap_i64 (by omega) (by omega))) rfl ?_; refine vo_step (ok_assign rfl rfl rfl) rfl ?_; refine vo_nil ?_
          exact N_round (x := (i, o)) (i + 1, insS cmpT t o) ⟨hlt, by dsimp only; omega, hiz, he⟩ (by dsimp only; omega) ⟨rfl, rfl, rfl, trivial⟩
        · rw [if_pos rfl] at hnx
          rw [if_pos rfl, List.append_nil] at hins
          refine V_seq ?_; refine V_seq ?_; refine V_region (id := 9) ?_; refine vo_step (ok_move rfl rfl rfl) rfl ?_; refine vo_step (ok_moves' rfl rfl rfl) rfl ?_; refine vo_step (ok_lenV L rfl rfl rfl rfl) rfl ?_; refine vo_step (ok_lss rfl rfl rfl rfl (decide_eq_false (by omega))) rfl ?_; refine vo_nil ?_; refine N_seq ?_; refine V_false rfl ?_; refine V_exit ?_; refine X_then ?_; refine X_then ?_; refine X_here ?_; refine N_seq ?_; refine V_seq ?_; refine V_seq ?_; refine V_region (id := 15) ?_; refine vo_step (ok_move rfl rfl rfl) rfl ?_; refine vo_step (ok_not rfl rfl rfl rfl) rfl ?_; refine vo_nil ?_; refine N_seq ?_; refine V_false rfl ?_; refine V_skip ?_; refine N_seq ?_
          refine V_pubR 5 rfl ?_
          rw [← hins]
          refine V_region (id := 17) ?_; refine vo_step (ok_moves' rfl rfl rfl) rfl ?_; refine vo_step (ok_assigns' rfl rfl rfl) rfl ?_; refine vo_nil ?_; refine N_block ?_; refine N_seq ?_; refine V_region (id := 4) ?_; refine vo_step (ok_move rfl rfl rfl) rfl ?_; refine vo_step (ok_add rfl rfl rfl rfl (wrap_i64 (by omega) (by omega))) rfl ?_; refine vo_step (ok_assign rfl rfl rfl) rfl ?_; refine vo_nil ?_
          exact N_round (x := (i, o)) (i + 1, insS cmpT t o) ⟨hlt, by dsimp only; omega, hiz, he⟩ (by dsimp only; omega) ⟨rfl, rfl, rfl, trivial⟩
  · obtain rfl : i = l.length := by omega
    rw [List.drop_length, sortS] at he
    rw [he]
    refine V_seq ?_; refine V_seq ?_; refine V_region (id := 3) ?_; refine vo_step (ok_move rfl rfl rfl) rfl ?_; refine vo_step (ok_moves' rfl rfl rfl) rfl ?_; refine vo_step (ok_lenV L rfl rfl rfl rfl) rfl ?_; refine vo_step (ok_lss rfl rfl rfl rfl (decide_eq_false (by omega))) rfl ?_; refine vo_nil ?_; refine N_seq ?_; refine V_false rfl ?_; refine V_exit ?_; refine X_then ?_; refine X_then ?_; refine X_here ?_; refine N_seq ?_; refine V_seq ?_; refine V_region (id := 18) ?_; refine vo_step (ok_moves' rfl rfl rfl) rfl ?_; refine vo_step (ok_assigns' rfl rfl rfl) rfl ?_; refine vo_nil ?_; refine N_seq ?_
    refine V_ret L (rs := [.tmp 2]) rfl (fun _ _ h => h) Since.refl fun u H hH hle => ?_
    exact fun v hv => hv
end Go.V.L2
