/- FlightsFan returns true for every input, and leaves it as it was: no condition. -/
import Derived.Test.YtfihdmobfmkclaaFlightsFanM6
import Derived.ProofKit
import Derived.HandedShaped
import Derived.OpenShut
import Derived.Carry
import Derived.Deep.Slices
import Derived.SizedLaws
import Derived.Test.YtfihdmobfmkclaaRows
set_option linter.unusedVariables false
set_option linter.unusedSimpArgs false
/- The walk of the statements' example of flights (chapter 39). (Printed by mklvs39.py.) -/
namespace Go.V.L39
open Go.Proofs Go.RowKit Go.V
theorem lv_n : ∀ i, i < 5 → itsN (lvT i).fl ≤ 4 ∧ (lvT i).fl.length ≤ 3 := by decide +kernel
theorem lv_cnt : ckE (lvT 4) 0 = 0 ∧ cntB (fun x => decide (x.cl = 0)) (lvT 4).fl = 3 ∧ chkE (lvT 4) = 0 ∧ pins (allI (lvT 4).fl) = [(1, 3), (2, 1)] := by decide +kernel
theorem lv_n2 : itsN (cmT (lvT 4) 0 7).fl ≤ 4 ∧ (cmT (lvT 4) 0 7).fl.length ≤ 3 ∧ itsN lvU.fl ≤ 4 ∧ lvU.fl.length ≤ 3 := by decide +kernel
theorem lv_n3 : itsN lvV.fl ≤ 4 ∧ lvV.fl.length ≤ 3 := by decide +kernel
def lvW : Tb := (joinT lvV (qS 0) 1 ⟨3, 0, 1, 0, 1⟩ 5 true).1
abbrev LvK (t : Tb) (id : Int) (md : Bool) (e : Int) : Value → Heap → Prop := TupS [TbR t, fun v _ => v = .int .i64 id, fun v _ => v = .bool md, fun v _ => v = .int .i64 e]
theorem LvK.mono {t : Tb} {id : Int} {md : Bool} {e : Int} : Kn.mono (.sat (LvK t id md e)) := TupS.mono fun φ h => by
  simp only [List.mem_cons, List.mem_nil_iff, or_false] at h
  rcases h with rfl | rfl | rfl | rfl
  · exact TbR.mn
  · exact eqv_mono
  · exact eqv_mono
  · exact eqv_mono
theorem lv_qz (i : Nat) : QuZ (lvQ i) := by unfold lvQ; split <;> exact qS_z _
abbrev LvJ (t : Tb) (id : Int) (md : Bool) : Value → Heap → Prop := TupS [TbR t, fun v _ => v = .int .i64 id, fun v _ => v = .bool md, fun v _ => v = .int .i64 0]
theorem LvJ.mono {t : Tb} {id : Int} {md : Bool} : Kn.mono (.sat (LvJ t id md)) := TupS.mono fun φ h => by
  simp only [List.mem_cons, List.mem_nil_iff, or_false] at h
  rcases h with rfl | rfl | rfl | rfl
  · exact TbR.mn
  · exact eqv_mono
  · exact eqv_mono
  · exact eqv_mono
theorem lv_tup {B H : Heap} {i : Nat} {v : Value} (hi : i < 4) (h : JoinP B (joinT (lvT i) (lvQ i) (lvI i).rv (lvI i) 5 false) (joinE (lvT i) (lvQ i) (lvI i).rv (lvI i) 5 false) v H) : LvJ (lvT (i + 1)) (([0, 0, 1, 2] : List Int)[i]?.getD 0) (decide (i ≠ 1)) v H := by
  obtain ⟨e1, e2⟩ := lv_join i hi
  have h3 := JoinP.tup h
  unfold JoinS at h3
  rw [e1, e2] at h3
  exact h3
attribute [local irreducible] V N X VO Par StepOK Has Ret RetL RetO RetT RetG Src
set_option maxHeartbeats 8000000 in
set_option maxRecDepth 20000 in
theorem lives_law {w : World} {B : Heap} (hB : B.Le (hp w)) : Ret Try.prog 10 [] w B (fun v _ => v = .bool true) := by
  refine V_enter Try.func10 rfl Try.ntmps10 (Nat.le_of_ble_eq_true rfl) hB ?_
  refine V_seq ?_; refine V_region (id := 0) ?_; refine vo_step (ok_assign rfl rfl rfl) rfl ?_; refine vo_nil ?_; refine N_seq ?_; refine V_seq ?_; refine V_region (id := 1) ?_; refine vo_step (ok_callx L rfl rfl (blt_lt rfl) rfl rfl rfl (fun u H hH _ _ => pair_law hH)) rfl ?_; refine vo_step (ok_move rfl rfl rfl) rfl ?_; refine vo_step (ok_extract rfl rfl rfl rfl) rfl ?_; refine vo_step (ok_extract rfl rfl rfl rfl) rfl ?_; refine vo_step (ok_alloc L rfl rfl rfl rfl) rfl ?_; refine vo_step (ok_alloc L rfl rfl rfl rfl) rfl ?_; refine vo_step (ok_store L rfl rfl rfl rfl rfl rfl rfl rfl) rfl ?_; refine vo_step (ok_store L rfl rfl rfl rfl rfl rfl rfl rfl) rfl ?_; refine vo_nil ?_; refine N_seq ?_; refine V_seq ?_; refine V_region (id := 2) ?_; refine vo_step (ok_alloc L rfl rfl rfl rfl) rfl ?_; refine vo_nil ?_; refine N_seq ?_; refine V_seq ?_; refine V_region (id := 3) ?_; refine vo_step (ok_loadA L (vs := [_, _, _, _, _, _]) (src_own rfl) rfl rfl rfl rfl ⟨_, rfl⟩) rfl ?_; refine vo_step (ok_loadA L (vs := [_, _, _, _, _, _]) (src_own rfl) rfl rfl rfl rfl ⟨_, rfl⟩) rfl ?_; refine vo_step (ok_loadA L (vs := [_, _, _, _, _, _]) (src_own rfl) rfl rfl rfl rfl ⟨_, rfl⟩) rfl ?_; refine vo_step (ok_loadA L (vs := [_, _, _, _, _, _]) (src_own rfl) rfl rfl rfl rfl ⟨_, rfl⟩) rfl ?_; refine vo_step (ok_buildSlice L rfl rfl rfl rfl rfl rfl rfl rfl rfl) rfl ?_; refine vo_step (ok_assigns' rfl rfl rfl) rfl ?_; refine vo_nil ?_; refine N_seq ?_; refine V_seq ?_; refine V_region (id := 4) ?_; refine vo_step (ok_build (cs := [_, _, _, _, _]) rfl rfl pl33 rfl rfl) rfl ?_; refine vo_step (ok_build (cs := [_, _, _, _, _]) rfl rfl pl33 rfl rfl) rfl ?_; refine vo_step (ok_build (cs := [_, _, _, _, _]) rfl rfl pl33 rfl rfl) rfl ?_; refine vo_step (ok_build (cs := [_, _, _, _, _]) rfl rfl pl33 rfl rfl) rfl ?_; refine vo_step (ok_buildSlice L rfl rfl rfl rfl rfl rfl rfl rfl rfl) rfl ?_; refine vo_step (ok_assigns' rfl rfl rfl) rfl ?_; refine vo_nil ?_; refine N_seq ?_; refine V_seq ?_; refine V_region (id := 5) ?_; refine vo_step (ok_loadA L (vs := [_, _]) (src_own rfl) rfl rfl rfl rfl ⟨_, rfl⟩) rfl ?_; refine vo_step (ok_alloc L rfl rfl rfl rfl) rfl ?_; refine vo_step (ok_store L rfl rfl rfl rfl rfl rfl rfl rfl) rfl ?_; refine vo_nil ?_; refine N_seq ?_; refine V_seq ?_; refine V_seq ?_; refine V_region (id := 6) ?_; refine vo_step (ok_assign rfl rfl rfl) rfl ?_; refine vo_nil ?_; refine N_seq ?_; refine V_block ?_
  refine V_clsX 3 TbX.mono ((none, 0, 0) : SlX) (show TbX (lvT 0) (none, 0, 0) B from ⟨[], rfl, fsb_nil rfl⟩) (r := fun x : SlX => Cell (tbxC (lvT 0) x) tyT) rfl ?_
  refine V_clsX 6 TbX.mono ((none, 0, 0) : SlX) (show TbX (lvT 0) (none, 0, 0) B from ⟨[], rfl, fsb_nil rfl⟩) (r := fun x : SlX => Cell (tbxC (lvT 0) x) tyT) rfl ?_
  refine V_loop (fun i : Nat => [(0, .is (.bool false)), (1, .own (Cell [.int .u8 (qS 0).kd, .string (qS 0).g.1.1, .string (qS 0).g.1.2, .string (qS 0).g.2, .string (qS 0).u.1, .string (qS 0).u.2] tyQ)), (2, .own (Cell [.int .u8 (qS 1).kd, .string (qS 1).g.1.1, .string (qS 1).g.1.2, .string (qS 1).g.2, .string (qS 1).u.1, .string (qS 1).u.2] tyQ)), (3, .own (ExR (fun x : SlX => Cell (tbxC (lvT i) x) tyT) (TbX (lvT i)) TbX.mono)), (4, .sat (SlB [.int .u8 (qS 0).kd, .string (qS 0).g.1.1, .string (qS 0).g.1.2, .string (qS 0).g.2, .string (qS 0).u.1, .string (qS 0).u.2, .int .u8 (qS 0).kd, .string (qS 0).g.1.1, .string (qS 0).g.1.2, .string (qS 0).g.2, .string (qS 0).u.1, .string (qS 0).u.2, .int .u8 (qS 0).kd, .string (qS 0).g.1.1, .string (qS 0).g.1.2, .string (qS 0).g.2, .string (qS 0).u.1, .string (qS 0).u.2, .int .u8 (qS 1).kd, .string (qS 1).g.1.1, .string (qS 1).g.1.2, .string (qS 1).g.2, .string (qS 1).u.1, .string (qS 1).u.2] tyQ 4)), (5, .sat (SlB [.int .i64 0, .int .i64 0, .int .i64 0, .int .i64 2, .int .u64 1, .int .i64 1, .int .i64 0, .int .i64 3, .int .i64 1, .int .u64 1, .int .i64 2, .int .i64 0, .int .i64 0, .int .i64 0, .int .u64 2, .int .i64 2, .int .i64 1, .int .i64 0, .int .i64 0, .int .u64 1] tyI 4)), (6, .own (ExR (fun x : SlX => Cell (tbxC (lvT (min i 1)) x) tyT) (TbX (lvT (min i 1))) TbX.mono)), (7, .is (.int .i64 i))]) (fun i => i ≤ 4) (fun i => 4 - i) 0 (Nat.zero_le _) ⟨rfl, rfl, rfl, rfl, rfl, rfl, rfl, rfl, trivial⟩ ?_
  rintro i hi
  by_cases hlt : i < 4
  · refine V_opnX 3 rfl fun ⟨p1, n1, c1⟩ H1 s1 ⟨zs, hz, hs⟩ => ?_
    dsimp only [tbxC] at hs ⊢
    obtain ⟨hn4, hl3⟩ := lv_n i (by omega)
    have hlen := fls_len hz
    have hn : itsN (lvT i).fl ≤ 4611686018427387904 := by omega
    rcases (by omega : i = 0 ∨ i = 1 ∨ i = 2 ∨ i = 3) with rfl | rfl | rfl | rfl
    · have hm := TbR.mn (t := lvT 1)
      refine V_seq ?_; refine V_seq ?_; refine V_region (id := 7) ?_; refine vo_step (ok_move rfl rfl rfl) rfl ?_; refine vo_step (ok_lss rfl rfl rfl rfl (decide_eq_true (by omega))) rfl ?_; refine vo_nil ?_; refine N_seq ?_; refine V_true rfl ?_; refine V_skip ?_; refine N_seq ?_; refine V_seq ?_; refine V_block ?_; refine V_seq ?_; refine V_regionD (id := 9) [] mixed (by kernel_rfl) ?_; refine par_step (ok_loadA L (vs := [_, _]) (src_own rfl) rfl rfl rfl rfl ⟨_, rfl⟩) rfl ?_; refine par_step (ok_moves' rfl rfl rfl) rfl ?_; refine par_step (ok_move rfl rfl rfl) rfl ?_; refine par_step (ok_indexSl L 0 rfl rfl rfl rfl rfl rfl rfl (by omega)) rfl ?_; refine par_step (ok_loadA L (vs := [_, _, _, _, _, _]) (src_at rfl) rfl rfl rfl rfl ⟨_, rfl⟩) rfl ?_; refine par_step (ok_moves' rfl rfl rfl) rfl ?_; refine par_step (ok_move rfl rfl rfl) rfl ?_; refine par_step (ok_indexSl L 0 rfl rfl rfl rfl rfl rfl rfl (by omega)) rfl ?_; refine par_step (ok_fieldAt L rfl rfl rfl rfl) rfl ?_; refine par_step (ok_load1 L (src_at rfl) rfl rfl rfl rfl) rfl ?_; refine par_step (ok_moves' rfl rfl rfl) rfl ?_; refine par_step (ok_move rfl rfl rfl) rfl ?_; refine par_step (ok_indexSl L 0 rfl rfl rfl rfl rfl rfl rfl (by omega)) rfl ?_; refine par_step (ok_loadA L (vs := [_, _, _, _, _]) (src_at rfl) rfl rfl rfl rfl ⟨_, rfl⟩) rfl ?_; refine par_step (ok_call (φ := LvJ (lvT 1) 0 true) L rfl rfl (blt_lt rfl) rfl rfl rfl LvJ.mono (fun u H hH hle _ => Ret.mono (join_ret (q := lvQ 0) (x := lvI 0) hz (hs.le hle) (lv_tz 0).q (lv_qz _) hn (by omega) hH) fun v H' _ h => lv_tup (i := 0) (by decide) h)) rfl ?_; refine par_step (ok_moves' rfl rfl rfl) rfl ?_; refine par_step (ok_extracts rfl rfl rfl rfl (by assumption)) rfl ?_; refine par_step (ok_extractx rfl rfl rfl rfl) rfl ?_; refine par_step (ok_extractx rfl rfl rfl rfl) rfl ?_; refine par_step (ok_extractx rfl rfl rfl rfl) rfl ?_; refine par_step (ok_alloc L rfl rfl rfl rfl) rfl ?_; refine par_step (ok_storeX L (X := SlX) (tbxC (lvT 1)) (TbX (lvT 1)) TbX.mono tbx_st (fun _ => ⟨rfl, rfl⟩) rfl rfl rfl rfl rfl) rfl ?_; refine par_step (ok_assign rfl rfl rfl) rfl ?_; refine par_step (ok_assign rfl rfl rfl) rfl ?_; refine par_step (ok_assign rfl rfl rfl) rfl ?_; refine par_nil ?_; refine N_seq ?_; refine V_seq ?_; refine V_seq ?_
      refine V_opnX 8 rfl fun ⟨p2, n2, c2⟩ H2 s2 h2 => ?_
      refine V_opnX 6 rfl fun ⟨p6, n6, c6⟩ H6 s6 _ => ?_
      replace h2 := TbX.mono _ _ _ h2 s6.le
      dsimp only [tbxC]
      refine V_region (id := 10) ?_; refine vo_step (ok_move rfl rfl rfl) rfl ?_; refine vo_step (ok_neq rfl rfl rfl rfl (decide_eq_false (by omega))) rfl ?_; refine vo_step (ok_move rfl rfl rfl) rfl ?_; refine vo_step (ok_move rfl rfl rfl) rfl ?_; refine vo_step (ok_buildSlice L rfl rfl rfl rfl rfl rfl rfl rfl rfl) rfl ?_; refine vo_step (ok_move rfl rfl rfl) rfl ?_; refine vo_step (ok_indexSl L 0 rfl rfl rfl rfl rfl rfl rfl (by omega)) rfl ?_; refine vo_step (ok_load1 L (src_at rfl) rfl rfl rfl rfl) rfl ?_; refine vo_step (ok_neq rfl rfl rfl rfl (decide_eq_false (by omega))) rfl ?_; refine vo_step (ok_pick rfl rfl rfl rfl) rfl ?_; refine vo_step (ok_move rfl rfl rfl) rfl ?_; refine vo_step (ok_move rfl rfl rfl) rfl ?_; refine vo_step (ok_move rfl rfl rfl) rfl ?_; refine vo_step (ok_neq rfl rfl rfl rfl (decide_eq_true (by omega))) rfl ?_; refine vo_step (ok_bneq rfl rfl rfl rfl bt4 rfl) rfl ?_; refine vo_step (ok_pick rfl rfl rfl rfl) rfl ?_; refine vo_nil ?_; refine N_seq ?_; refine V_false rfl ?_; refine V_skip ?_; refine N_seq ?_; refine V_seq ?_; refine V_region (id := 12) ?_; refine vo_step (ok_loadA L (vs := [_, _]) (src_own rfl) rfl rfl rfl rfl ⟨_, rfl⟩) rfl ?_; refine vo_step (ok_store L rfl rfl rfl rfl rfl rfl rfl rfl) rfl ?_; refine vo_nil ?_; refine N_seq ?_; refine V_seq ?_; refine V_region (id := 13) ?_; refine vo_step (ok_move rfl rfl rfl) rfl ?_; refine vo_step (ok_eql rfl rfl rfl rfl (decide_eq_true (by omega))) rfl ?_; refine vo_nil ?_; refine N_seq ?_; refine V_true rfl ?_; refine V_region (id := 14) ?_; refine vo_step (ok_loadA L (vs := [_, _]) (src_own rfl) rfl rfl rfl rfl ⟨_, rfl⟩) rfl ?_; refine vo_step (ok_store L rfl rfl rfl rfl rfl rfl rfl rfl) rfl ?_; refine vo_nil ?_; refine N_block ?_; refine N_seq ?_; refine V_region (id := 8) ?_; refine vo_step (ok_move rfl rfl rfl) rfl ?_; refine vo_step (ok_add rfl rfl rfl rfl (wrap_i64 (by omega) (by omega))) rfl ?_; refine vo_step (ok_assign rfl rfl rfl) rfl ?_; refine vo_nil ?_
      refine N_clsX 3 TbX.mono ((p2, n2, c2) : SlX) h2 (r := fun x : SlX => Cell (tbxC (lvT 1) x) tyT) rfl ?_
      refine N_clsX 6 TbX.mono ((p2, n2, c2) : SlX) h2 (r := fun x : SlX => Cell (tbxC (lvT 1) x) tyT) rfl ?_
      exact N_roundS (x := 0) 1 ((s1.trans s2).trans s6) (by decide) (by decide) ⟨rfl, rfl, rfl, rfl, rfl, rfl, rfl, rfl, trivial⟩
    · have hm := TbR.mn (t := lvT 2)
      refine V_seq ?_; refine V_seq ?_; refine V_region (id := 7) ?_; refine vo_step (ok_move rfl rfl rfl) rfl ?_; refine vo_step (ok_lss rfl rfl rfl rfl (decide_eq_true (by omega))) rfl ?_; refine vo_nil ?_; refine N_seq ?_; refine V_true rfl ?_; refine V_skip ?_; refine N_seq ?_; refine V_seq ?_; refine V_block ?_; refine V_seq ?_; refine V_regionD (id := 9) [] mixed (by kernel_rfl) ?_; refine par_step (ok_loadA L (vs := [_, _]) (src_own rfl) rfl rfl rfl rfl ⟨_, rfl⟩) rfl ?_; refine par_step (ok_moves' rfl rfl rfl) rfl ?_; refine par_step (ok_move rfl rfl rfl) rfl ?_; refine par_step (ok_indexSl L _ rfl rfl rfl rfl rfl rfl rfl (by omega)) rfl ?_; refine par_step (ok_loadA L (vs := [_, _, _, _, _, _]) (src_at rfl) rfl rfl rfl rfl ⟨_, rfl⟩) rfl ?_; refine par_step (ok_moves' rfl rfl rfl) rfl ?_; refine par_step (ok_move rfl rfl rfl) rfl ?_; refine par_step (ok_indexSl L _ rfl rfl rfl rfl rfl rfl rfl (by omega)) rfl ?_; refine par_step (ok_fieldAt L rfl rfl rfl rfl) rfl ?_; refine par_step (ok_load1 L (src_at rfl) rfl rfl rfl rfl) rfl ?_; refine par_step (ok_moves' rfl rfl rfl) rfl ?_; refine par_step (ok_move rfl rfl rfl) rfl ?_; refine par_step (ok_indexSl L _ rfl rfl rfl rfl rfl rfl rfl (by omega)) rfl ?_; refine par_step (ok_loadA L (vs := [_, _, _, _, _]) (src_at rfl) rfl rfl rfl rfl ⟨_, rfl⟩) rfl ?_; refine par_step (ok_call (φ := LvJ (lvT 2) 0 false) L rfl rfl (blt_lt rfl) rfl rfl rfl LvJ.mono (fun u H hH hle _ => Ret.mono (join_ret (q := lvQ 1) (x := lvI 1) hz (hs.le hle) (lv_tz 1).q (lv_qz _) hn (by omega) hH) fun v H' _ h => lv_tup (i := 1) (by decide) h)) rfl ?_; refine par_step (ok_moves' rfl rfl rfl) rfl ?_; refine par_step (ok_extracts rfl rfl rfl rfl (by assumption)) rfl ?_; refine par_step (ok_extractx rfl rfl rfl rfl) rfl ?_; refine par_step (ok_extractx rfl rfl rfl rfl) rfl ?_; refine par_step (ok_extractx rfl rfl rfl rfl) rfl ?_; refine par_step (ok_alloc L rfl rfl rfl rfl) rfl ?_; refine par_step (ok_storeX L (X := SlX) (tbxC (lvT 2)) (TbX (lvT 2)) TbX.mono tbx_st (fun _ => ⟨rfl, rfl⟩) rfl rfl rfl rfl rfl) rfl ?_; refine par_step (ok_assign rfl rfl rfl) rfl ?_; refine par_step (ok_assign rfl rfl rfl) rfl ?_; refine par_step (ok_assign rfl rfl rfl) rfl ?_; refine par_nil ?_; refine N_seq ?_; refine V_seq ?_; refine V_seq ?_
      refine V_opnX 8 rfl fun ⟨p2, n2, c2⟩ H2 s2 h2 => ?_
      dsimp only [tbxC]
      refine V_region (id := 10) ?_; refine vo_step (ok_move rfl rfl rfl) rfl ?_; refine vo_step (ok_neq rfl rfl rfl rfl (decide_eq_false (by omega))) rfl ?_; refine vo_step (ok_move rfl rfl rfl) rfl ?_; refine vo_step (ok_move rfl rfl rfl) rfl ?_; refine vo_step (ok_buildSlice L rfl rfl rfl rfl rfl rfl rfl rfl rfl) rfl ?_; refine vo_step (ok_move rfl rfl rfl) rfl ?_; refine vo_step (ok_indexSl L _ rfl rfl rfl rfl rfl rfl rfl (by omega)) rfl ?_; refine vo_step (ok_load1 L (src_at rfl) rfl rfl rfl rfl) rfl ?_; refine vo_step (ok_neq rfl rfl rfl rfl (decide_eq_false (by omega))) rfl ?_; refine vo_step (ok_pick rfl rfl rfl rfl) rfl ?_; refine vo_step (ok_move rfl rfl rfl) rfl ?_; refine vo_step (ok_move rfl rfl rfl) rfl ?_; refine vo_step (ok_move rfl rfl rfl) rfl ?_; refine vo_step (ok_neq rfl rfl rfl rfl (decide_eq_false (by omega))) rfl ?_; refine vo_step (ok_bneq rfl rfl rfl rfl bt4 rfl) rfl ?_; refine vo_step (ok_pick rfl rfl rfl rfl) rfl ?_; refine vo_nil ?_; refine N_seq ?_; refine V_false rfl ?_; refine V_skip ?_; refine N_seq ?_; refine V_seq ?_; refine V_region (id := 12) ?_; refine vo_step (ok_loadA L (vs := [_, _]) (src_own rfl) rfl rfl rfl rfl ⟨_, rfl⟩) rfl ?_; refine vo_step (ok_store L rfl rfl rfl rfl rfl rfl rfl rfl) rfl ?_; refine vo_nil ?_; refine N_seq ?_; refine V_seq ?_; refine V_region (id := 13) ?_; refine vo_step (ok_move rfl rfl rfl) rfl ?_; refine vo_step (ok_eql rfl rfl rfl rfl (decide_eq_false (by omega))) rfl ?_; refine vo_nil ?_; refine N_seq ?_; refine V_false rfl ?_; refine V_skip ?_; refine N_block ?_; refine N_seq ?_; refine V_region (id := 8) ?_; refine vo_step (ok_move rfl rfl rfl) rfl ?_; refine vo_step (ok_add rfl rfl rfl rfl (wrap_i64 (by omega) (by omega))) rfl ?_; refine vo_step (ok_assign rfl rfl rfl) rfl ?_; refine vo_nil ?_
      refine N_clsX 3 TbX.mono ((p2, n2, c2) : SlX) h2 (r := fun x : SlX => Cell (tbxC (lvT 2) x) tyT) rfl ?_
      exact N_roundS (x := 1) 2 (s1.trans s2) (by decide) (by decide) ⟨rfl, rfl, rfl, rfl, rfl, rfl, rfl, rfl, trivial⟩
    · have hm := TbR.mn (t := lvT 3)
      refine V_seq ?_; refine V_seq ?_; refine V_region (id := 7) ?_; refine vo_step (ok_move rfl rfl rfl) rfl ?_; refine vo_step (ok_lss rfl rfl rfl rfl (decide_eq_true (by omega))) rfl ?_; refine vo_nil ?_; refine N_seq ?_; refine V_true rfl ?_; refine V_skip ?_; refine N_seq ?_; refine V_seq ?_; refine V_block ?_; refine V_seq ?_; refine V_regionD (id := 9) [] mixed (by kernel_rfl) ?_; refine par_step (ok_loadA L (vs := [_, _]) (src_own rfl) rfl rfl rfl rfl ⟨_, rfl⟩) rfl ?_; refine par_step (ok_moves' rfl rfl rfl) rfl ?_; refine par_step (ok_move rfl rfl rfl) rfl ?_; refine par_step (ok_indexSl L _ rfl rfl rfl rfl rfl rfl rfl (by omega)) rfl ?_; refine par_step (ok_loadA L (vs := [_, _, _, _, _, _]) (src_at rfl) rfl rfl rfl rfl ⟨_, rfl⟩) rfl ?_; refine par_step (ok_moves' rfl rfl rfl) rfl ?_; refine par_step (ok_move rfl rfl rfl) rfl ?_; refine par_step (ok_indexSl L _ rfl rfl rfl rfl rfl rfl rfl (by omega)) rfl ?_; refine par_step (ok_fieldAt L rfl rfl rfl rfl) rfl ?_; refine par_step (ok_load1 L (src_at rfl) rfl rfl rfl rfl) rfl ?_; refine par_step (ok_moves' rfl rfl rfl) rfl ?_; refine par_step (ok_move rfl rfl rfl) rfl ?_; refine par_step (ok_indexSl L _ rfl rfl rfl rfl rfl rfl rfl (by omega)) rfl ?_; refine par_step (ok_loadA L (vs := [_, _, _, _, _]) (src_at rfl) rfl rfl rfl rfl ⟨_, rfl⟩) rfl ?_; refine par_step (ok_call (φ := LvJ (lvT 3) 1 true) L rfl rfl (blt_lt rfl) rfl rfl rfl LvJ.mono (fun u H hH hle _ => Ret.mono (join_ret (q := lvQ 2) (x := lvI 2) hz (hs.le hle) (lv_tz 2).q (lv_qz _) hn (by omega) hH) fun v H' _ h => lv_tup (i := 2) (by decide) h)) rfl ?_; refine par_step (ok_moves' rfl rfl rfl) rfl ?_; refine par_step (ok_extracts rfl rfl rfl rfl (by assumption)) rfl ?_; refine par_step (ok_extractx rfl rfl rfl rfl) rfl ?_; refine par_step (ok_extractx rfl rfl rfl rfl) rfl ?_; refine par_step (ok_extractx rfl rfl rfl rfl) rfl ?_; refine par_step (ok_alloc L rfl rfl rfl rfl) rfl ?_; refine par_step (ok_storeX L (X := SlX) (tbxC (lvT 3)) (TbX (lvT 3)) TbX.mono tbx_st (fun _ => ⟨rfl, rfl⟩) rfl rfl rfl rfl rfl) rfl ?_; refine par_step (ok_assign rfl rfl rfl) rfl ?_; refine par_step (ok_assign rfl rfl rfl) rfl ?_; refine par_step (ok_assign rfl rfl rfl) rfl ?_; refine par_nil ?_; refine N_seq ?_; refine V_seq ?_; refine V_seq ?_
      refine V_opnX 8 rfl fun ⟨p2, n2, c2⟩ H2 s2 h2 => ?_
      dsimp only [tbxC]
      refine V_region (id := 10) ?_; refine vo_step (ok_move rfl rfl rfl) rfl ?_; refine vo_step (ok_neq rfl rfl rfl rfl (decide_eq_false (by omega))) rfl ?_; refine vo_step (ok_move rfl rfl rfl) rfl ?_; refine vo_step (ok_move rfl rfl rfl) rfl ?_; refine vo_step (ok_buildSlice L rfl rfl rfl rfl rfl rfl rfl rfl rfl) rfl ?_; refine vo_step (ok_move rfl rfl rfl) rfl ?_; refine vo_step (ok_indexSl L _ rfl rfl rfl rfl rfl rfl rfl (by omega)) rfl ?_; refine vo_step (ok_load1 L (src_at rfl) rfl rfl rfl rfl) rfl ?_; refine vo_step (ok_neq rfl rfl rfl rfl (decide_eq_false (by omega))) rfl ?_; refine vo_step (ok_pick rfl rfl rfl rfl) rfl ?_; refine vo_step (ok_move rfl rfl rfl) rfl ?_; refine vo_step (ok_move rfl rfl rfl) rfl ?_; refine vo_step (ok_move rfl rfl rfl) rfl ?_; refine vo_step (ok_neq rfl rfl rfl rfl (decide_eq_true (by omega))) rfl ?_; refine vo_step (ok_bneq rfl rfl rfl rfl bt4 rfl) rfl ?_; refine vo_step (ok_pick rfl rfl rfl rfl) rfl ?_; refine vo_nil ?_; refine N_seq ?_; refine V_false rfl ?_; refine V_skip ?_; refine N_seq ?_; refine V_seq ?_; refine V_region (id := 12) ?_; refine vo_step (ok_loadA L (vs := [_, _]) (src_own rfl) rfl rfl rfl rfl ⟨_, rfl⟩) rfl ?_; refine vo_step (ok_store L rfl rfl rfl rfl rfl rfl rfl rfl) rfl ?_; refine vo_nil ?_; refine N_seq ?_; refine V_seq ?_; refine V_region (id := 13) ?_; refine vo_step (ok_move rfl rfl rfl) rfl ?_; refine vo_step (ok_eql rfl rfl rfl rfl (decide_eq_false (by omega))) rfl ?_; refine vo_nil ?_; refine N_seq ?_; refine V_false rfl ?_; refine V_skip ?_; refine N_block ?_; refine N_seq ?_; refine V_region (id := 8) ?_; refine vo_step (ok_move rfl rfl rfl) rfl ?_; refine vo_step (ok_add rfl rfl rfl rfl (wrap_i64 (by omega) (by omega))) rfl ?_; refine vo_step (ok_assign rfl rfl rfl) rfl ?_; refine vo_nil ?_
      refine N_clsX 3 TbX.mono ((p2, n2, c2) : SlX) h2 (r := fun x : SlX => Cell (tbxC (lvT 3) x) tyT) rfl ?_
      exact N_roundS (x := 2) 3 (s1.trans s2) (by decide) (by decide) ⟨rfl, rfl, rfl, rfl, rfl, rfl, rfl, rfl, trivial⟩
    · have hm := TbR.mn (t := lvT 4)
      refine V_seq ?_; refine V_seq ?_; refine V_region (id := 7) ?_; refine vo_step (ok_move rfl rfl rfl) rfl ?_; refine vo_step (ok_lss rfl rfl rfl rfl (decide_eq_true (by omega))) rfl ?_; refine vo_nil ?_; refine N_seq ?_; refine V_true rfl ?_; refine V_skip ?_; refine N_seq ?_; refine V_seq ?_; refine V_block ?_; refine V_seq ?_; refine V_regionD (id := 9) [] mixed (by kernel_rfl) ?_; refine par_step (ok_loadA L (vs := [_, _]) (src_own rfl) rfl rfl rfl rfl ⟨_, rfl⟩) rfl ?_; refine par_step (ok_moves' rfl rfl rfl) rfl ?_; refine par_step (ok_move rfl rfl rfl) rfl ?_; refine par_step (ok_indexSl L _ rfl rfl rfl rfl rfl rfl rfl (by omega)) rfl ?_; refine par_step (ok_loadA L (vs := [_, _, _, _, _, _]) (src_at rfl) rfl rfl rfl rfl ⟨_, rfl⟩) rfl ?_; refine par_step (ok_moves' rfl rfl rfl) rfl ?_; refine par_step (ok_move rfl rfl rfl) rfl ?_; refine par_step (ok_indexSl L _ rfl rfl rfl rfl rfl rfl rfl (by omega)) rfl ?_; refine par_step (ok_fieldAt L rfl rfl rfl rfl) rfl ?_; refine par_step (ok_load1 L (src_at rfl) rfl rfl rfl rfl) rfl ?_; refine par_step (ok_moves' rfl rfl rfl) rfl ?_; refine par_step (ok_move rfl rfl rfl) rfl ?_; refine par_step (ok_indexSl L _ rfl rfl rfl rfl rfl rfl rfl (by omega)) rfl ?_; refine par_step (ok_loadA L (vs := [_, _, _, _, _]) (src_at rfl) rfl rfl rfl rfl ⟨_, rfl⟩) rfl ?_; refine par_step (ok_call (φ := LvJ (lvT 4) 2 true) L rfl rfl (blt_lt rfl) rfl rfl rfl LvJ.mono (fun u H hH hle _ => Ret.mono (join_ret (q := lvQ 3) (x := lvI 3) hz (hs.le hle) (lv_tz 3).q (lv_qz _) hn (by omega) hH) fun v H' _ h => lv_tup (i := 3) (by decide) h)) rfl ?_; refine par_step (ok_moves' rfl rfl rfl) rfl ?_; refine par_step (ok_extracts rfl rfl rfl rfl (by assumption)) rfl ?_; refine par_step (ok_extractx rfl rfl rfl rfl) rfl ?_; refine par_step (ok_extractx rfl rfl rfl rfl) rfl ?_; refine par_step (ok_extractx rfl rfl rfl rfl) rfl ?_; refine par_step (ok_alloc L rfl rfl rfl rfl) rfl ?_; refine par_step (ok_storeX L (X := SlX) (tbxC (lvT 4)) (TbX (lvT 4)) TbX.mono tbx_st (fun _ => ⟨rfl, rfl⟩) rfl rfl rfl rfl rfl) rfl ?_; refine par_step (ok_assign rfl rfl rfl) rfl ?_; refine par_step (ok_assign rfl rfl rfl) rfl ?_; refine par_step (ok_assign rfl rfl rfl) rfl ?_; refine par_nil ?_; refine N_seq ?_; refine V_seq ?_; refine V_seq ?_
      refine V_opnX 8 rfl fun ⟨p2, n2, c2⟩ H2 s2 h2 => ?_
      dsimp only [tbxC]
      refine V_region (id := 10) ?_; refine vo_step (ok_move rfl rfl rfl) rfl ?_; refine vo_step (ok_neq rfl rfl rfl rfl (decide_eq_false (by omega))) rfl ?_; refine vo_step (ok_move rfl rfl rfl) rfl ?_; refine vo_step (ok_move rfl rfl rfl) rfl ?_; refine vo_step (ok_buildSlice L rfl rfl rfl rfl rfl rfl rfl rfl rfl) rfl ?_; refine vo_step (ok_move rfl rfl rfl) rfl ?_; refine vo_step (ok_indexSl L _ rfl rfl rfl rfl rfl rfl rfl (by omega)) rfl ?_; refine vo_step (ok_load1 L (src_at rfl) rfl rfl rfl rfl) rfl ?_; refine vo_step (ok_neq rfl rfl rfl rfl (decide_eq_false (by omega))) rfl ?_; refine vo_step (ok_pick rfl rfl rfl rfl) rfl ?_; refine vo_step (ok_move rfl rfl rfl) rfl ?_; refine vo_step (ok_move rfl rfl rfl) rfl ?_; refine vo_step (ok_move rfl rfl rfl) rfl ?_; refine vo_step (ok_neq rfl rfl rfl rfl (decide_eq_true (by omega))) rfl ?_; refine vo_step (ok_bneq rfl rfl rfl rfl bt4 rfl) rfl ?_; refine vo_step (ok_pick rfl rfl rfl rfl) rfl ?_; refine vo_nil ?_; refine N_seq ?_; refine V_false rfl ?_; refine V_skip ?_; refine N_seq ?_; refine V_seq ?_; refine V_region (id := 12) ?_; refine vo_step (ok_loadA L (vs := [_, _]) (src_own rfl) rfl rfl rfl rfl ⟨_, rfl⟩) rfl ?_; refine vo_step (ok_store L rfl rfl rfl rfl rfl rfl rfl rfl) rfl ?_; refine vo_nil ?_; refine N_seq ?_; refine V_seq ?_; refine V_region (id := 13) ?_; refine vo_step (ok_move rfl rfl rfl) rfl ?_; refine vo_step (ok_eql rfl rfl rfl rfl (decide_eq_false (by omega))) rfl ?_; refine vo_nil ?_; refine N_seq ?_; refine V_false rfl ?_; refine V_skip ?_; refine N_block ?_; refine N_seq ?_; refine V_region (id := 8) ?_; refine vo_step (ok_move rfl rfl rfl) rfl ?_; refine vo_step (ok_add rfl rfl rfl rfl (wrap_i64 (by omega) (by omega))) rfl ?_; refine vo_step (ok_assign rfl rfl rfl) rfl ?_; refine vo_nil ?_
      refine N_clsX 3 TbX.mono ((p2, n2, c2) : SlX) h2 (r := fun x : SlX => Cell (tbxC (lvT 4) x) tyT) rfl ?_
      exact N_roundS (x := 3) 4 (s1.trans s2) (by decide) (by decide) ⟨rfl, rfl, rfl, rfl, rfl, rfl, rfl, rfl, trivial⟩
  · obtain rfl : i = 4 := by omega
    refine V_opnX 3 rfl fun ⟨p1, n1, c1⟩ H1 s1 ⟨zs, hz, hs⟩ => ?_
    dsimp only [tbxC] at hs ⊢
    obtain ⟨hn4, hl3⟩ := lv_n 4 (by decide)
    have hlen := fls_len hz
    have hn : itsN (lvT 4).fl ≤ 4611686018427387904 := by omega
    obtain ⟨r1, r2, r3, r4, r5, r6⟩ := lv_rest
    obtain ⟨k1, k2, k3, k4⟩ := lv_cnt
    have hmf := FlR.mn (f := findF (lvT 4) 0)
    refine V_seq ?_; refine V_seq ?_; refine V_region (id := 7) ?_; refine vo_step (ok_move rfl rfl rfl) rfl ?_; refine vo_step (ok_lss rfl rfl rfl rfl (decide_eq_false (by omega))) rfl ?_; refine vo_nil ?_; refine N_seq ?_; refine V_false rfl ?_; refine V_exit ?_; refine X_then ?_; refine X_then ?_; refine X_here ?_; refine N_seq ?_; refine V_seq ?_; refine V_region (id := 15) ?_; refine vo_step (ok_loadA L (vs := [_, _]) (src_own rfl) rfl rfl rfl rfl ⟨_, rfl⟩) rfl ?_; refine vo_step (ok_call (φ := FindS (findF (lvT 4) 0) 0) L rfl rfl (blt_lt rfl) rfl rfl rfl FindS.mono (fun u H hH hle _ => Ret.mono (find_ret hz (hs.le hle) (lv_tz 4).q hn hH) fun v H' _ h => (by have h2 := FindP.tup h; rw [r1] at h2; exact h2))) rfl ?_; refine vo_step (ok_moves' rfl rfl rfl) rfl ?_; refine vo_step (ok_extracts rfl rfl rfl rfl (by assumption)) rfl ?_; refine vo_step (ok_extractx rfl rfl rfl rfl) rfl ?_; refine vo_step (ok_alloc L rfl rfl rfl rfl) rfl ?_; refine vo_step (ok_storeX L (X := SlX) (flxC (findF (lvT 4) 0)) (FlX (findF (lvT 4) 0)) FlX.mono flx_st flx_pl rfl rfl rfl rfl rfl) rfl ?_; refine vo_step (ok_assign rfl rfl rfl) rfl ?_; refine vo_nil ?_; refine N_seq ?_; refine V_seq ?_
    refine V_region (id := 16) ?_; refine vo_step (ok_loadA L (vs := [_, _]) (src_own rfl) rfl rfl rfl rfl ⟨_, rfl⟩) rfl ?_; refine vo_step (ok_callx (r := .tuple #[.int .i64 3, .int .i64 0]) L rfl rfl (blt_lt rfl) rfl rfl rfl (fun u H hH hle _ => Ret.mono (waiting_ret hz (hs.le hle) (lv_tz 4).q hn hH) fun v H' _ h => (by rw [h, k1, if_pos rfl, k2]; rfl))) rfl ?_; refine vo_step (ok_move rfl rfl rfl) rfl ?_; refine vo_step (ok_extract rfl rfl rfl rfl) rfl ?_; refine vo_step (ok_extract rfl rfl rfl rfl) rfl ?_; refine vo_step (ok_assign rfl rfl rfl) rfl ?_; refine vo_step (ok_assign rfl rfl rfl) rfl ?_; refine vo_nil ?_; refine N_seq ?_; refine V_seq ?_
    have hmp := @SlV.mono tyP 2 ([(1, 3), (2, 1)] : List (Int × Nat)).length (([(1, 3), (2, 1)] : List (Int × Nat)).flatMap pnc) true
    refine V_region (id := 17) ?_; refine vo_step (ok_loadA L (vs := [_, _]) (src_own rfl) rfl rfl rfl rfl ⟨_, rfl⟩) rfl ?_; refine vo_step (ok_call (φ := PinsS [(1, 3), (2, 1)] 0) L rfl rfl (blt_lt rfl) rfl rfl rfl PinsS.mono (fun u H hH hle _ => Ret.mono (pins_ret hz (hs.le hle) (lv_tz 4).q hn hH) fun v H' _ h => (by have h2 := PinsP.tup h; rw [k3, if_pos rfl, k4] at h2; exact h2))) rfl ?_; refine vo_step (ok_moves' rfl rfl rfl) rfl ?_; refine vo_step (ok_extracts rfl rfl rfl rfl (by assumption)) rfl ?_; refine vo_step (ok_extractx rfl rfl rfl rfl) rfl ?_; refine vo_step (ok_assigns' rfl rfl rfl) rfl ?_; refine vo_step (ok_assign rfl rfl rfl) rfl ?_; refine vo_nil ?_; refine N_seq ?_; refine V_seq ?_; refine V_seq ?_
    refine V_opnX 12 rfl fun ⟨p2, n2, c2⟩ H2 s2 h2 => ?_
    dsimp only [flxC]
    refine V_box 12 rfl fun b12 hb12 => ?_
    obtain ⟨f1, f2, f3, f4, f5, f6⟩ := lv_find
    have hc1 : ((([(1, 3), (2, 1)] : List (Int × Nat)).flatMap pnc).drop (0 * 2)).take 2 = [.int .u64 1, .int .i64 3] := rfl
    have hc2 : ((([(1, 3), (2, 1)] : List (Int × Nat)).flatMap pnc).drop (1 * 2)).take 2 = [.int .u64 2, .int .i64 1] := rfl
    refine V_region (id := 18) ?_; refine vo_step (ok_move rfl rfl rfl) rfl ?_; refine vo_step (ok_neq rfl rfl rfl rfl (decide_eq_false (by omega))) rfl ?_; refine vo_step (ok_move rfl rfl rfl) rfl ?_; refine vo_step (ok_move rfl rfl rfl) rfl ?_; refine vo_step (ok_neq rfl rfl rfl rfl (decide_eq_false (by omega))) rfl ?_; refine vo_step (ok_pick rfl rfl rfl rfl) rfl ?_; refine vo_step (ok_move rfl rfl rfl) rfl ?_; refine vo_step (ok_move rfl rfl rfl) rfl ?_; refine vo_step (ok_neq rfl rfl rfl rfl (decide_eq_false (by omega))) rfl ?_; refine vo_step (ok_pick rfl rfl rfl rfl) rfl ?_; refine vo_step (ok_move rfl rfl rfl) rfl ?_; refine vo_step (ok_fieldP L rfl rfl rfl rfl) rfl ?_; refine vo_step (ok_load1 L (src_box rfl (List.Mem.head _)) rfl rfl rfl rfl) rfl ?_; refine vo_step (ok_neq rfl rfl rfl rfl rfl) rfl ?_; refine vo_step (ok_pick rfl rfl rfl rfl) rfl ?_; refine vo_step (ok_move rfl rfl rfl) rfl ?_; refine vo_step (ok_fieldP L rfl rfl rfl rfl) rfl ?_; refine vo_step (ok_load1 L (src_box rfl (List.Mem.head _)) rfl rfl rfl rfl) rfl ?_; refine vo_step (ok_neq rfl rfl rfl rfl rfl) rfl ?_; refine vo_step (ok_pick rfl rfl rfl rfl) rfl ?_; refine vo_step (ok_move rfl rfl rfl) rfl ?_; refine vo_step (ok_fieldP L rfl rfl rfl rfl) rfl ?_; refine vo_step (ok_load1 L (src_box rfl (List.Mem.head _)) rfl rfl rfl rfl) rfl ?_; refine vo_step (ok_neq rfl rfl rfl rfl rfl) rfl ?_; refine vo_step (ok_pick rfl rfl rfl rfl) rfl ?_; refine vo_step (ok_move rfl rfl rfl) rfl ?_; refine vo_step (ok_move rfl rfl rfl) rfl ?_; refine vo_step (ok_neq rfl rfl rfl rfl (decide_eq_false (by omega))) rfl ?_; refine vo_step (ok_pick rfl rfl rfl rfl) rfl ?_; refine vo_step (ok_move rfl rfl rfl) rfl ?_; refine vo_step (ok_moves' rfl rfl rfl) rfl ?_; refine vo_step (ok_lenV L rfl rfl rfl rfl) rfl ?_; refine vo_step (ok_neq rfl rfl rfl rfl rfl) rfl ?_; refine vo_step (ok_pick rfl rfl rfl rfl) rfl ?_; refine vo_step (ok_move rfl rfl rfl) rfl ?_; refine vo_step (ok_moves' rfl rfl rfl) rfl ?_; refine vo_step (ok_indexV L _ rfl rfl rfl rfl rfl rfl rfl (by first | omega | decide) (by assumption)) rfl ?_; refine vo_step (ok_loadPA L (vs := [_, _]) rfl rfl rfl rfl rfl ⟨_, rfl⟩) rfl ?_; refine vo_step (ok_build (cs := [_, _]) rfl rfl pl74 rfl rfl) rfl ?_; refine vo_step (ok_aneq rfl rfl rfl rfl eq74 rfl rfl) rfl ?_; refine vo_step (ok_pick rfl rfl rfl rfl) rfl ?_; refine vo_step (ok_move rfl rfl rfl) rfl ?_; refine vo_step (ok_moves' rfl rfl rfl) rfl ?_; refine vo_step (ok_indexV L _ rfl rfl rfl rfl rfl rfl rfl (by first | omega | decide) (by assumption)) rfl ?_; refine vo_step (ok_loadPA L (vs := [_, _]) rfl rfl rfl rfl rfl ⟨_, rfl⟩) rfl ?_; refine vo_step (ok_build (cs := [_, _]) rfl rfl pl74 rfl rfl) rfl ?_; refine vo_step (ok_aneq rfl rfl rfl rfl eq74 rfl rfl) rfl ?_; refine vo_step (ok_pick rfl rfl rfl rfl) rfl ?_; refine vo_nil ?_; refine N_seq ?_; refine V_false rfl ?_; refine V_skip ?_; refine N_seq ?_; refine V_seq ?_
    have hmc := TbR.mn (t := cmT (lvT 4) 0 7)
    have hs2 := hs.le s2.le
    refine V_region (id := 20) ?_; refine vo_step (ok_loadA L (vs := [_, _]) (src_own rfl) rfl rfl rfl rfl ⟨_, rfl⟩) rfl ?_; refine vo_step (ok_call (φ := RTabS (cmT (lvT 4) 0 7) 0) L rfl rfl (blt_lt rfl) rfl rfl rfl RTabS.mono (fun u H hH hle _ => Ret.mono (commit_ret hz (hs2.le hle) (lv_tz 4).q hn (by omega) ⟨by decide, by decide⟩ hH) fun v H' _ h => (by have h2 := TabP.tup h; rw [r2] at h2; exact h2))) rfl ?_; refine vo_step (ok_moves' rfl rfl rfl) rfl ?_; refine vo_step (ok_extracts rfl rfl rfl rfl (by assumption)) rfl ?_; refine vo_step (ok_extractx rfl rfl rfl rfl) rfl ?_; refine vo_step (ok_alloc L rfl rfl rfl rfl) rfl ?_; refine vo_step (ok_storeX L (X := SlX) (tbxC (cmT (lvT 4) 0 7)) (TbX (cmT (lvT 4) 0 7)) TbX.mono tbx_st (fun _ => ⟨rfl, rfl⟩) rfl rfl rfl rfl rfl) rfl ?_; refine vo_step (ok_assign rfl rfl rfl) rfl ?_; refine vo_nil ?_; refine N_seq ?_; refine V_seq ?_
    refine V_opnX 18 rfl fun ⟨p3, n3, c3⟩ H3 s3 ⟨zs3, hz3, hs3⟩ => ?_
    dsimp only [tbxC] at hs3 ⊢
    obtain ⟨m1, m2, m3, m4⟩ := lv_n2
    have hl3 := fls_len hz3
    have hmu := TbR.mn (t := lvU)
    refine V_region (id := 21) ?_; refine vo_step (ok_loadA L (vs := [_, _]) (src_own rfl) rfl rfl rfl rfl ⟨_, rfl⟩) rfl ?_; refine vo_step (ok_call (φ := RTabS lvU 0) L rfl rfl (blt_lt rfl) rfl rfl rfl RTabS.mono (fun u H hH hle _ => Ret.mono (commit_ret hz3 (hs3.le hle) (tz_cm (lv_tz 4)).q (by omega) (by omega) ⟨by decide, by decide⟩ hH) fun v H' _ h => (by have h2 := TabP.tup h; rw [r3] at h2; exact h2))) rfl ?_; refine vo_step (ok_moves' rfl rfl rfl) rfl ?_; refine vo_step (ok_extracts rfl rfl rfl rfl (by assumption)) rfl ?_; refine vo_step (ok_extractx rfl rfl rfl rfl) rfl ?_; refine vo_step (ok_storeX L (X := SlX) (tbxC lvU) (TbX lvU) TbX.mono tbx_st (fun _ => ⟨rfl, rfl⟩) rfl rfl rfl rfl rfl) rfl ?_; refine vo_step (ok_assign rfl rfl rfl) rfl ?_; refine vo_nil ?_; refine N_seq ?_; refine V_seq ?_
    refine V_opnX 18 rfl fun ⟨p4, n4, c4⟩ H4 s4 ⟨zs4, hz4, hs4⟩ => ?_
    dsimp only [tbxC] at hs4 ⊢
    have hl4 := fls_len hz4
    have hmv := TbR.mn (t := lvV)
    have hmg := FlR.mn (f := findF lvU 0)
    refine V_region (id := 22) ?_; refine vo_step (ok_loadA L (vs := [_, _]) (src_own rfl) rfl rfl rfl rfl ⟨_, rfl⟩) rfl ?_; refine vo_step (ok_call (φ := LandS lvV (findF lvU 0) 0) L rfl rfl (blt_lt rfl) rfl rfl rfl LandS.mono (fun u H hH hle _ => Ret.mono (land_ret hz4 (hs4.le hle) (tz_cm (tz_cm (lv_tz 4))).q (by omega) (by omega) hH) fun v H' _ h => (by have h2 := LandP.tup h; rw [r4] at h2; exact h2))) rfl ?_; refine vo_step (ok_moves' rfl rfl rfl) rfl ?_; refine vo_step (ok_extracts rfl rfl rfl rfl (by assumption)) rfl ?_; refine vo_step (ok_extracts rfl rfl rfl rfl (by assumption)) rfl ?_; refine vo_opn 161 rfl fun fv H5 s5 ⟨sv5, e5, h5⟩ => ?_; subst e5; obtain ⟨p5, c5, e6⟩ := slv_sh h5; subst e6; refine vo_step (ok_extractx rfl rfl rfl rfl) rfl ?_; refine vo_step (ok_storeX L (X := SlX) (tbxC lvV) (TbX lvV) TbX.mono tbx_st (fun _ => ⟨rfl, rfl⟩) rfl rfl rfl rfl rfl) rfl ?_; refine box_store L (O1 := []) rfl rfl rfl rfl rfl rfl rfl rfl rfl ?_; refine vo_step (ok_assign rfl rfl rfl) rfl ?_; refine vo_nil ?_; refine N_seq ?_; refine V_seq ?_
    refine V_opnX 18 rfl fun ⟨p6, n6, c6⟩ H6 s6 ⟨zs6, hz6, hs6⟩ => ?_
    dsimp only [tbxC] at hs6 ⊢
    obtain ⟨m5, m6⟩ := lv_n3
    have hl6 := fls_len hz6
    have hzv : TZ39 lvV := tz_ld (tz_cm (tz_cm (lv_tz 4)))
    have hmw := TbR.mn (t := ldT lvV 0)
    have hmh := FlR.mn (f := findF lvV 0)
    refine V_region (id := 23) ?_; refine vo_step (ok_loadA L (vs := [_, _]) (src_own rfl) rfl rfl rfl rfl ⟨_, rfl⟩) rfl ?_; refine vo_step (ok_call (φ := LandS (ldT lvV 0) (findF lvV 0) 8) L rfl rfl (blt_lt rfl) rfl rfl rfl LandS.mono (fun u H hH hle _ => Ret.mono (land_ret hz6 (hs6.le hle) hzv.q (by omega) (by omega) hH) fun v H' _ h => (by have h2 := LandP.tup h; rw [r5] at h2; exact h2))) rfl ?_; refine vo_step (ok_moves' rfl rfl rfl) rfl ?_; refine vo_step (ok_extracts rfl rfl rfl rfl (by assumption)) rfl ?_; refine vo_step (ok_extracts rfl rfl rfl rfl (by assumption)) rfl ?_; refine vo_step (ok_extractx rfl rfl rfl rfl) rfl ?_; refine vo_step (ok_alloc L rfl rfl rfl rfl) rfl ?_; refine vo_step (ok_alloc L rfl rfl rfl rfl) rfl ?_; refine vo_step (ok_storeX L (X := SlX) (tbxC (ldT lvV 0)) (TbX (ldT lvV 0)) TbX.mono tbx_st (fun _ => ⟨rfl, rfl⟩) rfl rfl rfl rfl rfl) rfl ?_; refine vo_step (ok_storeX L (X := SlX) (flxC (findF lvV 0)) (FlX (findF lvV 0)) FlX.mono flx_st flx_pl rfl rfl rfl rfl rfl) rfl ?_; refine vo_step (ok_assign rfl rfl rfl) rfl ?_; refine vo_nil ?_; refine N_seq ?_; refine V_seq ?_; refine V_seq ?_
    refine V_region (id := 24) ?_; refine vo_step (ok_move rfl rfl rfl) rfl ?_; refine vo_step (ok_neq rfl rfl rfl rfl (decide_eq_false (by omega))) rfl ?_; refine vo_step (ok_move rfl rfl rfl) rfl ?_; refine vo_step (ok_move rfl rfl rfl) rfl ?_; refine vo_step (ok_neq rfl rfl rfl rfl (decide_eq_false (by omega))) rfl ?_; refine vo_step (ok_pick rfl rfl rfl rfl) rfl ?_; refine vo_step (ok_move rfl rfl rfl) rfl ?_; refine vo_step (ok_move rfl rfl rfl) rfl ?_; refine vo_step (ok_neq rfl rfl rfl rfl (decide_eq_false (by omega))) rfl ?_; refine vo_step (ok_pick rfl rfl rfl rfl) rfl ?_; refine vo_step (ok_move rfl rfl rfl) rfl ?_; refine vo_step (ok_move rfl rfl rfl) rfl ?_; refine vo_step (ok_neq rfl rfl rfl rfl (decide_eq_false (by omega))) rfl ?_; refine vo_step (ok_pick rfl rfl rfl rfl) rfl ?_; refine vo_step (ok_move rfl rfl rfl) rfl ?_; refine vo_step (ok_fieldP L rfl rfl rfl rfl) rfl ?_; refine vo_step (ok_load1 L (src_box rfl (List.Mem.head _)) rfl rfl rfl rfl) rfl ?_; refine vo_step (ok_neq rfl rfl rfl rfl (decide_eq_false (by omega))) rfl ?_; refine vo_step (ok_pick rfl rfl rfl rfl) rfl ?_; refine vo_step (ok_move rfl rfl rfl) rfl ?_; refine vo_step (ok_fieldP L rfl rfl rfl rfl) rfl ?_; refine vo_step (ok_load1 L (src_box rfl (List.Mem.head _)) rfl rfl rfl rfl) rfl ?_; refine vo_step (ok_neq rfl rfl rfl rfl (decide_eq_false (by omega))) rfl ?_; refine vo_step (ok_pick rfl rfl rfl rfl) rfl ?_; refine vo_step (ok_move rfl rfl rfl) rfl ?_; refine vo_step (ok_fieldP L rfl rfl rfl rfl) rfl ?_; refine vo_step (ok_load1 L (src_box rfl (List.Mem.head _)) rfl rfl rfl rfl) rfl ?_; refine vo_step (ok_lenL L rfl rfl rfl rfl) rfl ?_; refine vo_step (ok_neq rfl rfl rfl rfl (decide_eq_false (by omega))) rfl ?_; refine vo_step (ok_pick rfl rfl rfl rfl) rfl ?_; refine vo_nil ?_; refine N_seq ?_; refine V_false rfl ?_; refine V_skip ?_; refine N_seq ?_; refine V_seq ?_
    obtain ⟨j1, j2, j3, j4⟩ := lv_ends
    have hw1 := TbR.mn (t := lvW)
    refine V_region (id := 26) ?_; refine vo_step (ok_loadA L (vs := [_, _]) (src_own rfl) rfl rfl rfl rfl ⟨_, rfl⟩) rfl ?_; refine vo_step (ok_loadA L (vs := [_, _, _, _, _, _]) (src_own rfl) rfl rfl rfl rfl ⟨_, rfl⟩) rfl ?_; refine vo_step (ok_build (cs := [_, _, _, _, _]) rfl rfl pl33 rfl rfl) rfl ?_; refine vo_step (ok_call (φ := LvK lvW 1 false 0) L rfl rfl (blt_lt rfl) rfl rfl rfl LvK.mono (fun u H hH hle _ => Ret.mono (join_ret (q := qS 0) (x := ⟨3, 0, 1, 0, 1⟩) hz6 (hs6.le hle) hzv.q (qS_z 0) (by omega) (by omega) hH) fun v H' _ h => (by have h2 := JoinP.tup h; unfold JoinS at h2; rw [j1, j2] at h2; exact h2))) rfl ?_; refine vo_step (ok_moves' rfl rfl rfl) rfl ?_; refine vo_step (ok_extracts rfl rfl rfl rfl (by assumption)) rfl ?_; refine vo_step (ok_extractx rfl rfl rfl rfl) rfl ?_; refine vo_step (ok_extractx rfl rfl rfl rfl) rfl ?_; refine vo_step (ok_extractx rfl rfl rfl rfl) rfl ?_; refine vo_step (ok_alloc L rfl rfl rfl rfl) rfl ?_; refine vo_step (ok_storeX L (X := SlX) (tbxC lvW) (TbX lvW) TbX.mono tbx_st (fun _ => ⟨rfl, rfl⟩) rfl rfl rfl rfl rfl) rfl ?_; refine vo_step (ok_assign rfl rfl rfl) rfl ?_; refine vo_step (ok_assign rfl rfl rfl) rfl ?_; refine vo_step (ok_assign rfl rfl rfl) rfl ?_; refine vo_nil ?_; refine N_seq ?_; refine V_seq ?_
    refine V_opnX 6 rfl fun ⟨p7, n7, c7⟩ H7 s7 ⟨zs7, hz7, hs7⟩ => ?_
    dsimp only [tbxC] at hs7 ⊢
    replace hz7 : zs7.map Prod.fst = (lvT 1).fl := hz7
    obtain ⟨m7, m8⟩ := lv_n 1 (by decide)
    have hl7 := fls_len hz7
    have hw2 := TbR.mn (t := T0)
    refine V_regionD (id := 27) [] mixed (by kernel_rfl) ?_; refine par_step (ok_loadA L (vs := [_, _]) (src_own rfl) rfl rfl rfl rfl ⟨_, rfl⟩) rfl ?_; refine par_step (ok_loadA L (vs := [_, _, _, _, _, _]) (src_own rfl) rfl rfl rfl rfl ⟨_, rfl⟩) rfl ?_; refine par_step (ok_moves' rfl rfl rfl) rfl ?_; refine par_step (ok_indexSl L 0 rfl rfl rfl rfl rfl rfl rfl (by omega)) rfl ?_; refine par_step (ok_loadA L (vs := [_, _, _, _, _]) (src_at rfl) rfl rfl rfl rfl ⟨_, rfl⟩) rfl ?_; refine par_step (ok_call (φ := LvK T0 0 false 4) L rfl rfl (blt_lt rfl) rfl rfl rfl LvK.mono (fun u H hH hle _ => Ret.mono (join_ret (q := qS 0) (x := lvI 0) hz7 (hs7.le hle) (lv_tz 1).q (qS_z 0) (by omega) (by omega) hH) fun v H' _ h => (by have h2 := JoinP.tup h; unfold JoinS at h2; rw [jT0 (by rw [j3]; decide), j3] at h2; exact h2))) rfl ?_; refine par_step (ok_moves' rfl rfl rfl) rfl ?_; refine par_step (ok_extracts rfl rfl rfl rfl (by assumption)) rfl ?_; refine par_step (ok_extractx rfl rfl rfl rfl) rfl ?_; refine par_step (ok_extractx rfl rfl rfl rfl) rfl ?_; refine par_step (ok_extractx rfl rfl rfl rfl) rfl ?_; refine par_step (ok_assign rfl rfl rfl) rfl ?_; refine par_nil ?_; refine N_seq ?_; refine V_seq ?_
    have hs8 := hs2.le ((((s3.le.trans s4.le).trans s5.le).trans s6.le).trans s7.le)
    refine V_regionD (id := 28) [] mixed (by kernel_rfl) ?_; refine par_step (ok_loadA L (vs := [_, _]) (src_own rfl) rfl rfl rfl rfl ⟨_, rfl⟩) rfl ?_; refine par_step (ok_build (cs := [_, _, _, _, _, _]) rfl rfl pl30 rfl rfl) rfl ?_; refine par_step (ok_moves' rfl rfl rfl) rfl ?_; refine par_step (ok_indexSl L 0 rfl rfl rfl rfl rfl rfl rfl (by omega)) rfl ?_; refine par_step (ok_loadA L (vs := [_, _, _, _, _]) (src_at rfl) rfl rfl rfl rfl ⟨_, rfl⟩) rfl ?_; refine par_step (ok_call (φ := LvK T0 0 false 10) L rfl rfl (blt_lt rfl) rfl rfl rfl LvK.mono (fun u H hH hle _ => Ret.mono (join_ret (q := ⟨0, ((⟨#[]⟩, ⟨#[]⟩), ⟨#[]⟩), U0⟩) (x := lvI 0) hz (hs8.le hle) (lv_tz 4).q (by exact ⟨⟨by decide, by decide⟩, by decide, by decide, by decide, by decide, by decide⟩) hn (by omega) hH) fun v H' _ h => (by have h2 := JoinP.tup h; unfold JoinS at h2; rw [jT0 (by rw [j4]; decide), j4] at h2; exact h2))) rfl ?_; refine par_step (ok_moves' rfl rfl rfl) rfl ?_; refine par_step (ok_extracts rfl rfl rfl rfl (by assumption)) rfl ?_; refine par_step (ok_extractx rfl rfl rfl rfl) rfl ?_; refine par_step (ok_extractx rfl rfl rfl rfl) rfl ?_; refine par_step (ok_extractx rfl rfl rfl rfl) rfl ?_; refine par_step (ok_assign rfl rfl rfl) rfl ?_; refine par_nil ?_; refine N_seq ?_; refine V_seq ?_
    have hw3 := TbR.mn (t := cmT (lvT 4) 1 (-1))
    refine V_region (id := 29) ?_; refine vo_step (ok_loadA L (vs := [_, _]) (src_own rfl) rfl rfl rfl rfl ⟨_, rfl⟩) rfl ?_; refine vo_step (ok_call (φ := RTabS (cmT (lvT 4) 1 (-1)) 4) L rfl rfl (blt_lt rfl) rfl rfl rfl RTabS.mono (fun u H hH hle _ => Ret.mono (commit_ret hz (hs8.le hle) (lv_tz 4).q hn (by omega) ⟨by decide, by decide⟩ hH) fun v H' _ h => (by have h2 := TabP.tup h; rw [r6] at h2; exact h2))) rfl ?_; refine vo_step (ok_moves' rfl rfl rfl) rfl ?_; refine vo_step (ok_extracts rfl rfl rfl rfl (by assumption)) rfl ?_; refine vo_step (ok_extractx rfl rfl rfl rfl) rfl ?_; refine vo_step (ok_assign rfl rfl rfl) rfl ?_; refine vo_nil ?_; refine N_seq ?_; refine V_seq ?_
    refine V_region (id := 30) ?_; refine vo_step (ok_move rfl rfl rfl) rfl ?_; refine vo_step (ok_eql rfl rfl rfl rfl (decide_eq_true (by omega))) rfl ?_; refine vo_step (ok_move rfl rfl rfl) rfl ?_; refine vo_step (ok_move rfl rfl rfl) rfl ?_; refine vo_step (ok_eql rfl rfl rfl rfl (decide_eq_true (by omega))) rfl ?_; refine vo_step (ok_pick rfl rfl rfl rfl) rfl ?_; refine vo_step (ok_move rfl rfl rfl) rfl ?_; refine vo_step (ok_move rfl rfl rfl) rfl ?_; refine vo_step (ok_not rfl rfl rfl rfl) rfl ?_; refine vo_step (ok_pick rfl rfl rfl rfl) rfl ?_; refine vo_step (ok_move rfl rfl rfl) rfl ?_; refine vo_step (ok_move rfl rfl rfl) rfl ?_; refine vo_step (ok_eql rfl rfl rfl rfl (decide_eq_true (by omega))) rfl ?_; refine vo_step (ok_pick rfl rfl rfl rfl) rfl ?_; refine vo_step (ok_move rfl rfl rfl) rfl ?_; refine vo_step (ok_move rfl rfl rfl) rfl ?_; refine vo_step (ok_eql rfl rfl rfl rfl (decide_eq_true (by omega))) rfl ?_; refine vo_step (ok_pick rfl rfl rfl rfl) rfl ?_; refine vo_step (ok_move rfl rfl rfl) rfl ?_; refine vo_step (ok_move rfl rfl rfl) rfl ?_; refine vo_step (ok_eql rfl rfl rfl rfl (decide_eq_true (by omega))) rfl ?_; refine vo_step (ok_pick rfl rfl rfl rfl) rfl ?_; refine vo_step (ok_assign rfl rfl rfl) rfl ?_; refine vo_nil ?_; refine N_seq ?_
    refine V_ret L (rs := [.tmp 0]) rfl (fun _ _ h => h) ((((((s1.trans s2).trans s3).trans s4).trans s5).trans s6).trans s7) fun u H hH hle => ?_
    rfl
end Go.V.L39
/- Flights (chapter 39): a table as it is handed in. -/
namespace Go.V.L39
open Go.Proofs Go.RowKit Go.V
structure TbI (B : Heap) (t : Tb) (s : Value) (zs : List (Fl × Value)) : Prop where
  fl : zs.map Prod.fst = t.fl
  sl : SlV tyF 14 (zs.flatMap flc) zs.length false s B
  is : ∀ (i : Nat) z, zs[i]? = some z → IsV z.1.is false z.2 B
  lz : ∀ f ∈ t.fl, f.is.length ≤ 4398046511104
  tz : TZ39 t
theorem TbI.le {B B' : Heap} {t : Tb} {s : Value} {zs : List (Fl × Value)} (h : TbI B t s zs) (hle : B.Le B') : TbI B' t s zs := ⟨h.fl, h.sl.le hle, fun i z hz => (h.is i z hz).le hle, h.lz, h.tz⟩
theorem itsN_max {m : Nat} : ∀ {l : List Fl}, (∀ f ∈ l, f.is.length ≤ m) → itsN l ≤ l.length * m
  | [], _ => Nat.zero_le _
  | f :: l, h => by
    have h1 := itsN_max (l := l) fun g hg => h g (List.mem_cons_of_mem _ hg)
    have h2 := h f (List.mem_cons_self ..)
    rw [List.length_cons, Nat.succ_mul]
    simp only [itsN, List.map_cons, List.sum_cons] at h1 ⊢
    omega
theorem TbI.fsb {B : Heap} {t : Tb} {s : Value} {zs : List (Fl × Value)} (h : TbI B t s zs) (hl : zs.length ≤ 30) : FsB zs false false s B ∧ itsN t.fl ≤ 131941395333120 := by
  refine ⟨⟨h.sl, h.is, by omega, fun i z hz => ?_⟩, ?_⟩
  · have := h.lz z.1 (by rw [← h.fl]; exact List.mem_map_of_mem (List.mem_of_getElem? hz))
    omega
  · have h1 := itsN_max h.lz
    have h2 := fls_len h.fl
    have h3 : t.fl.length * 4398046511104 ≤ 30 * 4398046511104 := Nat.mul_le_mul_right _ (by omega)
    omega
attribute [local irreducible] V N X VO Par StepOK Has Ret RetL RetO RetT RetG Src
theorem bnd_long {nx : Int} {xs : List Value} {n : Nat} {fu : Bool} {s : Value} (h : 30 < n) {w : World} {B : Heap} (hs : SlV tyF 14 xs n fu s B) (hB : B.Le (hp w)) :
    Ret Try.prog 9 [tbv nx s] w B (fun v _ => v = .bool false) := by
  refine V_enter Try.func9 rfl Try.ntmps9 (Nat.le_of_ble_eq_true rfl) hB ?_
  refine V_seq ?_; refine V_region (id := 0) ?_; refine vo_step (ok_box rfl rfl rfl rfl) rfl ?_; refine vo_step (ok_assign rfl rfl rfl) rfl ?_; refine vo_nil ?_; refine N_seq ?_; refine V_seq ?_; refine V_region (id := 1) ?_; refine vo_step (ok_fieldAt L rfl rfl rfl rfl) rfl ?_; refine vo_step (StepOK.seeV (ok_load1 L (src_at rfl) rfl rfl rfl rfl) (by assumption)) rfl ?_; refine vo_step (ok_lenV L rfl rfl rfl rfl) rfl ?_; refine vo_step (ok_leq rfl rfl rfl rfl (decide_eq_false (by omega))) rfl ?_; refine vo_step (ok_move rfl rfl rfl) rfl ?_; refine vo_step (ok_skip rfl (blt_lt rfl) rfl) rfl ?_; refine vo_step (ok_skip rfl (blt_lt rfl) rfl) rfl ?_; refine vo_step (ok_skip rfl (blt_lt rfl) rfl) rfl ?_; refine vo_step (ok_pick rfl rfl rfl rfl) rfl ?_; refine vo_step (ok_assign rfl rfl rfl) rfl ?_; refine vo_nil ?_; refine N_seq ?_
  refine V_ret L (rs := [.tmp 2]) rfl (fun _ _ h => h) Since.refl fun u H hH hle => ?_
  rfl
theorem bnd_law {t : Tb} {s : Value} {zs : List (Fl × Value)} {b : Bool} (hb : bndB t = b) {w : World} {B : Heap} (h : TbI B t s zs) (hB : B.Le (hp w)) :
    Ret Try.prog 9 [tbv t.nx s] w B (fun v _ => v = .bool b) := by
  by_cases hl : zs.length ≤ 30
  · obtain ⟨h1, h2⟩ := h.fsb hl
    exact bounded_law h.fl hb h1 (by omega) hB
  · obtain rfl : b = false := by
      rw [← hb]
      exact decide_eq_false fun hx => hl (by rw [fls_len h.fl]; exact hx.1)
    exact bnd_long (by omega) h.sl hB
theorem TbI.ok {B : Heap} {t : Tb} {s : Value} {zs : List (Fl × Value)} (h : TbI B t s zs) (hb : bndB t = true) : FsB zs false false s B ∧ itsN t.fl ≤ 60 ∧ zs.length ≤ 30 := by
  have h1 := of_decide_eq_true hb
  have h2 := fls_len h.fl
  exact ⟨(h.fsb (by omega)).1, h1.2, by omega⟩
end Go.V.L39
/- What is passed is opened: flat values (strings, numbers, truth values, structs and arrays of such) by a list of their leaves. -/
namespace Go.V
open Go.RowKit
inductive LeafK where
  | s
  | b
  | i (k : IntKind)
def LeafOK : LeafK → Value → Prop
  | .s, v => ∃ a : ByteArray, v = .string a ∧ a.size ≤ maxLen
  | .b, v => ∃ c, v = .bool c
  | .i k, v => ∃ n, v = .int k n ∧ (Lit.int k n).wf = true
def LeafsOK : List LeafK → List Value → Prop
  | [], [] => True
  | l :: ls, v :: vs => LeafOK l v ∧ LeafsOK ls vs
  | _, _ => False
theorem LeafsOK.append : ∀ {a b : List LeafK} {x y : List Value}, LeafsOK a x → LeafsOK b y → LeafsOK (a ++ b) (x ++ y)
  | [], _, [], _, _, h => h
  | [], _, _ :: _, _, h, _ => h.elim
  | _ :: _, _, [], _, h, _ => h.elim
  | _ :: _, _, _ :: _, _, h, k => ⟨h.1, LeafsOK.append h.2 k⟩
theorem LeafsOK.length : ∀ {a : List LeafK} {x : List Value}, LeafsOK a x → x.length = a.length
  | [], [], _ => rfl
  | [], _ :: _, h => h.elim
  | _ :: _, [], h => h.elim
  | _ :: _, _ :: _, h => by simp [LeafsOK.length h.2]
theorem leaf_s {ls : List LeafK} {vs : List Value} (h : LeafsOK (.s :: ls) vs) : ∃ a r, vs = .string a :: r ∧ a.size ≤ maxLen ∧ LeafsOK ls r := by
  cases vs with
  | nil => exact h.elim
  | cons v vs => obtain ⟨⟨a, rfl, ha⟩, h⟩ := h; exact ⟨a, vs, rfl, ha, h⟩
theorem leaf_i {k : IntKind} {ls : List LeafK} {vs : List Value} (h : LeafsOK (.i k :: ls) vs) : ∃ n r, vs = .int k n :: r ∧ (Lit.int k n).wf = true ∧ LeafsOK ls r := by
  cases vs with
  | nil => exact h.elim
  | cons v vs => obtain ⟨⟨a, rfl, ha⟩, h⟩ := h; exact ⟨a, vs, rfl, ha, h⟩
theorem leaf_b {ls : List LeafK} {vs : List Value} (h : LeafsOK (.b :: ls) vs) : ∃ c r, vs = .bool c :: r ∧ LeafsOK ls r := by
  cases vs with
  | nil => exact h.elim
  | cons v vs => obtain ⟨⟨a, rfl⟩, h⟩ := h; exact ⟨a, vs, rfl, h⟩
theorem leaf_nil {vs : List Value} (h : LeafsOK [] vs) : vs = [] := by
  cases vs with
  | nil => rfl
  | cons _ _ => exact h.elim
def leafF (P : Program) (rec : TypeId → Option (List LeafK)) : List Field → Nat → Option (List LeafK)
  | [], _ => some []
  | f :: fs, off => match rec f.type with
    | some ls => if f.offset = off ∧ P.cellsOf f.type = ls.length then
        match leafF P rec fs (off + ls.length) with
        | some r => some (ls ++ r)
        | none => none
      else none
    | none => none
def repL (ls : List LeafK) : Nat → List LeafK
  | 0 => []
  | n + 1 => ls ++ repL ls n
def leafI (P : Program) : Nat → TypeId → Option (List LeafK)
  | 0, _ => none
  | d + 1, t => match P.underlying t with
    | some .string => some [.s]
    | some (.int k) => some [.i k]
    | some .bool => some [.b]
    | some (.struct fs) => match leafF P (leafI P d) fs.toList 0 with
      | some ls => if P.cellsOf t = ls.length then some ls else none
      | none => none
    | some (.array n e) => match leafI P d e with
      | some ls => if P.cellsOf e = ls.length ∧ P.cellsOf t = (repL ls n).length then some (repL ls n) else none
      | none => none
    | _ => none
theorem mapM_all {α β : Type} {f : α → Option β} : ∀ {l : List α} {ys : List β}, l.mapM f = some ys → ∃ g : List β, g = ys ∧ (∀ x ∈ l, ∃ y, f x = some y ∧ y ∈ ys) ∧ (∀ y ∈ ys, ∃ x ∈ l, f x = some y)
  | [], ys, h => by
    simp at h; subst h
    exact ⟨_, rfl, by simp, by simp⟩
  | x :: l, ys, h => by
    rw [List.mapM_cons] at h
    cases hx : f x with
    | none => rw [hx] at h; cases h
    | some y =>
      rw [hx] at h
      cases hl : l.mapM f with
      | none => rw [hl] at h; cases h
      | some zs =>
        rw [hl] at h
        cases h
        obtain ⟨_, _, h1, h2⟩ := mapM_all hl
        refine ⟨_, rfl, fun z hz => ?_, fun z hz => ?_⟩
        · rcases List.mem_cons.1 hz with rfl | hz
          · exact ⟨y, hx, List.mem_cons_self ..⟩
          · obtain ⟨w, hw, hm⟩ := h1 z hz; exact ⟨w, hw, List.mem_cons_of_mem _ hm⟩
        · rcases List.mem_cons.1 hz with rfl | hz
          · exact ⟨x, List.mem_cons_self .., hx⟩
          · obtain ⟨w, hw, hm⟩ := h2 z hz; exact ⟨w, List.mem_cons_of_mem _ hw, hm⟩
theorem take_split (cs : List Value) (off m r : Nat) : (cs.drop off).take (m + r) = (cs.drop off).take m ++ (cs.drop (off + m)).take r := by
  rw [List.take_add, List.drop_drop]
section
variable {P : Program} {H : Type} {enc : TypeId × Value → H} {W : World} {sp : Nat → Bool} {held : Bool} {base : Nat}
theorem leaf_of_trod : ∀ (d : Nat) {t : TypeId} {ls : List LeafK}, leafI P d t = some ls → ∀ {fuel : Nat} {cs : List Value} {x : DataW H × List MemPlace},
    DataW.trod enc P W base sp held fuel t cs = some x → LeafsOK ls cs ∧ x.2 = []
  | 0, _, _, h, _, _, _, _ => by cases h
  | d + 1, t, ls, h, fuel, cs, x, hx => by
    have ih := @leaf_of_trod d
    cases fuel with
    | zero => simp [DataW.trod] at hx
    | succ fuel =>
      rw [leafI] at h
      unfold DataW.trod at hx
      cases hu : P.underlying t with
      | none => rw [hu] at h; cases h
      | some ds =>
        rw [hu] at h hx
        cases ds <;> first | (cases h; done) | skip
        · cases h
          match cs, hx with
          | [.bool b], hx => cases hx; exact ⟨⟨⟨b, rfl⟩, trivial⟩, rfl⟩
        · rename_i k
          cases h
          match cs, hx with
          | [.int k' m], hx =>
            simp only at hx
            split at hx
            · rename_i hk
              obtain ⟨rfl, hw⟩ := hk
              cases hx; exact ⟨⟨⟨m, rfl, hw⟩, trivial⟩, rfl⟩
            · cases hx
        · cases h
          match cs, hx with
          | [.string s], hx =>
            simp only at hx
            split at hx
            · rename_i hs; cases hx; exact ⟨⟨⟨s, rfl, hs⟩, trivial⟩, rfl⟩
            · cases hx
        · rename_i n e
          simp only at h hx
          split at h
          · rename_i l1 hl1
            split at h
            · rename_i hc
              cases h
              split at hx
              · rename_i hlen
                obtain ⟨xs, hxs, rfl⟩ := Option.map_eq_some_iff.1 hx
                obtain ⟨_, _, hall, hback⟩ := mapM_all hxs
                have each : ∀ i, i < n → LeafsOK l1 ((cs.drop (i * P.cellsOf e)).take (P.cellsOf e)) := fun i hi => by
                  obtain ⟨y, hy, _⟩ := hall i (List.mem_range.2 hi)
                  exact (ih hl1 hy).1
                have gen : ∀ m k, k + m = n → LeafsOK (repL l1 m) ((cs.drop (k * P.cellsOf e)).take (m * P.cellsOf e)) := by
                  intro m
                  induction m with
                  | zero => intro k _; simp [repL, LeafsOK]
                  | succ m ihm =>
                    intro k hk
                    rw [show (m + 1) * P.cellsOf e = P.cellsOf e + m * P.cellsOf e by rw [Nat.succ_mul]; omega, take_split]
                    refine LeafsOK.append (each k (by omega)) ?_
                    rw [show k * P.cellsOf e + P.cellsOf e = (k + 1) * P.cellsOf e by rw [Nat.succ_mul]]
                    exact ihm (k + 1) (by omega)
                refine ⟨?_, ?_⟩
                · have := gen n 0 (by omega)
                  have hrl : ∀ m, (repL l1 m).length = m * P.cellsOf e := by
                    intro m
                    induction m with
                    | zero => simp [repL]
                    | succ m ihm => simp only [repL, List.length_append, ihm, hc.1]; rw [Nat.succ_mul]; omega
                  rw [← hrl n, ← hc.2, ← hlen] at this
                  simpa using this
                · refine List.flatMap_eq_nil_iff.2 fun y hy => ?_
                  obtain ⟨i, _, hi⟩ := hback y hy
                  exact (ih hl1 hi).2
              · cases hx
            · cases h
          · cases h
        · rename_i fs
          simp only at h hx
          split at h
          · rename_i l1 hl1
            split at h
            · rename_i hc
              cases h
              split at hx
              · rename_i hlen
                obtain ⟨xs, hxs, rfl⟩ := Option.map_eq_some_iff.1 hx
                obtain ⟨_, _, hall, hback⟩ := mapM_all hxs
                have gen : ∀ (fl : List Field) (off : Nat) (ls : List LeafK), (∀ f ∈ fl, f ∈ fs.toList) → leafF P (leafI P d) fl off = some ls →
                    LeafsOK ls ((cs.drop off).take ls.length) ∧ ∀ f ∈ fl, ∃ l, leafI P d f.type = some l := by
                  intro fl
                  induction fl with
                  | nil => intro off ls _ h; cases h; simp [LeafsOK]
                  | cons f fl ihf =>
                    intro off ls hm h
                    simp only [leafF] at h
                    split at h
                    · rename_i l2 hl2
                      split at h
                      · rename_i hc2
                        obtain ⟨rfl, hc3⟩ := hc2
                        split at h
                        · rename_i r hr
                          cases h
                          obtain ⟨g1, g2⟩ := ihf _ _ (fun g hg => hm g (List.mem_cons_of_mem _ hg)) hr
                          refine ⟨?_, fun g hg => ?_⟩
                          · rw [List.length_append, take_split]
                            refine LeafsOK.append ?_ g1
                            obtain ⟨y, hy, _⟩ := hall f (hm f (List.mem_cons_self ..))
                            rw [← hc3]
                            exact (ih hl2 hy).1
                          · rcases List.mem_cons.1 hg with rfl | hg
                            · exact ⟨l2, hl2⟩
                            · exact g2 g hg
                        · cases h
                      · cases h
                    · cases h
                obtain ⟨g1, g2⟩ := gen fs.toList 0 _ (fun _ h => h) hl1
                refine ⟨?_, ?_⟩
                · rw [← hc, ← hlen] at g1; simpa using g1
                · refine List.flatMap_eq_nil_iff.2 fun y hy => ?_
                  obtain ⟨f, hf, hi⟩ := hback y hy
                  obtain ⟨l, hl⟩ := g2 f hf
                  exact (ih hl hi).2
              · cases hx
            · cases h
          · cases h
end
end Go.V
/- The kit's floor for rows: structs, in which slices of flat values lie, as they are handed in. -/
namespace Go.V
open Go.ChangeShapes Go.WideShapes Go.ChangeAt Go.ChangeMaps Go.RowKit
/-- A cell: a leaf, or a slice (its type, its elements' type and leaves). -/
inductive Sh where
  | l (k : LeafK)
  | s (t e : TypeId) (ls : List LeafK)
/-- What a slice of flat values reads as. -/
def SlOK (H : Heap) (e : TypeId) (ls : List LeafK) (v : Value) : Prop := ∃ cs : List (List Value), (∀ c ∈ cs, LeafsOK ls c) ∧ cs.length ≤ maxLen ∧ SlV e ls.length cs.flatten cs.length false v H
def ShOK (H : Heap) : List Sh → List Value → Prop
  | [], vs => vs = []
  | .l k :: r, vs => ∃ v w, vs = v :: w ∧ LeafsOK [k] [v] ∧ ShOK H r w
  | .s _ e ls :: r, vs => ∃ v w, vs = v :: w ∧ SlOK H e ls v ∧ ShOK H r w
theorem ShOK.append {H : Heap} : ∀ {a b : List Sh} {x y : List Value}, ShOK H a x → ShOK H b y → ShOK H (a ++ b) (x ++ y)
  | [], _, _, _, hx, hy => by cases hx; exact hy
  | .l k :: a, _, _, _, ⟨v, w, e, h1, h2⟩, hy => by subst e; exact ⟨v, _, rfl, h1, ShOK.append h2 hy⟩
  | .s t e ls :: a, _, _, _, ⟨v, w, e', h1, h2⟩, hy => by subst e'; exact ⟨v, _, rfl, h1, ShOK.append h2 hy⟩
section
variable {P : Program} {H : Type} {enc : TypeId × Value → H} {W : World} {held : Bool}
end
end Go.V
/- The kit's floor for rows: what is read of a value, at whatever depth. -/
namespace Go.V
open Go.ChangeShapes Go.WideShapes Go.ChangeAt Go.ChangeMaps Go.RowKit
section
variable {P : Program} {H : Type} {enc : TypeId × Value → H} {W : World} {held : Bool}
/-- What is read of a value of a type: so many cells, of which something holds. -/
def Reads (enc : TypeId × Value → H) (P : Program) (W : World) (held : Bool) (t : TypeId) (n : Nat) (Φ : List Value → Prop) : Prop :=
  P.cellsOf t = n ∧ ∀ (fuel : Nat) (cs : List Value) (x : DataW H × List MemPlace), DataW.trod enc P W 0 (fun _ => true) held fuel t cs = some x → (x.1.weights P t).all (· ≤ reachBytes) = true → cs.length = n ∧ Φ cs
theorem reads_leaf {t : TypeId} {ls : List LeafK} (h : leafI P 20 t = some ls) (hc : P.cellsOf t = ls.length) : Reads enc P W held t ls.length (LeafsOK ls) :=
  ⟨hc, fun _ _ _ hx _ => ⟨(leaf_of_trod 20 h hx).1.length, (leaf_of_trod 20 h hx).1⟩⟩
/-- A slice: its elements, each one's cells. -/
def SlD (e : TypeId) (n by_ : Nat) (Φ : List Value → Prop) (Hh : Heap) (v : Value) : Prop := ∃ cs : List (List Value), (∀ c ∈ cs, c.length = n ∧ Φ c) ∧ cs.length ≤ maxLen ∧ cs.length * by_ ≤ reachBytes ∧ SlV e n cs.flatten cs.length false v Hh
theorem weights_all_mem {e : TypeId} : ∀ {l : List (DataW H)} {d : DataW H}, d ∈ l → ∀ n ∈ d.weights P e, n ∈ DataW.weightsAll P e l
  | d0 :: l, d, hd, n, hn => by
    simp only [DataW.weightsAll, List.mem_append]
    rcases List.mem_cons.1 hd with rfl | hd
    · exact .inl hn
    · exact .inr (weights_all_mem hd n hn)
theorem wt_sub {l m : List Nat} (h : l.all (· ≤ reachBytes) = true) (hs : ∀ n ∈ m, n ∈ l) : m.all (· ≤ reachBytes) = true :=
  List.all_eq_true.2 fun n hn => List.all_eq_true.1 h n (hs n hn)
theorem wt_at {ts : List TypeId} {ds : List (DataW H)} (h : (DataW.weightsEach P ts ds).all (· ≤ reachBytes) = true) (j : Nat) {t : TypeId} {d : DataW H} (ht : ts[j]? = some t) (hd : ds[j]? = some d) : (d.weights P t).all (· ≤ reachBytes) = true :=
  wt_sub h (DataW.weights_mem_each ht hd)
theorem reads_slice {t e : TypeId} {n : Nat} {Φ : List Value → Prop} (ht : P.underlying t = some (.slice e)) (hct : P.cellsOf t = 1) (he : Reads enc P W held e n Φ) (hn : 0 < n) :
    Reads enc P W held t 1 (fun vs => ∃ v, vs = [v] ∧ SlD e n (P.bytesOf e) Φ (hp W) v) := by
  refine ⟨hct, fun fuel cs x hf hw => ?_⟩
  rcases Deep.open_slice ht hf with ⟨rfl, _⟩ | ⟨a, len, cap, m, nn, D, Pl, rfl, _, h1, h2, hm, rfl, hx⟩
  · exact ⟨rfl, _, rfl, [], fun c h => (nomatch h), Nat.zero_le _, by simp, SlV.nil⟩
  refine ⟨rfl, _, rfl, ?_⟩
  simp only [if_true] at hm
  subst hm
  have hwe : (DataW.weights P t (DataW.slice ((List.range len).map D) ((List.range (m - len)).map fun j => D (len + j)))) = (len + (m - len)) * P.bytesOf e :: (DataW.weightsAll P e ((List.range len).map D) ++ DataW.weightsAll P e ((List.range (m - len)).map fun j => D (len + j))) := by
    rw [DataW.weights, ht]; simp
  simp only at hw
  rw [hwe] at hw
  have hb : (len + (m - len)) * P.bytesOf e ≤ reachBytes := by
    have := List.all_eq_true.1 hw _ (List.mem_cons_self ..)
    simpa using this
  have hwD : ∀ i, i < len → ((D i).weights P e).all (· ≤ reachBytes) = true := fun i hi => wt_sub hw fun k hk =>
    List.mem_cons_of_mem _ (List.mem_append_left _ (weights_all_mem (List.mem_map.2 ⟨i, List.mem_range.2 hi, rfl⟩) k hk))
  rcases Nat.eq_zero_or_pos m with h0 | h0
  · obtain rfl : len = 0 := by omega
    subst h0
    exact ⟨[], fun c h => (nomatch h), Nat.zero_le _, by simp, by simp, .inl ⟨rfl, _, rfl⟩⟩
  obtain ⟨he1, he2⟩ := he
  have hsp : a.spot = none ∧ ∃ c0 ty fr, W.heap[a.block]? = some (.cells c0 ty fr) := by
    obtain ⟨c, g1, _⟩ := hx 0 h0
    obtain ⟨_, g2, g3⟩ := World.cells?_some g1
    have g4 := g3 0 (by omega)
    have hc0 : ∃ v, c[0]? = some v := ⟨_, List.getElem?_eq_getElem (by omega)⟩
    obtain ⟨v, hv⟩ := hc0
    rw [hv] at g4
    have hadd : ((a.add (0 * P.cellsOf e)).add 0) = a := by
      rw [Nat.zero_mul]
      unfold Addr.add
      simp
    rw [hadd] at g4
    unfold World.cell? at g4
    split at g4
    · rename_i c1 ty fr hh
      split at g4
      · cases g4
      · rename_i hs
        exact ⟨by simpa using hs, _, _, _, hh⟩
    · cases g4
  obtain ⟨h3, cs, ty, fr, h4⟩ := hsp
  obtain ⟨C, hC⟩ := Deep.choose_lt (α := List Value) (n := m) (p := fun i c => W.cells? 0 (a.add (i * P.cellsOf e)) (P.cellsOf e) = some c ∧ (i < len → c.length = n ∧ Φ c)) (fun i hi => by
    obtain ⟨c, g1, g2⟩ := hx i hi
    exact ⟨c, g1, fun hl => he2 _ _ _ g2 (hwD i hl)⟩)
  have hln : ∀ i, i < len → (C i).length = n := fun i hi => ((hC i (by omega)).2 hi).1
  refine ⟨(List.range len).map C, fun c hc => ?_, by simp; omega, ?_, ?_⟩
  · obtain ⟨i, hi, rfl⟩ := List.mem_map.1 hc
    exact (hC i (by have := List.mem_range.1 hi; omega)).2 (List.mem_range.1 hi)
  · rw [List.length_map, List.length_range]
    exact Nat.le_trans (Nat.mul_le_mul_right _ (by omega)) hb
  · have hfl : ∀ k, k ≤ len → ((List.range k).map C).flatten.length = k * n := by
      intro k
      induction k with
      | zero => simp
      | succ k ih =>
        intro hk
        rw [List.range_succ, List.map_append, List.flatten_append, List.length_append, ih (by omega), Nat.succ_mul]
        simp [hln k (by omega)]
    refine ⟨by rw [hfl len (Nat.le_refl _), List.length_map, List.length_range], .inr ⟨a.block, a.off, m, cs, ty, fr, ?_, h4, ?_, by simpa using h1, fun h => by cases h⟩⟩
    · obtain ⟨ab, ao, asp⟩ := a
      simp only at h3
      subst h3
      simp
    · rw [hfl len (Nat.le_refl _)]
      have key : ∀ k, k ≤ len → (cs.toList.drop a.off).take (k * n) = ((List.range k).map C).flatten := by
        intro k
        induction k with
        | zero => simp
        | succ k ih =>
          intro hk
          rw [Nat.succ_mul, take_split, ih (by omega), List.range_succ, List.map_append, List.flatten_append]
          congr 1
          obtain ⟨_, g2, g3⟩ := World.cells?_some (hC k (by omega)).1
          simp only [List.map_cons, List.map_nil, List.flatten_cons, List.flatten_nil, List.append_nil]
          apply List.ext_getElem?
          intro j
          rcases Nat.lt_or_ge j n with hj | hj
          · have := g3 j (by omega)
            rw [← this, List.getElem?_take_of_lt hj, List.getElem?_drop]
            obtain ⟨ab, ao, asp⟩ := a
            simp only at h3
            subst h3
            rw [addr_add, addr_add, cell_of_heap h4]
            simp only [he1]
            rw [Array.getElem?_toList]
          · rw [List.getElem?_eq_none (by rw [List.length_take]; omega), List.getElem?_eq_none (by rw [hln k (by omega)]; exact hj)]
      exact key len (Nat.le_refl _)
/-- Parts, one behind another. -/
def Parts : List (Nat × (List Value → Prop)) → List Value → Prop
  | [], vs => vs = []
  | (n, Φ) :: r, vs => ∃ a b, vs = a ++ b ∧ a.length = n ∧ Φ a ∧ Parts r b
inductive FieldsR (enc : TypeId × Value → H) (P : Program) (W : World) (held : Bool) : List Field → Nat → List (Nat × (List Value → Prop)) → Prop
  | nil {off : Nat} : FieldsR enc P W held [] off []
  | cons {f : Field} {fs : List Field} {off n : Nat} {Φ : List Value → Prop} {r : List (Nat × (List Value → Prop))} (ho : f.offset = off) (hr : Reads enc P W held f.type n Φ) (h : FieldsR enc P W held fs (off + n) r) : FieldsR enc P W held (f :: fs) off ((n, Φ) :: r)
def nsum : List (Nat × (List Value → Prop)) → Nat
  | [] => 0
  | p :: r => p.1 + nsum r
theorem reads_struct {t : TypeId} {fs : Array Field} {ps : List (Nat × (List Value → Prop))} (hu : P.underlying t = some (.struct fs)) (h : FieldsR enc P W held fs.toList 0 ps) (hc : P.cellsOf t = nsum ps) : Reads enc P W held t (nsum ps) (Parts ps) := by
  refine ⟨hc, fun fuel cs x hf hw => ?_⟩
  obtain ⟨xs, n, rfl, rfl, hl, hxl, hx⟩ := DataW.trod_struct hu hf
  have hwe : DataW.weights P t (DataW.agg (H := H) (xs.map (·.1))) = DataW.weightsEach P (fs.toList.map (·.type)) (xs.map (·.1)) := by
    rw [DataW.weights, hu]
  simp only at hw
  rw [hwe] at hw
  refine ⟨by rw [hl, hc], ?_⟩
  have gen : ∀ (fl : List Field) (i off : Nat) (ps : List (Nat × (List Value → Prop))), (∀ (j : Nat) f, fl[j]? = some f → fs[i + j]? = some f) → FieldsR enc P W held fl off ps → off + nsum ps = cs.length → Parts ps (cs.drop off) := by
    intro fl
    induction fl with
    | nil => intro i off ps _ h ho; cases h; simp only [nsum] at ho; simp only [Parts]; rw [List.drop_eq_nil_of_le (by omega)]
    | cons f fl ihf =>
      intro i off ps hm h ho
      cases h with
      | @cons _ _ _ n' Φ r h1 h2 h3 =>
      simp only [nsum] at ho
      have g0 := hm 0 f rfl
      rw [Nat.add_zero] at g0
      have g1 := hx i f g0
      have hi : i < xs.length := by
        rw [hxl]
        rcases Nat.lt_or_ge i fs.size with h | h
        · exact h
        · rw [Array.getElem?_eq_none h] at g0; cases g0
      rw [List.getElem?_eq_getElem hi, h1, h2.1] at g1
      have hwi : (xs[i].1.weights P f.type).all (· ≤ reachBytes) = true := wt_at hw i (by rw [List.getElem?_map, Array.getElem?_toList, g0]; rfl) (by rw [List.getElem?_map, List.getElem?_eq_getElem hi]; rfl)
      obtain ⟨g2, g3⟩ := h2.2 _ _ _ g1 hwi
      refine ⟨(cs.drop off).take n', cs.drop (off + n'), ?_, g2, g3, ihf (i + 1) (off + n') r (fun j f' hj => ?_) h3 (by omega)⟩
      · rw [← List.drop_drop, List.take_append_drop]
      · have := hm (j + 1) f' (by simpa using hj)
        rw [← this]; congr 1; omega
  have g := gen fs.toList 0 0 ps (fun j f hj => by rw [Nat.zero_add, ← Array.getElem?_toList]; exact hj) h (by rw [hl, hc]; omega)
  simpa using g
/-- An array's elements. -/
def RepP (n : Nat) (Φ : List Value → Prop) : Nat → List Value → Prop
  | 0, vs => vs = []
  | k + 1, vs => ∃ a b, vs = a ++ b ∧ a.length = n ∧ Φ a ∧ RepP n Φ k b
theorem reads_array {t e : TypeId} {k n : Nat} {Φ : List Value → Prop} (hu : P.underlying t = some (.array k e)) (h : Reads enc P W held e n Φ) (hc : P.cellsOf t = k * n) : Reads enc P W held t (k * n) (RepP n Φ k) := by
  refine ⟨hc, fun fuel cs x hf hw => ?_⟩
  cases fuel with
  | zero => simp [DataW.trod] at hf
  | succ fuel =>
  unfold DataW.trod at hf
  rw [hu] at hf
  simp only at hf
  split at hf
  · rename_i hl
    obtain ⟨xs, hxs, rfl⟩ := Option.map_eq_some_iff.1 hf
    refine ⟨by rw [hl, hc], ?_⟩
    have hwe : DataW.weights P t (DataW.agg (H := H) (xs.map (·.1))) = DataW.weightsAll P e (xs.map (·.1)) := by
      rw [DataW.weights, hu]
    simp only at hw
    rw [hwe] at hw
    obtain ⟨_, _, hall, _⟩ := mapM_all hxs
    have gen : ∀ (m i : Nat), i + m = k → RepP n Φ m (cs.drop (i * n)) := by
      intro m
      induction m with
      | zero => intro i hi; simp only [RepP]; rw [List.drop_eq_nil_of_le (by rw [hl, hc]; exact Nat.mul_le_mul_right _ (by omega))]
      | succ m ih =>
        intro i hi
        obtain ⟨y, hy, hym⟩ := hall i (List.mem_range.2 (by omega))
        rw [h.1] at hy
        obtain ⟨g2, g3⟩ := h.2 _ _ _ hy (wt_sub hw (weights_all_mem (List.mem_map.2 ⟨y, hym, rfl⟩)))
        refine ⟨(cs.drop (i * n)).take n, cs.drop ((i + 1) * n), ?_, g2, g3, ih (i + 1) (by omega)⟩
        rw [Nat.succ_mul, ← List.drop_drop, List.take_append_drop]
    have g := gen k 0 (by omega)
    simpa using g
  · cases hf
/-- A struct or an array, as it is handed in. -/
theorem open_agD {t : TypeId} {n b0 : Nat} {Φ : List Value → Prop} {v : Value} {dd : DataW H} {ps : List MemPlace} (h : Reads enc P W held t n Φ) (ha : (match P.underlying t with | some (.struct _) | some (.array _ _) => true | _ => false) = true)
    (hval : Value.okWide P W .any b0 t v) (hd : DataW.Trod enc P W 0 (fun _ => true) held t v dd ps) (hw : (dd.weights P t).all (· ≤ reachBytes) = true) : ∃ cs : List Value, v = .agg cs.toArray ∧ Φ cs := by
  obtain ⟨fuel, hf⟩ := hd
  have key : ∃ cs, v = .agg cs := by
    unfold Value.okWide at hval
    split at hval
    · obtain ⟨cs, h1, _⟩ := hval; exact ⟨cs, h1⟩
    · obtain ⟨cs, h1, _⟩ := hval; exact ⟨cs, h1⟩
    · rename_i h1 h2
      exfalso
      split at ha
      · rename_i x hx; exact h1 _ hx
      · rename_i x y hx; exact h2 _ _ hx
      · cases ha
  obtain ⟨cs, rfl⟩ := key
  exact ⟨cs.toList, by simp, (h.2 _ _ _ hf hw).2⟩
end
end Go.V
/- Flights (chapter 39): what is handed in. -/
namespace Go.V.L39
open Go.Proofs Go.ChangeShapes Go.WideShapes Go.ChangeAt Go.ChangeMaps Go.RowKit Go.V
abbrev ItL : List LeafK := [.i .i64, .i .i64, .i .i64, .i .i64, .i .u64]
abbrev QuL : List LeafK := [.i .u8, .s, .s, .s, .s, .s]
abbrev ItsP (H : Heap) : List Value → Prop := fun vs => ∃ v, vs = [v] ∧ SlD tyI 5 (Try.prog.bytesOf tyI) (LeafsOK ItL) H v
abbrev FlPs (H : Heap) : List (Nat × (List Value → Prop)) := [(1, LeafsOK [.i .i64]), (1, LeafsOK [.i .u64]), (6, LeafsOK QuL), (1, LeafsOK [.i .i64]), (1, LeafsOK [.i .i64]), (1, LeafsOK [.i .i64]), (1, LeafsOK [.i .i64]), (1, LeafsOK [.i .i64]), (1, ItsP H)]
abbrev TbPs (H : Heap) : List (Nat × (List Value → Prop)) := [(1, LeafsOK [.i .i64]), (1, fun vs => ∃ v, vs = [v] ∧ SlD tyF 14 (Try.prog.bytesOf tyF) (Parts (FlPs H)) H v)]
section
variable {H : Type} {enc : TypeId × Value → H} {W : World} {held : Bool}
theorem reads_its : Reads enc Try.prog W held 47 1 (ItsP (hp W)) := reads_slice Try.underlying47 (by kernel_rfl) (reads_leaf (ls := ItL) (by kernel_rfl) (by kernel_rfl)) (by decide)
theorem reads_i64 : Reads enc Try.prog W held 3 1 (LeafsOK [.i .i64]) := reads_leaf (ls := [.i .i64]) (by kernel_rfl) (by kernel_rfl)
theorem reads_i64' : Reads enc Try.prog W held 2 1 (LeafsOK [.i .i64]) := reads_leaf (ls := [.i .i64]) (by kernel_rfl) (by kernel_rfl)
theorem reads_u64 : Reads enc Try.prog W held 31 1 (LeafsOK [.i .u64]) := reads_leaf (ls := [.i .u64]) (by kernel_rfl) (by kernel_rfl)
theorem reads_qu : Reads enc Try.prog W held tyQ 6 (LeafsOK QuL) := reads_leaf (ls := QuL) (by kernel_rfl) (by kernel_rfl)
theorem reads_fl : Reads enc Try.prog W held tyF 14 (Parts (FlPs (hp W))) := reads_struct Try.underlying49
  (.cons rfl reads_i64 (.cons rfl reads_u64 (.cons rfl reads_qu (.cons rfl reads_i64 (.cons rfl reads_i64 (.cons rfl reads_i64' (.cons rfl reads_i64 (.cons rfl reads_i64 (.cons rfl reads_its .nil))))))))) (by kernel_rfl)
theorem reads_fls : Reads enc Try.prog W held 22 1 (fun vs => ∃ v, vs = [v] ∧ SlD tyF 14 (Try.prog.bytesOf tyF) (Parts (FlPs (hp W))) (hp W) v) := reads_slice Try.underlying22 (by kernel_rfl) reads_fl (by decide)
theorem reads_tb : Reads enc Try.prog W held tyT 2 (Parts (TbPs (hp W))) := reads_struct Try.underlying24 (.cons rfl reads_i64 (.cons rfl reads_fls .nil)) (by kernel_rfl)
end
theorem by_it : Try.prog.bytesOf tyI = 40 := by kernel_rfl
theorem leaf_int {k : IntKind} {a : List Value} (h : LeafsOK [.i k] a) : ∃ z, a = [.int k z] ∧ (Lit.int k z).wf = true := by
  obtain ⟨z, r, rfl, h1, h2⟩ := leaf_i h
  obtain rfl := leaf_nil h2
  exact ⟨z, rfl, h1⟩
theorem max_len {n : Nat} (h : n ≤ maxLen) : n ≤ 9223372036854775807 := h
theorem qu_of {a : List Value} (h : LeafsOK QuL a) : ∃ q : Qu, a = quc q ∧ QuZ q := by
  obtain ⟨k, r, rfl, h0, h⟩ := leaf_i h
  obtain ⟨s1, r, rfl, h1, h⟩ := leaf_s h
  obtain ⟨s2, r, rfl, h2, h⟩ := leaf_s h
  obtain ⟨s3, r, rfl, h3, h⟩ := leaf_s h
  obtain ⟨s4, r, rfl, h4, h⟩ := leaf_s h
  obtain ⟨s5, r, rfl, h5, h⟩ := leaf_s h
  obtain rfl := leaf_nil h
  exact ⟨⟨k, ((s1, s2), s3), (s4, s5)⟩, rfl, Go.bounds_u8 h0, max_len h1, max_len h2, max_len h3, max_len h4, max_len h5⟩
theorem it_of {a : List Value} (h : LeafsOK ItL a) : ∃ x : It, a = itc x ∧ ItZ x := by
  obtain ⟨z1, r, rfl, h1, h⟩ := leaf_i h
  obtain ⟨z2, r, rfl, h2, h⟩ := leaf_i h
  obtain ⟨z3, r, rfl, h3, h⟩ := leaf_i h
  obtain ⟨z4, r, rfl, h4, h⟩ := leaf_i h
  obtain ⟨z5, r, rfl, h5, h⟩ := leaf_i h
  obtain rfl := leaf_nil h
  exact ⟨⟨z1, z2, z3, z4, z5⟩, rfl, Go.bounds_i64 h1, Go.bounds_i64 h2, Go.bounds_i64 h3, Go.bounds_i64 h4, Go.bounds_u64 h5⟩
/-- Parts of a list, each of which is something. -/
theorem each_of {α : Type} {f : α → List Value} {Φ : List Value → Prop} {Ψ : α → Prop} (hf : ∀ c, Φ c → ∃ x, c = f x ∧ Ψ x) : ∀ (cs : List (List Value)), (∀ c ∈ cs, Φ c) → ∃ l : List α, cs.flatten = l.flatMap f ∧ l.length = cs.length ∧ ∀ x ∈ l, Ψ x
  | [], _ => ⟨[], rfl, rfl, fun x h => by cases h⟩
  | c :: cs, h => by
    obtain ⟨x, rfl, hx⟩ := hf c (h c (List.mem_cons_self ..))
    obtain ⟨l, h1, h2, h3⟩ := each_of hf cs fun d hd => h d (List.mem_cons_of_mem _ hd)
    exact ⟨x :: l, by rw [List.flatten_cons, List.flatMap_cons, h1], by rw [List.length_cons, List.length_cons, h2], fun y hy => by
      rcases List.mem_cons.1 hy with rfl | hy
      · exact hx
      · exact h3 y hy⟩
theorem its_of {H : Heap} {v : Value} (h : SlD tyI 5 (Try.prog.bytesOf tyI) (LeafsOK ItL) H v) : ∃ l : List It, IsV l false v H ∧ l.length ≤ 4398046511104 ∧ ∀ x ∈ l, ItZ x := by
  obtain ⟨cs, h1, h2, h3, h4⟩ := h
  obtain ⟨l, g1, g2, g3⟩ := each_of (f := itc) (Ψ := ItZ) (fun c hc => it_of hc) cs fun c hc => (h1 c hc).2
  rw [by_it] at h3
  rw [g1, ← g2] at h4
  exact ⟨l, h4, by unfold reachBytes at h3; omega, g3⟩
structure FlI (H : Heap) (z : Fl × Value) : Prop where
  is : IsV z.1.is false z.2 H
  ln : z.1.is.length ≤ 4398046511104
  z : FlZ z.1
theorem fl_of {H : Heap} {c : List Value} (h : Parts (FlPs H) c) : ∃ z : Fl × Value, c = flc z ∧ FlI H z := by
  obtain ⟨a1, b, rfl, -, h1, h⟩ := h
  obtain ⟨a2, b, rfl, -, h2, h⟩ := h
  obtain ⟨a3, b, rfl, -, h3, h⟩ := h
  obtain ⟨a4, b, rfl, -, h4, h⟩ := h
  obtain ⟨a5, b, rfl, -, h5, h⟩ := h
  obtain ⟨a6, b, rfl, -, h6, h⟩ := h
  obtain ⟨a7, b, rfl, -, h7, h⟩ := h
  obtain ⟨a8, b, rfl, -, h8, h⟩ := h
  obtain ⟨a9, b, rfl, -, ⟨v, rfl, h9⟩, rfl⟩ := h
  obtain ⟨z1, rfl, w1⟩ := leaf_int h1
  obtain ⟨z2, rfl, w2⟩ := leaf_int h2
  obtain ⟨q, rfl, w3⟩ := qu_of h3
  obtain ⟨z4, rfl, w4⟩ := leaf_int h4
  obtain ⟨z5, rfl, w5⟩ := leaf_int h5
  obtain ⟨z6, rfl, w6⟩ := leaf_int h6
  obtain ⟨z7, rfl, w7⟩ := leaf_int h7
  obtain ⟨z8, rfl, w8⟩ := leaf_int h8
  obtain ⟨l, g1, g2, g3⟩ := its_of h9
  exact ⟨(⟨z1, z2, q, z4, z5, z6, z7, z8, l⟩, v), rfl, g1, g2, Go.bounds_i64 w1, Go.bounds_u64 w2, w3, Go.bounds_i64 w4, Go.bounds_i64 w5, Go.bounds_i64 w6, Go.bounds_i64 w7, Go.bounds_i64 w8, g3⟩
theorem tb_of {H : Heap} {c : List Value} (h : Parts (TbPs H) c) : ∃ (t : Tb) (s : Value) (zs : List (Fl × Value)), c = [.int .i64 t.nx, s] ∧ TbI H t s zs ∧ TbZ t := by
  obtain ⟨a1, b, rfl, -, h1, h⟩ := h
  obtain ⟨a2, b, rfl, -, ⟨v, rfl, cs, g1, g2, g3, g4⟩, rfl⟩ := h
  obtain ⟨nx, rfl, w1⟩ := leaf_int h1
  obtain ⟨zs, e1, e2, e3⟩ := each_of (f := flc) (Ψ := FlI H) (fun c hc => fl_of hc) cs fun c hc => (g1 c hc).2
  rw [e1, ← e2] at g4
  refine ⟨⟨nx, zs.map Prod.fst⟩, v, zs, rfl, ⟨rfl, g4, fun i z hz => (e3 z (List.mem_of_getElem? hz)).is, fun f hf => ?_, fun f hf => ?_, fun f hf x hx => ?_⟩, Go.bounds_i64 w1, fun f hf => ?_⟩
  all_goals obtain ⟨z, hz, rfl⟩ := List.mem_map.1 hf
  · exact (e3 z hz).ln
  · exact (e3 z hz).z.q
  · exact ((e3 z hz).z.is x hx).rv.1
  · exact (e3 z hz).z
end Go.V.L39
/- Flights (chapter 39): blocks in which items lie, that are written. -/
namespace Go.V.L39
open Go.Proofs Go.RowKit Go.V
structure OwnZ (zs : List (Fl × Value)) (B H : Heap) : Prop where
  nw : ∀ (i : Nat) z, zs[i]? = some z → NewIn B z.2
  ow : ∀ (i : Nat) z, zs[i]? = some z → OwnB tyI (z.1.is.flatMap itc) z.2 H
/-- A table in new memory, in a variable. -/
def TbXN (B : Heap) (t : Tb) (x : SlX) (H : Heap) : Prop := TbN B t (tbv t.nx (.slice x.1 x.2.1 x.2.2)) H
theorem TbXN.mono {B : Heap} {t : Tb} : MonoX (TbXN B t) := fun _ _ _ h hle => tbn_mono h hle
theorem TbN.mn {B : Heap} {t : Tb} : Kn.mono (.sat (TbN B t)) := fun _ _ _ h hle => tbn_mono h hle
theorem TbXN.open {B : Heap} {t : Tb} {x : SlX} {H : Heap} (h : TbXN B t x H) : ∃ zs, zs.map Prod.fst = t.fl ∧ FsB zs true true (.slice x.1 x.2.1 x.2.2) H ∧ OwnZ zs B H := by
  obtain ⟨zs, s, h1, h2, h3, h4, h5⟩ := h
  obtain rfl : (Value.slice x.1 x.2.1 x.2.2) = s := by
    injection h1 with h1
    have h6 := congrArg (fun a : Array Value => a.toList[1]?) h1
    simpa using h6
  exact ⟨zs, h2, h3, fun i z hz => (h5 i z hz).1, fun i z hz => (h5 i z hz).2⟩
abbrev JoinNS (B : Heap) (t : Tb) (id : Int) (md : Bool) (e : Int) : Value → Heap → Prop := TupS [TbN B t, fun v _ => v = .int .i64 id, fun v _ => v = .bool md, fun v _ => v = .int .i64 e]
theorem JoinNS.mono {B : Heap} {t : Tb} {id : Int} {md : Bool} {e : Int} : Kn.mono (.sat (JoinNS B t id md e)) := TupS.mono fun φ h => by
  simp only [List.mem_cons, List.mem_nil_iff, or_false] at h
  rcases h with rfl | rfl | rfl | rfl
  · exact TbN.mn
  · exact eqv_mono
  · exact eqv_mono
  · exact eqv_mono
theorem CopyP.r {B : Heap} {t : Tb} (hl : t.fl.length ≤ 100000) (hli : ∀ f ∈ t.fl, f.is.length ≤ 4611686018427387904) {v : Value} {H : Heap} (h : CopyP B t v H) : TbR t v H := by
  obtain ⟨zs, s, h1, h2⟩ := h
  exact ⟨zs, s, h1, h2.fl, h2.toB (by rw [fls_len h2.fl]; exact hl) hli⟩
end Go.V.L39
/- The walk of the statement 'FlightsJoin' (chapter 39). (Printed by mklawm39.py.) -/
namespace Go.V.L39
open Go.Proofs Go.RowKit Go.V
abbrev RJ4 (t : Tb) (id z e : Int) : Value → Heap → Prop := TupS [TbR t, fun v _ => v = .int .i64 id, fun v _ => v = .int .i64 z, fun v _ => v = .int .i64 e]
theorem RJ4.mono {t : Tb} {id z e : Int} : Kn.mono (.sat (RJ4 t id z e)) := TupS.mono fun φ h => by
  simp only [List.mem_cons, List.mem_nil_iff, or_false] at h
  rcases h with rfl | rfl | rfl | rfl
  · exact TbR.mn
  · exact eqv_mono
  · exact eqv_mono
  · exact eqv_mono
attribute [local irreducible] V N X VO Par StepOK Has Ret RetL RetO RetT RetG Src
end Go.V.L39
/- The walk of the statement 'FlightsFan' (chapter 39). (Printed by mklawn39.py.) -/
namespace Go.V.L39
open Go.Proofs Go.RowKit Go.V
theorem same01 {p : Prop} [Decidable p] : decide ((if p then (1 : Int) else 0) = 1) = decide p := by
  by_cases h : p <;> simp [h]
theorem fanp_le {B B' : Heap} {kd : Int} {ys : Bool} {l : List It} {us : List Str2} {v : Value} {H : Heap} (hle : B.Le B') (h : FanP B' kd ys l us v H) : FanP B kd ys l us v H := by
  obtain ⟨zs, h1, h2, h3⟩ := h
  exact ⟨zs, ⟨h1.its, fun i z hz => SlN.le (h1.nw i z hz) hle, h1.ap⟩, SlN.le h2 hle, h3⟩
attribute [local irreducible] V N X VO Par StepOK Has Ret RetL RetO RetT RetG Src
set_option maxHeartbeats 8000000 in
set_option maxRecDepth 20000 in
theorem fan_law {f : Fl} {sv uv s1 s2 : Value} {t1 t2 : Tb} {zs1 zs2 : List (Fl × Value)} {kd : Int} {ys : Bool} {us : List Str2} {w : World} {B : Heap} (hf : IsV f.is false sv B) (hfl : f.is.length ≤ 4398046511104) (hu : SlV tyO 2 (ucells us) us.length false uv B) (hI1 : TbI B t1 s1 zs1) (hI2 : TbI B t2 s2 zs2) (hB : B.Le (hp w)) :
    Ret Try.prog 8 [flv f sv, .agg #[.int .u8 kd, .bool ys, uv], .agg #[.int .i64 t1.nx, s1, .int .i64 t2.nx, s2]] w B (fun v _ => v = .bool true) := by
  obtain ⟨pf, cf, rfl⟩ := slv_sh hf
  obtain ⟨pu, cu, rfl⟩ := slv_sh hu
  obtain ⟨p1, c1, rfl⟩ := slv_sh hI1.sl
  obtain ⟨p2, c2, rfl⟩ := slv_sh hI2.sl
  refine V_enter Try.func8 rfl Try.ntmps8 (Nat.le_of_ble_eq_true rfl) hB ?_
  refine V_seq ?_; refine V_region (id := 0) ?_; refine vo_step (ok_boxR rfl rfl rfl rfl) rfl ?_; refine vo_step (ok_boxR rfl rfl rfl rfl) rfl ?_; refine vo_step (ok_boxR rfl rfl rfl rfl) rfl ?_; refine vo_step (ok_assign rfl rfl rfl) rfl ?_; refine vo_nil ?_; refine N_seq ?_; refine V_seq ?_; refine V_seq ?_
  refine V_box 3 rfl fun b3 _ => ?_
  refine V_box 4 rfl fun b4 _ => ?_
  refine V_box 5 rfl fun b5 _ => ?_
  by_cases hn : 30 < f.is.length
  · refine V_region (id := 1) ?_; refine vo_step (ok_fieldP L rfl rfl rfl rfl) rfl ?_; refine vo_step (ok_load1 L (src_box rfl (List.Mem.tail _ (List.Mem.tail _ (List.Mem.head _)))) rfl rfl rfl rfl) rfl ?_; refine vo_step (ok_lenL L rfl rfl rfl rfl) rfl ?_; refine vo_step (ok_gtr rfl rfl rfl rfl (decide_eq_true (by omega))) rfl ?_; refine vo_step (ok_move rfl rfl rfl) rfl ?_; refine vo_step (ok_skip rfl (blt_lt rfl) rfl) rfl ?_; refine vo_step (ok_skip rfl (blt_lt rfl) rfl) rfl ?_; refine vo_step (ok_skip rfl (blt_lt rfl) rfl) rfl ?_; refine vo_step (ok_skip rfl (blt_lt rfl) rfl) rfl ?_; refine vo_step (ok_pick rfl rfl rfl rfl) rfl ?_; refine vo_step (ok_move rfl rfl rfl) rfl ?_; refine vo_step (ok_skip rfl (blt_lt rfl) rfl) rfl ?_; refine vo_step (ok_skip rfl (blt_lt rfl) rfl) rfl ?_; refine vo_step (ok_skip rfl (blt_lt rfl) rfl) rfl ?_; refine vo_step (ok_skip rfl (blt_lt rfl) rfl) rfl ?_; refine vo_step (ok_pick rfl rfl rfl rfl) rfl ?_; refine vo_step (ok_move rfl rfl rfl) rfl ?_; refine vo_step (ok_skip rfl (blt_lt rfl) rfl) rfl ?_; refine vo_step (ok_skip rfl (blt_lt rfl) rfl) rfl ?_; refine vo_step (ok_skip rfl (blt_lt rfl) rfl) rfl ?_; refine vo_step (ok_skip rfl (blt_lt rfl) rfl) rfl ?_; refine vo_step (ok_pick rfl rfl rfl rfl) rfl ?_; refine vo_nil ?_; refine N_seq ?_; refine V_true rfl ?_; refine V_seq ?_; refine V_region (id := 2) ?_; refine vo_step (ok_callx L rfl rfl (blt_lt rfl) rfl rfl rfl (fun u H hH _ _ => lives_law hH)) rfl ?_; refine vo_step (ok_assign rfl rfl rfl) rfl ?_; refine vo_nil ?_; refine N_seq ?_
    refine V_ret L (rs := [.tmp 6]) rfl (fun _ _ h => h) Since.refl fun u H hH hle => ?_
    rfl
  by_cases hm : 20 < us.length
  · refine V_region (id := 1) ?_; refine vo_step (ok_fieldP L rfl rfl rfl rfl) rfl ?_; refine vo_step (ok_load1 L (src_box rfl (List.Mem.tail _ (List.Mem.tail _ (List.Mem.head _)))) rfl rfl rfl rfl) rfl ?_; refine vo_step (ok_lenL L rfl rfl rfl rfl) rfl ?_; refine vo_step (ok_gtr rfl rfl rfl rfl (decide_eq_false (by omega))) rfl ?_; refine vo_step (ok_move rfl rfl rfl) rfl ?_; refine vo_step (ok_fieldP L rfl rfl rfl rfl) rfl ?_; refine vo_step (ok_load1 L (src_box rfl (List.Mem.tail _ (List.Mem.head _))) rfl rfl rfl rfl) rfl ?_; refine vo_step (ok_lenL L rfl rfl rfl rfl) rfl ?_; refine vo_step (ok_gtr rfl rfl rfl rfl (decide_eq_true (by omega))) rfl ?_; refine vo_step (ok_pick rfl rfl rfl rfl) rfl ?_; refine vo_step (ok_move rfl rfl rfl) rfl ?_; refine vo_step (ok_skip rfl (blt_lt rfl) rfl) rfl ?_; refine vo_step (ok_skip rfl (blt_lt rfl) rfl) rfl ?_; refine vo_step (ok_skip rfl (blt_lt rfl) rfl) rfl ?_; refine vo_step (ok_skip rfl (blt_lt rfl) rfl) rfl ?_; refine vo_step (ok_pick rfl rfl rfl rfl) rfl ?_; refine vo_step (ok_move rfl rfl rfl) rfl ?_; refine vo_step (ok_skip rfl (blt_lt rfl) rfl) rfl ?_; refine vo_step (ok_skip rfl (blt_lt rfl) rfl) rfl ?_; refine vo_step (ok_skip rfl (blt_lt rfl) rfl) rfl ?_; refine vo_step (ok_skip rfl (blt_lt rfl) rfl) rfl ?_; refine vo_step (ok_pick rfl rfl rfl rfl) rfl ?_; refine vo_nil ?_; refine N_seq ?_; refine V_true rfl ?_; refine V_seq ?_; refine V_region (id := 2) ?_; refine vo_step (ok_callx L rfl rfl (blt_lt rfl) rfl rfl rfl (fun u H hH _ _ => lives_law hH)) rfl ?_; refine vo_step (ok_assign rfl rfl rfl) rfl ?_; refine vo_nil ?_; refine N_seq ?_
    refine V_ret L (rs := [.tmp 6]) rfl (fun _ _ h => h) Since.refl fun u H hH hle => ?_
    rfl
  cases hb1 : bndB t1 with
  | false =>
    refine V_region (id := 1) ?_; refine vo_step (ok_fieldP L rfl rfl rfl rfl) rfl ?_; refine vo_step (ok_load1 L (src_box rfl (List.Mem.tail _ (List.Mem.tail _ (List.Mem.head _)))) rfl rfl rfl rfl) rfl ?_; refine vo_step (ok_lenL L rfl rfl rfl rfl) rfl ?_; refine vo_step (ok_gtr rfl rfl rfl rfl (decide_eq_false (by omega))) rfl ?_; refine vo_step (ok_move rfl rfl rfl) rfl ?_; refine vo_step (ok_fieldP L rfl rfl rfl rfl) rfl ?_; refine vo_step (ok_load1 L (src_box rfl (List.Mem.tail _ (List.Mem.head _))) rfl rfl rfl rfl) rfl ?_; refine vo_step (ok_lenL L rfl rfl rfl rfl) rfl ?_; refine vo_step (ok_gtr rfl rfl rfl rfl (decide_eq_false (by omega))) rfl ?_; refine vo_step (ok_pick rfl rfl rfl rfl) rfl ?_; refine vo_step (ok_move rfl rfl rfl) rfl ?_; refine vo_step (ok_indexAr L _ rfl rfl rfl rfl ar92 rfl rfl (by first | omega | decide)) rfl ?_; refine vo_step (ok_loadA L (vs := [_, _]) (src_box rfl (List.Mem.head _)) rfl rfl rfl rfl ⟨_, rfl⟩) rfl ?_; refine vo_step (ok_callx L rfl rfl (blt_lt rfl) rfl rfl rfl (fun u H hH hle _ => bnd_law hb1 (hI1.le hle) hH)) rfl ?_; refine vo_step (ok_not rfl rfl rfl rfl) rfl ?_; refine vo_step (ok_pick rfl rfl rfl rfl) rfl ?_; refine vo_step (ok_move rfl rfl rfl) rfl ?_; refine vo_step (ok_skip rfl (blt_lt rfl) rfl) rfl ?_; refine vo_step (ok_skip rfl (blt_lt rfl) rfl) rfl ?_; refine vo_step (ok_skip rfl (blt_lt rfl) rfl) rfl ?_; refine vo_step (ok_skip rfl (blt_lt rfl) rfl) rfl ?_; refine vo_step (ok_pick rfl rfl rfl rfl) rfl ?_; refine vo_nil ?_; refine N_seq ?_; refine V_true rfl ?_; refine V_seq ?_; refine V_region (id := 2) ?_; refine vo_step (ok_callx L rfl rfl (blt_lt rfl) rfl rfl rfl (fun u H hH _ _ => lives_law hH)) rfl ?_; refine vo_step (ok_assign rfl rfl rfl) rfl ?_; refine vo_nil ?_; refine N_seq ?_
    refine V_ret L (rs := [.tmp 6]) rfl (fun _ _ h => h) Since.refl fun u H hH hle => ?_
    rfl
  | true =>
  cases hb2 : bndB t2 with
  | false =>
    refine V_region (id := 1) ?_; refine vo_step (ok_fieldP L rfl rfl rfl rfl) rfl ?_; refine vo_step (ok_load1 L (src_box rfl (List.Mem.tail _ (List.Mem.tail _ (List.Mem.head _)))) rfl rfl rfl rfl) rfl ?_; refine vo_step (ok_lenL L rfl rfl rfl rfl) rfl ?_; refine vo_step (ok_gtr rfl rfl rfl rfl (decide_eq_false (by omega))) rfl ?_; refine vo_step (ok_move rfl rfl rfl) rfl ?_; refine vo_step (ok_fieldP L rfl rfl rfl rfl) rfl ?_; refine vo_step (ok_load1 L (src_box rfl (List.Mem.tail _ (List.Mem.head _))) rfl rfl rfl rfl) rfl ?_; refine vo_step (ok_lenL L rfl rfl rfl rfl) rfl ?_; refine vo_step (ok_gtr rfl rfl rfl rfl (decide_eq_false (by omega))) rfl ?_; refine vo_step (ok_pick rfl rfl rfl rfl) rfl ?_; refine vo_step (ok_move rfl rfl rfl) rfl ?_; refine vo_step (ok_indexAr L _ rfl rfl rfl rfl ar92 rfl rfl (by first | omega | decide)) rfl ?_; refine vo_step (ok_loadA L (vs := [_, _]) (src_box rfl (List.Mem.head _)) rfl rfl rfl rfl ⟨_, rfl⟩) rfl ?_; refine vo_step (ok_callx L rfl rfl (blt_lt rfl) rfl rfl rfl (fun u H hH hle _ => bnd_law hb1 (hI1.le hle) hH)) rfl ?_; refine vo_step (ok_not rfl rfl rfl rfl) rfl ?_; refine vo_step (ok_pick rfl rfl rfl rfl) rfl ?_; refine vo_step (ok_move rfl rfl rfl) rfl ?_; refine vo_step (ok_indexAr L _ rfl rfl rfl rfl ar92 rfl rfl (by first | omega | decide)) rfl ?_; refine vo_step (ok_loadA L (vs := [_, _]) (src_box rfl (List.Mem.head _)) rfl rfl rfl rfl ⟨_, rfl⟩) rfl ?_; refine vo_step (ok_callx L rfl rfl (blt_lt rfl) rfl rfl rfl (fun u H hH hle _ => bnd_law hb2 (hI2.le hle) hH)) rfl ?_; refine vo_step (ok_not rfl rfl rfl rfl) rfl ?_; refine vo_step (ok_pick rfl rfl rfl rfl) rfl ?_; refine vo_nil ?_; refine N_seq ?_; refine V_true rfl ?_; refine V_seq ?_; refine V_region (id := 2) ?_; refine vo_step (ok_callx L rfl rfl (blt_lt rfl) rfl rfl rfl (fun u H hH _ _ => lives_law hH)) rfl ?_; refine vo_step (ok_assign rfl rfl rfl) rfl ?_; refine vo_nil ?_; refine N_seq ?_
    refine V_ret L (rs := [.tmp 6]) rfl (fun _ _ h => h) Since.refl fun u H hH hle => ?_
    rfl
  | true =>
  obtain ⟨hsb1, hn1, hl1⟩ := hI1.ok hb1
  obtain ⟨hsb2, hn2, hl2'⟩ := hI2.ok hb2
  refine V_region (id := 1) ?_; refine vo_step (ok_fieldP L rfl rfl rfl rfl) rfl ?_; refine vo_step (ok_load1 L (src_box rfl (List.Mem.tail _ (List.Mem.tail _ (List.Mem.head _)))) rfl rfl rfl rfl) rfl ?_; refine vo_step (ok_lenL L rfl rfl rfl rfl) rfl ?_; refine vo_step (ok_gtr rfl rfl rfl rfl (decide_eq_false (by omega))) rfl ?_; refine vo_step (ok_move rfl rfl rfl) rfl ?_; refine vo_step (ok_fieldP L rfl rfl rfl rfl) rfl ?_; refine vo_step (ok_load1 L (src_box rfl (List.Mem.tail _ (List.Mem.head _))) rfl rfl rfl rfl) rfl ?_; refine vo_step (ok_lenL L rfl rfl rfl rfl) rfl ?_; refine vo_step (ok_gtr rfl rfl rfl rfl (decide_eq_false (by omega))) rfl ?_; refine vo_step (ok_pick rfl rfl rfl rfl) rfl ?_; refine vo_step (ok_move rfl rfl rfl) rfl ?_; refine vo_step (ok_indexAr L _ rfl rfl rfl rfl ar92 rfl rfl (by first | omega | decide)) rfl ?_; refine vo_step (ok_loadA L (vs := [_, _]) (src_box rfl (List.Mem.head _)) rfl rfl rfl rfl ⟨_, rfl⟩) rfl ?_; refine vo_step (ok_callx L rfl rfl (blt_lt rfl) rfl rfl rfl (fun u H hH hle _ => bnd_law hb1 (hI1.le hle) hH)) rfl ?_; refine vo_step (ok_not rfl rfl rfl rfl) rfl ?_; refine vo_step (ok_pick rfl rfl rfl rfl) rfl ?_; refine vo_step (ok_move rfl rfl rfl) rfl ?_; refine vo_step (ok_indexAr L _ rfl rfl rfl rfl ar92 rfl rfl (by first | omega | decide)) rfl ?_; refine vo_step (ok_loadA L (vs := [_, _]) (src_box rfl (List.Mem.head _)) rfl rfl rfl rfl ⟨_, rfl⟩) rfl ?_; refine vo_step (ok_callx L rfl rfl (blt_lt rfl) rfl rfl rfl (fun u H hH hle _ => bnd_law hb2 (hI2.le hle) hH)) rfl ?_; refine vo_step (ok_not rfl rfl rfl rfl) rfl ?_; refine vo_step (ok_pick rfl rfl rfl rfl) rfl ?_; refine vo_nil ?_; refine N_seq ?_; refine V_false rfl ?_; refine V_skip ?_; refine N_seq ?_; refine V_seq ?_; refine V_region (id := 3) ?_; refine vo_step (ok_loadA L (vs := [_, _, _, _, _, _, _, _, _, _, _, _, _, _]) (src_box rfl (List.Mem.tail _ (List.Mem.tail _ (List.Mem.head _)))) rfl rfl rfl rfl ⟨_, rfl⟩) rfl ?_; refine vo_step (ok_fieldP L rfl rfl rfl rfl) rfl ?_; refine vo_step (ok_load1 L (src_box rfl (List.Mem.tail _ (List.Mem.head _))) rfl rfl rfl rfl) rfl ?_; refine vo_step (ok_fieldP L rfl rfl rfl rfl) rfl ?_; refine vo_step (ok_load1 L (src_box rfl (List.Mem.tail _ (List.Mem.head _))) rfl rfl rfl rfl) rfl ?_; refine vo_step (ok_fieldP L rfl rfl rfl rfl) rfl ?_; refine vo_step (ok_load1 L (src_box rfl (List.Mem.tail _ (List.Mem.head _))) rfl rfl rfl rfl) rfl ?_; refine vo_step (ok_call (φ := FanP B kd ys f.is us) L rfl rfl (blt_lt rfl) rfl rfl rfl FanP.mono (fun u H hH hle _ => Ret.mono (fan_ret (hf.le hle) (by omega) (hu.le hle) (by omega) hH) fun v H' _ h => fanp_le hle h)) rfl ?_; refine vo_step (ok_assigns' rfl rfl rfl) rfl ?_; refine vo_nil ?_; refine N_seq ?_; refine V_seq ?_; refine V_seq ?_
  refine V_opn 7 rfl fun v7 H1 g1 ⟨zs, hz, hl2, hap⟩ => ?_
  obtain ⟨hl2, hnw, how⟩ := hl2
  obtain ⟨p7, c7, rfl⟩ := slv_sh hl2
  have hzl : zs.length = f.is.length := by have := congrArg List.length hz.its; simpa using this
  have hu1 := hu.le g1.le
  have hf1 := hf.le g1.le
  refine V_region (id := 4) ?_; refine vo_step (StepOK.seeV (ok_move rfl rfl rfl) hl2) rfl ?_; refine vo_step (ok_lenV L rfl rfl rfl rfl) rfl ?_; refine vo_step (ok_fieldP L rfl rfl rfl rfl) rfl ?_; refine vo_step (ok_load1 L (src_box rfl (List.Mem.tail _ (List.Mem.tail _ (List.Mem.head _)))) rfl rfl rfl rfl) rfl ?_; refine vo_step (ok_lenL L rfl rfl rfl rfl) rfl ?_; refine vo_step (ok_neq rfl rfl rfl rfl (decide_eq_false (by omega))) rfl ?_; refine vo_step (ok_move rfl rfl rfl) rfl ?_; refine vo_step (StepOK.seeV (ok_move rfl rfl rfl) hl2) rfl ?_; refine vo_step (ok_capV L rfl rfl rfl rfl) rfl ?_; refine vo_step (StepOK.seeV (ok_move rfl rfl rfl) hl2) rfl ?_; refine vo_step (ok_lenV L rfl rfl rfl rfl) rfl ?_; refine vo_step (ok_neq rfl rfl rfl rfl (decide_eq_false (by omega))) rfl ?_; refine vo_step (ok_pick rfl rfl rfl rfl) rfl ?_; refine vo_nil ?_; refine N_seq ?_; refine V_false rfl ?_; refine V_skip ?_; refine N_seq ?_; refine V_seq ?_; refine V_seq ?_
  refine V_region (id := 6) ?_; refine vo_step (ok_assign rfl rfl rfl) rfl ?_; refine vo_nil ?_; refine N_seq ?_; refine V_block ?_
  refine V_loop (fun i : Nat => [(3, .is (.pointer (some ⟨b3, 0, none⟩))), (4, .is (.pointer (some ⟨b4, 0, none⟩))), (5, .is (.pointer (some ⟨b5, 0, none⟩))), (7, .is (.slice p7 zs.length c7)), (8, .is (.int .i64 i))]) (fun i => i ≤ zs.length) (fun i => zs.length - i) 0 (Nat.zero_le _) ⟨rfl, rfl, rfl, rfl, rfl, trivial⟩ ?_
  rintro i hi
  by_cases hlt : i < zs.length
  · obtain ⟨z, hzi⟩ := get_some hlt
    have hxi : f.is[i]? = some z.1 := by rw [← hz.its, List.getElem?_map, hzi]; rfl
    have hc5 := it_at hxi
    have hc9 : ((zs.flatMap (rpc kd ys)).drop (i * 9)).take 9 = [.int .i64 z.1.tk, .int .i64 z.1.im, .int .i64 z.1.cl, .int .u8 kd, .int .u64 z.1.rv, .bool ys, z.2, .slice none 0 0, .int .i64 0] := flatMap_at (rpc_len kd ys) _ i z hzi
    refine V_seq ?_; refine V_seq ?_; refine V_region (id := 7) ?_; refine vo_step (ok_move rfl rfl rfl) rfl ?_; refine vo_step (StepOK.seeV (ok_move rfl rfl rfl) hl2) rfl ?_; refine vo_step (ok_lenV L rfl rfl rfl rfl) rfl ?_; refine vo_step (ok_lss rfl rfl rfl rfl (decide_eq_true (by omega))) rfl ?_; refine vo_nil ?_; refine N_seq ?_; refine V_true rfl ?_; refine V_skip ?_; refine N_seq ?_; refine V_seq ?_; refine V_block ?_; refine V_seq ?_; refine V_region (id := 9) ?_; refine vo_step (ok_fieldP L rfl rfl rfl rfl) rfl ?_; refine vo_step (StepOK.seeV (ok_load1 L (src_box rfl (List.Mem.tail _ (List.Mem.tail _ (List.Mem.head _)))) rfl rfl rfl rfl) (by assumption)) rfl ?_; refine vo_step (ok_move rfl rfl rfl) rfl ?_; refine vo_step (ok_indexV L _ rfl rfl rfl rfl rfl rfl rfl (by first | omega | decide) (by assumption)) rfl ?_; refine vo_step (ok_loadPA L (vs := [_, _, _, _, _]) rfl rfl rfl rfl rfl ⟨_, rfl⟩) rfl ?_; refine vo_step (ok_alloc L rfl rfl rfl rfl) rfl ?_; refine vo_step (ok_store L rfl rfl rfl rfl rfl rfl rfl rfl) rfl ?_; refine vo_nil ?_; refine N_seq ?_; refine V_seq ?_
    refine V_pub 9 rfl ?_
    refine V_regionD (id := 10) [] mixed (by kernel_rfl) ?_; refine par_step (StepOK.seeV (ok_move rfl rfl rfl) hl2) rfl ?_; refine par_step (ok_move rfl rfl rfl) rfl ?_; refine par_step (ok_indexV L _ rfl rfl rfl rfl rfl rfl rfl (by first | omega | decide) (by assumption)) rfl ?_; refine par_step (ok_loadPA L (vs := [_, _, _, _, _, _, _, _, _]) rfl rfl rfl rfl rfl ⟨_, rfl⟩) rfl ?_; refine par_step (ok_fieldAt L rfl rfl rfl rfl) rfl ?_; refine par_step (ok_load1 L (src_at rfl) rfl rfl rfl rfl) rfl ?_; refine par_step (ok_fieldAt L rfl rfl rfl rfl) rfl ?_; refine par_step (ok_load1 L (src_at rfl) rfl rfl rfl rfl) rfl ?_; refine par_step (ok_fieldAt L rfl rfl rfl rfl) rfl ?_; refine par_step (ok_load1 L (src_at rfl) rfl rfl rfl rfl) rfl ?_; refine par_step (ok_fieldP L rfl rfl rfl rfl) rfl ?_; refine par_step (ok_load1 L (src_box rfl (List.Mem.tail _ (List.Mem.head _))) rfl rfl rfl rfl) rfl ?_; refine par_step (ok_fieldAt L rfl rfl rfl rfl) rfl ?_; refine par_step (ok_load1 L (src_at rfl) rfl rfl rfl rfl) rfl ?_; refine par_step (ok_fieldP L rfl rfl rfl rfl) rfl ?_; refine par_step (ok_load1 L (src_box rfl (List.Mem.tail _ (List.Mem.head _))) rfl rfl rfl rfl) rfl ?_; refine par_step (ok_fieldP L rfl rfl rfl rfl) rfl ?_; refine par_step (ok_load1 L (src_box rfl (List.Mem.tail _ (List.Mem.head _))) rfl rfl rfl rfl) rfl ?_; refine par_step (ok_build (cs := [_, _, _, _, _, _, _, _, _]) rfl rfl pl98 rfl rfl) rfl ?_; refine par_step (ok_callx (r := .int .i64 1) L rfl rfl (blt_lt rfl) rfl rfl rfl (fun u H hH hle _ => srep_ret (x := z.1) (((hz.nw i z hzi).1).le hle) (hu1.le hle) (by omega) hH)) rfl ?_; refine par_step (ok_eql rfl rfl rfl rfl (decide_eq_false (by omega))) rfl ?_; refine par_nil ?_; refine N_seq ?_; refine V_false rfl ?_; refine V_skip ?_; refine N_block ?_; refine N_seq ?_; refine V_region (id := 8) ?_; refine vo_step (ok_move rfl rfl rfl) rfl ?_; refine vo_step (ok_add rfl rfl rfl rfl (wrap_i64 (by omega) (by omega))) rfl ?_; refine vo_step (ok_assign rfl rfl rfl) rfl ?_; refine vo_nil ?_
    exact N_round (x := i) (i + 1) hlt (by omega) ⟨rfl, rfl, rfl, rfl, rfl, trivial⟩
  · obtain rfl : i = zs.length := by omega
    refine V_seq ?_; refine V_seq ?_; refine V_region (id := 7) ?_; refine vo_step (ok_move rfl rfl rfl) rfl ?_; refine vo_step (StepOK.seeV (ok_move rfl rfl rfl) hl2) rfl ?_; refine vo_step (ok_lenV L rfl rfl rfl rfl) rfl ?_; refine vo_step (ok_lss rfl rfl rfl rfl (decide_eq_false (by omega))) rfl ?_; refine vo_nil ?_; refine N_seq ?_; refine V_false rfl ?_; refine V_exit ?_; refine X_then ?_; refine X_then ?_; refine X_here ?_; refine N_seq ?_; refine V_seq ?_; refine V_seq ?_
    by_cases hc1 : 1 < zs.length
    · by_cases hc2 : 0 < us.length
      · refine V_region (id := 12) ?_; refine vo_step (StepOK.seeV (ok_move rfl rfl rfl) hl2) rfl ?_; refine vo_step (ok_lenV L rfl rfl rfl rfl) rfl ?_; refine vo_step (ok_gtr rfl rfl rfl rfl (decide_eq_true (by omega))) rfl ?_; refine vo_step (ok_move rfl rfl rfl) rfl ?_; refine vo_step (ok_fieldP L rfl rfl rfl rfl) rfl ?_; refine vo_step (StepOK.seeV (ok_load1 L (src_box rfl (List.Mem.tail _ (List.Mem.head _))) rfl rfl rfl rfl) (by assumption)) rfl ?_; refine vo_step (ok_lenV L rfl rfl rfl rfl) rfl ?_; refine vo_step (ok_gtr rfl rfl rfl rfl (decide_eq_true (by omega))) rfl ?_; refine vo_step (ok_pick rfl rfl rfl rfl) rfl ?_; refine vo_nil ?_; refine N_seq ?_; refine V_true rfl ?_; refine V_seq ?_
        obtain ⟨z0, hz0⟩ := get_some (show 0 < zs.length by omega)
        obtain ⟨z1, hz1⟩ := get_some hc1
        obtain ⟨x0, hx0⟩ := get_some hc2
        obtain ⟨⟨hlz, ⟨h0, _⟩ | ⟨b, off, cap, cs, ty0, fr, e, hbz, hrz, hcz, hfz⟩⟩, hnz, hoz⟩ := hz.nw 0 z0 hz0
        · omega
        obtain rfl := hfz rfl
        obtain ⟨rfl, _, hbo⟩ := hoz _ _ _ _ _ e
        have hc9 : ((zs.flatMap (rpc kd ys)).drop (0 * 9)).take 9 = [.int .i64 z0.1.tk, .int .i64 z0.1.im, .int .i64 z0.1.cl, .int .u8 kd, .int .u64 z0.1.rv, .bool ys, .slice (some ⟨b, 0, none⟩) us.length us.length, .slice none 0 0, .int .i64 0] := by rw [← e]; exact flatMap_at (rpc_len kd ys) _ 0 z0 hz0
        have hS1 : ∀ y ∈ [(b, ucells us, tyO)], H1 y.1 = some (.cells y.2.1.toArray y.2.2) ∧ B y.1 = none := fun y hy => by
          rw [List.mem_singleton.1 hy]; exact ⟨hbo, hnz _ _ _ _ _ e⟩
        have hl3 := hl2.off (S := [(b, ucells us, tyO)]) fun y hy b2 o2 k2 m2 c2' e2 => by
          rw [List.mem_singleton.1 hy]; exact hap 0 z0 hz0 _ _ _ _ _ _ _ _ _ _ e e2
        have hu3 : SlV tyO 2 (ucells us) us.length true z1.2 (H1.off [(b, ucells us, tyO)]) := (hz.nw 1 z1 hz1).1.off fun y hy b2 o2 k2 m2 c2' e2 => by
          rw [List.mem_singleton.1 hy]; exact hz.ap 0 1 z0 z1 (by decide) hz0 hz1 _ _ _ _ _ _ _ _ _ _ e e2
        have hle3 : B.Le (H1.off [(b, ucells us, tyO)]) := Heap.le_off g1.le fun y hy => (hS1 y hy).2
        have hu4 := hu.le hle3
        obtain ⟨pz, cz, ez⟩ := slv_sh hu3
        have hc9' : ((zs.flatMap (rpc kd ys)).drop (1 * 9)).take 9 = [.int .i64 z1.1.tk, .int .i64 z1.1.im, .int .i64 z1.1.cl, .int .u8 kd, .int .u64 z1.1.rv, .bool ys, .slice pz us.length cz, .slice none 0 0, .int .i64 0] := by rw [← ez]; exact flatMap_at (rpc_len kd ys) _ 1 z1 hz1
        rw [ez] at hu3
        have hcu := uc_at hx0
        have heqo : eqCs [0, 0] [.string x0.1, .string x0.2] [.string x0.1, .string x0.2] = some true := (eqO x0 x0).trans (by rw [decide_eq_true rfl])
        refine V_unpub (B0 := B) (κ1 := ofL [(4, .is (.pointer (some ⟨b4, 0, none⟩))), (5, .is (.pointer (some ⟨b5, 0, none⟩))), (7, .is (.slice p7 zs.length c7))]) 900 [(b, ucells us, tyO)] g1 hS1 (hfree_of ⟨rfl, rfl, rfl, trivial⟩ (by intro p hp; simp only [List.mem_cons, List.mem_nil_iff, or_false] at hp; rcases hp with rfl | rfl | rfl <;> trivial)) ?_
        refine V_splitL 900 901 (by decide) (S := []) (fun y hy => by cases hy) rfl ?_
        have hul := uc_len us
        have hble : Nat.ble (0 + 0 * 2 + 1 + 1) (ucells us).length = true := Nat.ble_eq_true_of_le (by omega)
        refine V_region (id := 13) ?_; refine vo_step (StepOK.seeV (ok_move rfl rfl rfl) hl3) rfl ?_; refine vo_step (ok_indexV L 0 rfl rfl rfl rfl rfl rfl rfl (by first | omega | decide) (by assumption)) rfl ?_; refine vo_step (ok_fieldAP L rfl rfl rfl rfl) rfl ?_; refine vo_step (ok_loadP1 L rfl rfl rfl rfl rfl) rfl ?_; refine vo_step (ok_indexAt L _ rfl rfl rfl rfl rfl rfl rfl (by omega)) rfl ?_; refine vo_step (ok_fieldP L rfl rfl rfl rfl) rfl ?_; refine vo_stepS (ok_storeH L (q := 901) rfl rfl rfl rfl rfl rfl hble rfl rfl) ?_; refine vo_nil ?_; refine N_seq ?_; refine V_seq ?_
        refine V_regionD (id := 14) [] mixed (by kernel_rfl) ?_; refine par_step (StepOK.seeV (ok_move rfl rfl rfl) hl3) rfl ?_; refine par_step (ok_indexV L _ rfl rfl rfl rfl rfl rfl rfl (by first | omega | decide) (by assumption)) rfl ?_; refine par_step (ok_fieldAP L rfl rfl rfl rfl) rfl ?_; refine par_step (StepOK.seeV (ok_loadP1 L rfl rfl rfl rfl rfl) (by assumption)) rfl ?_; refine par_step (ok_indexV L _ rfl rfl rfl rfl rfl rfl rfl (by first | omega | decide) (by assumption)) rfl ?_; refine par_step (ok_loadPA L (vs := [_, _]) rfl rfl rfl rfl rfl ⟨_, rfl⟩) rfl ?_; refine par_step (ok_fieldP L rfl rfl rfl rfl) rfl ?_; refine par_step (StepOK.seeV (ok_load1 L (src_box rfl (List.Mem.tail _ (List.Mem.head _))) rfl rfl rfl rfl) (by assumption)) rfl ?_; refine par_step (ok_indexV L _ rfl rfl rfl rfl rfl rfl rfl (by first | omega | decide) (by assumption)) rfl ?_; refine par_step (ok_loadPA L (vs := [_, _]) rfl rfl rfl rfl rfl ⟨_, rfl⟩) rfl ?_; refine par_step (ok_aneq rfl rfl rfl rfl eq26 (by assumption) rfl) rfl ?_; refine par_nil ?_; refine N_seq ?_; refine V_false rfl ?_; refine V_skip ?_; refine N_seq ?_; refine V_seq ?_
        refine V_regionD (id := 16) [] mixed (by kernel_rfl) ?_; refine par_step (ok_indexAr L _ rfl rfl rfl rfl ar92 rfl rfl (by first | omega | decide)) rfl ?_; refine par_step (ok_loadA L (vs := [_, _]) (src_box rfl (List.Mem.head _)) rfl rfl rfl rfl ⟨_, rfl⟩) rfl ?_; refine par_step (ok_indexAr L _ rfl rfl rfl rfl ar92 rfl rfl (by first | omega | decide)) rfl ?_; refine par_step (ok_loadA L (vs := [_, _]) (src_box rfl (List.Mem.head _)) rfl rfl rfl rfl ⟨_, rfl⟩) rfl ?_; refine par_step (ok_callx L rfl rfl (blt_lt rfl) rfl rfl rfl (fun u H hH hle _ => same_ret hI1.fl hI2.fl (hsb1.le (hle3.trans hle)) (hsb2.le (hle3.trans hle)) hH)) rfl ?_; refine par_step (ok_indexAr L _ rfl rfl rfl rfl ar92 rfl rfl (by first | omega | decide)) rfl ?_; refine par_step (ok_loadA L (vs := [_, _]) (src_box rfl (List.Mem.head _)) rfl rfl rfl rfl ⟨_, rfl⟩) rfl ?_; refine par_step (ok_indexAr L _ rfl rfl rfl rfl ar92 rfl rfl (by first | omega | decide)) rfl ?_; refine par_step (ok_loadA L (vs := [_, _]) (src_box rfl (List.Mem.head _)) rfl rfl rfl rfl ⟨_, rfl⟩) rfl ?_; refine par_step (ok_callx L rfl rfl (blt_lt rfl) rfl rfl rfl (fun u H hH hle _ => rsame_ret hI1.fl hI2.fl rfl (hsb1.le (hle3.trans hle)) (hsb2.le (hle3.trans hle)) hH)) rfl ?_; refine par_step (ok_eql rfl rfl rfl rfl same01) rfl ?_; refine par_step (ok_beql rfl rfl rfl rfl bt4 (beq_self_eq_true _)) rfl ?_; refine par_step (ok_move rfl rfl rfl) rfl ?_; refine par_step (ok_indexAr L _ rfl rfl rfl rfl ar92 rfl rfl (by first | omega | decide)) rfl ?_; refine par_step (ok_loadA L (vs := [_, _]) (src_box rfl (List.Mem.head _)) rfl rfl rfl rfl ⟨_, rfl⟩) rfl ?_; refine par_step (ok_indexAr L _ rfl rfl rfl rfl ar92 rfl rfl (by first | omega | decide)) rfl ?_; refine par_step (ok_loadA L (vs := [_, _]) (src_box rfl (List.Mem.head _)) rfl rfl rfl rfl ⟨_, rfl⟩) rfl ?_; refine par_step (ok_callx (r := .bool true) L rfl rfl (blt_lt rfl) rfl rfl rfl (fun u H hH hle _ => (by have h9 := same_ret hI2.fl hI2.fl (hsb2.le (hle3.trans hle)) (hsb2.le (hle3.trans hle)) hH; rw [decide_eq_true (⟨rfl, rfl⟩ : t2.nx = t2.nx ∧ t2.fl = t2.fl)] at h9; exact h9))) rfl ?_; refine par_step (ok_pick rfl rfl rfl rfl) rfl ?_; refine par_step (ok_move rfl rfl rfl) rfl ?_; refine par_step (ok_callx L rfl rfl (blt_lt rfl) rfl rfl rfl (fun u H hH _ _ => lives_law hH)) rfl ?_; refine par_step (ok_pick rfl rfl rfl rfl) rfl ?_; refine par_step (ok_assign rfl rfl rfl) rfl ?_; refine par_nil ?_; refine N_seq ?_
        refine V_ret L (rs := [.tmp 6]) rfl (fun _ _ h => h) (since_off g1 fun y hy => (hS1 y hy).2) fun u H hH hle => ?_
        rfl
      · refine V_region (id := 12) ?_; refine vo_step (StepOK.seeV (ok_move rfl rfl rfl) hl2) rfl ?_; refine vo_step (ok_lenV L rfl rfl rfl rfl) rfl ?_; refine vo_step (ok_gtr rfl rfl rfl rfl (decide_eq_true (by omega))) rfl ?_; refine vo_step (ok_move rfl rfl rfl) rfl ?_; refine vo_step (ok_fieldP L rfl rfl rfl rfl) rfl ?_; refine vo_step (StepOK.seeV (ok_load1 L (src_box rfl (List.Mem.tail _ (List.Mem.head _))) rfl rfl rfl rfl) (by assumption)) rfl ?_; refine vo_step (ok_lenV L rfl rfl rfl rfl) rfl ?_; refine vo_step (ok_gtr rfl rfl rfl rfl (decide_eq_false (by omega))) rfl ?_; refine vo_step (ok_pick rfl rfl rfl rfl) rfl ?_; refine vo_nil ?_; refine N_seq ?_; refine V_false rfl ?_; refine V_skip ?_; refine N_seq ?_; refine V_seq ?_
        refine V_regionD (id := 16) [] mixed (by kernel_rfl) ?_; refine par_step (ok_indexAr L _ rfl rfl rfl rfl ar92 rfl rfl (by first | omega | decide)) rfl ?_; refine par_step (ok_loadA L (vs := [_, _]) (src_box rfl (List.Mem.head _)) rfl rfl rfl rfl ⟨_, rfl⟩) rfl ?_; refine par_step (ok_indexAr L _ rfl rfl rfl rfl ar92 rfl rfl (by first | omega | decide)) rfl ?_; refine par_step (ok_loadA L (vs := [_, _]) (src_box rfl (List.Mem.head _)) rfl rfl rfl rfl ⟨_, rfl⟩) rfl ?_; refine par_step (ok_callx L rfl rfl (blt_lt rfl) rfl rfl rfl (fun u H hH hle _ => same_ret hI1.fl hI2.fl (hsb1.le (g1.le.trans hle)) (hsb2.le (g1.le.trans hle)) hH)) rfl ?_; refine par_step (ok_indexAr L _ rfl rfl rfl rfl ar92 rfl rfl (by first | omega | decide)) rfl ?_; refine par_step (ok_loadA L (vs := [_, _]) (src_box rfl (List.Mem.head _)) rfl rfl rfl rfl ⟨_, rfl⟩) rfl ?_; refine par_step (ok_indexAr L _ rfl rfl rfl rfl ar92 rfl rfl (by first | omega | decide)) rfl ?_; refine par_step (ok_loadA L (vs := [_, _]) (src_box rfl (List.Mem.head _)) rfl rfl rfl rfl ⟨_, rfl⟩) rfl ?_; refine par_step (ok_callx L rfl rfl (blt_lt rfl) rfl rfl rfl (fun u H hH hle _ => rsame_ret hI1.fl hI2.fl rfl (hsb1.le (g1.le.trans hle)) (hsb2.le (g1.le.trans hle)) hH)) rfl ?_; refine par_step (ok_eql rfl rfl rfl rfl same01) rfl ?_; refine par_step (ok_beql rfl rfl rfl rfl bt4 (beq_self_eq_true _)) rfl ?_; refine par_step (ok_move rfl rfl rfl) rfl ?_; refine par_step (ok_indexAr L _ rfl rfl rfl rfl ar92 rfl rfl (by first | omega | decide)) rfl ?_; refine par_step (ok_loadA L (vs := [_, _]) (src_box rfl (List.Mem.head _)) rfl rfl rfl rfl ⟨_, rfl⟩) rfl ?_; refine par_step (ok_indexAr L _ rfl rfl rfl rfl ar92 rfl rfl (by first | omega | decide)) rfl ?_; refine par_step (ok_loadA L (vs := [_, _]) (src_box rfl (List.Mem.head _)) rfl rfl rfl rfl ⟨_, rfl⟩) rfl ?_; refine par_step (ok_callx (r := .bool true) L rfl rfl (blt_lt rfl) rfl rfl rfl (fun u H hH hle _ => (by have h9 := same_ret hI2.fl hI2.fl (hsb2.le (g1.le.trans hle)) (hsb2.le (g1.le.trans hle)) hH; rw [decide_eq_true (⟨rfl, rfl⟩ : t2.nx = t2.nx ∧ t2.fl = t2.fl)] at h9; exact h9))) rfl ?_; refine par_step (ok_pick rfl rfl rfl rfl) rfl ?_; refine par_step (ok_move rfl rfl rfl) rfl ?_; refine par_step (ok_callx L rfl rfl (blt_lt rfl) rfl rfl rfl (fun u H hH _ _ => lives_law hH)) rfl ?_; refine par_step (ok_pick rfl rfl rfl rfl) rfl ?_; refine par_step (ok_assign rfl rfl rfl) rfl ?_; refine par_nil ?_; refine N_seq ?_
        refine V_ret L (rs := [.tmp 6]) rfl (fun _ _ h => h) g1 fun u H hH hle => ?_
        rfl
    · refine V_region (id := 12) ?_; refine vo_step (StepOK.seeV (ok_move rfl rfl rfl) hl2) rfl ?_; refine vo_step (ok_lenV L rfl rfl rfl rfl) rfl ?_; refine vo_step (ok_gtr rfl rfl rfl rfl (decide_eq_false (by omega))) rfl ?_; refine vo_step (ok_move rfl rfl rfl) rfl ?_; refine vo_step (ok_skip rfl (blt_lt rfl) rfl) rfl ?_; refine vo_step (ok_skip rfl (blt_lt rfl) rfl) rfl ?_; refine vo_step (ok_skip rfl (blt_lt rfl) rfl) rfl ?_; refine vo_step (ok_skip rfl (blt_lt rfl) rfl) rfl ?_; refine vo_step (ok_pick rfl rfl rfl rfl) rfl ?_; refine vo_nil ?_; refine N_seq ?_; refine V_false rfl ?_; refine V_skip ?_; refine N_seq ?_; refine V_seq ?_
      refine V_regionD (id := 16) [] mixed (by kernel_rfl) ?_; refine par_step (ok_indexAr L _ rfl rfl rfl rfl ar92 rfl rfl (by first | omega | decide)) rfl ?_; refine par_step (ok_loadA L (vs := [_, _]) (src_box rfl (List.Mem.head _)) rfl rfl rfl rfl ⟨_, rfl⟩) rfl ?_; refine par_step (ok_indexAr L _ rfl rfl rfl rfl ar92 rfl rfl (by first | omega | decide)) rfl ?_; refine par_step (ok_loadA L (vs := [_, _]) (src_box rfl (List.Mem.head _)) rfl rfl rfl rfl ⟨_, rfl⟩) rfl ?_; refine par_step (ok_callx L rfl rfl (blt_lt rfl) rfl rfl rfl (fun u H hH hle _ => same_ret hI1.fl hI2.fl (hsb1.le (g1.le.trans hle)) (hsb2.le (g1.le.trans hle)) hH)) rfl ?_; refine par_step (ok_indexAr L _ rfl rfl rfl rfl ar92 rfl rfl (by first | omega | decide)) rfl ?_; refine par_step (ok_loadA L (vs := [_, _]) (src_box rfl (List.Mem.head _)) rfl rfl rfl rfl ⟨_, rfl⟩) rfl ?_; refine par_step (ok_indexAr L _ rfl rfl rfl rfl ar92 rfl rfl (by first | omega | decide)) rfl ?_; refine par_step (ok_loadA L (vs := [_, _]) (src_box rfl (List.Mem.head _)) rfl rfl rfl rfl ⟨_, rfl⟩) rfl ?_; refine par_step (ok_callx L rfl rfl (blt_lt rfl) rfl rfl rfl (fun u H hH hle _ => rsame_ret hI1.fl hI2.fl rfl (hsb1.le (g1.le.trans hle)) (hsb2.le (g1.le.trans hle)) hH)) rfl ?_; refine par_step (ok_eql rfl rfl rfl rfl same01) rfl ?_; refine par_step (ok_beql rfl rfl rfl rfl bt4 (beq_self_eq_true _)) rfl ?_; refine par_step (ok_move rfl rfl rfl) rfl ?_; refine par_step (ok_indexAr L _ rfl rfl rfl rfl ar92 rfl rfl (by first | omega | decide)) rfl ?_; refine par_step (ok_loadA L (vs := [_, _]) (src_box rfl (List.Mem.head _)) rfl rfl rfl rfl ⟨_, rfl⟩) rfl ?_; refine par_step (ok_indexAr L _ rfl rfl rfl rfl ar92 rfl rfl (by first | omega | decide)) rfl ?_; refine par_step (ok_loadA L (vs := [_, _]) (src_box rfl (List.Mem.head _)) rfl rfl rfl rfl ⟨_, rfl⟩) rfl ?_; refine par_step (ok_callx (r := .bool true) L rfl rfl (blt_lt rfl) rfl rfl rfl (fun u H hH hle _ => (by have h9 := same_ret hI2.fl hI2.fl (hsb2.le (g1.le.trans hle)) (hsb2.le (g1.le.trans hle)) hH; rw [decide_eq_true (⟨rfl, rfl⟩ : t2.nx = t2.nx ∧ t2.fl = t2.fl)] at h9; exact h9))) rfl ?_; refine par_step (ok_pick rfl rfl rfl rfl) rfl ?_; refine par_step (ok_move rfl rfl rfl) rfl ?_; refine par_step (ok_callx L rfl rfl (blt_lt rfl) rfl rfl rfl (fun u H hH _ _ => lives_law hH)) rfl ?_; refine par_step (ok_pick rfl rfl rfl rfl) rfl ?_; refine par_step (ok_assign rfl rfl rfl) rfl ?_; refine par_nil ?_; refine N_seq ?_
      refine V_ret L (rs := [.tmp 6]) rfl (fun _ _ h => h) g1 fun u H hH hle => ?_
      rfl
end Go.V.L39
/- What is handed in to FlightsJoin and FlightsFan. -/
namespace Go.V.L39
open Go.Proofs Go.ChangeShapes Go.WideShapes Go.ChangeAt Go.ChangeMaps Go.RowKit Go.V
abbrev UsP (H : Heap) : List Value → Prop := fun vs => ∃ v, vs = [v] ∧ SlD tyO 2 (Try.prog.bytesOf tyO) (LeafsOK [.s, .s]) H v
abbrev YPs (H : Heap) : List (Nat × (List Value → Prop)) := [(1, LeafsOK [.i .u8]), (1, LeafsOK [.b]), (1, UsP H)]
section
variable {H : Type} {enc : TypeId × Value → H} {W : World} {held : Bool}
theorem reads_us : Reads enc Try.prog W held 89 1 (UsP (hp W)) := reads_slice Try.underlying89 (by kernel_rfl) (reads_leaf (ls := [.s, .s]) (by kernel_rfl) (by kernel_rfl)) (by decide)
theorem reads_y : Reads enc Try.prog W held 91 3 (Parts (YPs (hp W))) := reads_struct Try.underlying91
  (.cons rfl (reads_leaf (ls := [.i .u8]) (by kernel_rfl) (by kernel_rfl)) (.cons rfl (reads_leaf (ls := [.b]) (by kernel_rfl) (by kernel_rfl)) (.cons rfl reads_us .nil))) (by kernel_rfl)
theorem reads_zz : Reads enc Try.prog W held 92 4 (RepP 2 (Parts (TbPs (hp W))) 2) := reads_array Try.underlying92 reads_tb (by kernel_rfl)
end
theorem users_of {H : Heap} {v : Value} (h : SlD tyO 2 (Try.prog.bytesOf tyO) (LeafsOK [.s, .s]) H v) : ∃ us : List Str2, SlV tyO 2 (ucells us) us.length false v H := by
  obtain ⟨cs, h1, h2, h3, h4⟩ := h
  obtain ⟨l, g1, g2, g3⟩ := each_of (f := fun x : Str2 => [Value.string x.1, Value.string x.2]) (Φ := LeafsOK [.s, .s]) (Ψ := fun _ => True) (fun c hc => by
    obtain ⟨s1, r, rfl, _, hc⟩ := leaf_s hc
    obtain ⟨s2, r, rfl, _, hc⟩ := leaf_s hc
    obtain rfl := leaf_nil hc
    exact ⟨(s1, s2), rfl, trivial⟩) cs fun c hc => (h1 c hc).2
  rw [g1, ← g2] at h4
  exact ⟨l, h4⟩
theorem flightsFan_in {W : World} {cf cy cz : List Value} (l0 : Parts (FlPs (hp W)) cf) (l1 : Parts (YPs (hp W)) cy) (l2 : RepP 2 (Parts (TbPs (hp W))) 2 cz) : Ret Try.prog 8 [.agg cf.toArray, .agg cy.toArray, .agg cz.toArray] W (hp W) (fun v _ => v = .bool true) := by
  obtain ⟨⟨f, sv⟩, rfl, h1⟩ := fl_of l0
  obtain ⟨a1, b, rfl, -, h2, a2, b, rfl, -, h3, a3, b, rfl, -, ⟨uv, rfl, h4⟩, rfl⟩ := l1
  obtain ⟨kd, rfl, _⟩ := leaf_int h2
  obtain ⟨ys, r, rfl, h3'⟩ := leaf_b h3
  obtain rfl := leaf_nil h3'
  obtain ⟨us, hu⟩ := users_of h4
  obtain ⟨a, b, rfl, -, h5, c, d, rfl, -, h6, rfl⟩ := l2
  obtain ⟨t1, s1, zs1, rfl, hI1, _⟩ := tb_of h5
  obtain ⟨t2, s2, zs2, rfl, hI2, _⟩ := tb_of h6
  exact fan_law h1.is h1.ln hu hI1 hI2 (Heap.Le.refl _)
end Go.V.L39
namespace Go.Proofs.Ytfihdmobfmkclaa.flightsFan
open Go.ChangeShapes Go.WideShapes Go.ChangeAt Go.ChangeMaps Go.RowKit Go.V Go.V.L39
theorem own : ownKnob Try.prog.godebug = none := by kernel_rfl
theorem laidOut : laidOutB Try.prog = true := by kernel_rfl
theorem la0 : (match Try.prog.underlying 49 with | some (.struct _) | some (.array _ _) => true | _ => false) = true := by kernel_rfl
theorem lr1 : Try.prog.readableRec 49 = true := by kernel_rfl
theorem lt1 : 49 < Try.prog.types.size := of_decide_eq_true (by kernel_rfl)
theorem la2 : (match Try.prog.underlying 91 with | some (.struct _) | some (.array _ _) => true | _ => false) = true := by kernel_rfl
theorem lr3 : Try.prog.readableRec 91 = true := by kernel_rfl
theorem lt3 : 91 < Try.prog.types.size := of_decide_eq_true (by kernel_rfl)
theorem la4 : (match Try.prog.underlying 92 with | some (.struct _) | some (.array _ _) => true | _ => false) = true := by kernel_rfl
theorem lr5 : Try.prog.readableRec 92 = true := by kernel_rfl
theorem lt5 : 92 < Try.prog.types.size := of_decide_eq_true (by kernel_rfl)
set_option maxRecDepth 100000 in
theorem lifted (os : Os) (started : os.Started) (H : Type) (enc : TypeId × Value → H) :
    ReturnsInHanded {} Try.checked os 8 .any (Rows.flightsFanSpec.pre6 enc Try.prog Try.f8 Rows.flightsFanRow.domain false) (Rows.flightsFanSpec.post enc Try.prog Try.f8 false true false false) := by
  refine returnsInHanded_of_change_shaped (C := Try.checked) own started (by kernel_rfl) Try.func8
    (ChangeSpec.witness6 (enc := enc) (C := Try.checked) false ⟨#[], #[.agg #[.int .i64 0, .int .u64 0, .int .u8 0, .string ⟨#[]⟩, .string ⟨#[]⟩, .string ⟨#[]⟩, .string ⟨#[]⟩, .string ⟨#[]⟩, .int .i64 0, .int .i64 0, .int .i64 0, .int .i64 0, .int .i64 0, .slice none 0 0], .agg #[.int .u8 0, .bool false, .slice none 0 0], .agg #[.int .i64 0, .slice none 0 0, .int .i64 0, .slice none 0 0]], []⟩ 8 (by kernel_rfl) (by kernel_rfl) (by kernel_rfl) (by kernel_rfl)) ?_
  intro W base args ds gs before hval0 hW hcnd hsz hsh _
  have hval : ∀ (j : Nat) t v, Try.f8.params[j]? = some t → args[j]? = some v → Value.okWide Try.prog W .any base t v := hval0
  have hW' := hW
  obtain ⟨p, q, hA0, hV, rfl, hfz, hnd⟩ := hW
  have hA : DataW.TrodAll enc Try.prog W 0 (fun _ => true) true Try.f8.params.toList args.toList ds p := hA0
  rw [Try.params8] at hA hval hsz
  obtain ⟨v0, v1, v2, d0, d1, d2, p0, p1, p2, rfl, rfl, rfl, h0, h1, h2⟩ := trodAll_three hA
  obtain ⟨rfl, rfl⟩ := trodVars_none hV
  clear hA0 hval0
  obtain ⟨c0, rfl, l0⟩ := open_agD reads_fl la0 (hval 0 49 v0 rfl rfl) h0 (wt_at hsz 0 rfl rfl)
  obtain ⟨c1, rfl, l1⟩ := open_agD reads_y la2 (hval 1 91 v1 rfl rfl) h1 (wt_at hsz 1 rfl rfl)
  obtain ⟨c2, rfl, l2⟩ := open_agD reads_zz la4 (hval 2 92 v2 rfl rfl) h2 (wt_at hsz 2 rfl rfl)
  have hplc := hW'.lt
  simp only [List.append_nil] at hW'
  have hlaw := Go.V.L39.flightsFan_in l0 l1 l2
  unfold Ret at hlaw
  refine hlaw.mono fun e W' hp => ?_
  obtain ⟨v, rfl, H', g, rfl⟩ := hp
  refine ⟨_, rfl, _, _, _, [], p0 ++ (p1 ++ (p2 ++ ([]))), [], hW', trodAll_cons_mk (shut_bool Try.underlying4 _) trodAll_mk0, ?_, rfl, g.below.frame _, fun h => by cases h⟩
  exact trodAll_cons_mk (Below.trod laidOut lr1 lt1 h0 g.below (fun x hx => hplc x (by simp [hx]))) (trodAll_cons_mk (Below.trod laidOut lr3 lt3 h1 g.below (fun x hx => hplc x (by simp [hx]))) (trodAll_cons_mk (Below.trod laidOut lr5 lt5 h2 g.below (fun x hx => hplc x (by simp [hx]))) trodAll_mk0))
theorem proved : Rows.FlightsFanSaid :=
  OpenClaim.holds_of_wide 8 Try.f8 rfl rfl rfl rfl rfl rfl rfl ⟨rfl, rfl, rfl, rfl, rfl⟩ rfl rfl rfl rfl rfl (by kernel_rfl) Try.func8 (by kernel_rfl)
    (of_decide_eq_true (by kernel_rfl)) (by unfold Func.isWrapper; first | (rw [if_pos (by decide +kernel)]; kernel_rfl) | (rw [if_neg (by decide +kernel)]; exact ⟨rfl, rfl⟩))
    (fun os started H enc _ => lifted os started H enc)
#print axioms proved
end Go.Proofs.Ytfihdmobfmkclaa.flightsFan
