/- FiltersErrors returns true for every input, and leaves it as it was: no condition. -/
import Derived.Test.YtelaiancfbaalaaFiltersErrorsM6
import Derived.ProofKit
import Derived.HandedShaped
import Derived.OpenShut
import Derived.Carry
import Derived.Deep.Slices
import Derived.Test.YtelaiancfbaalaaRows
set_option linter.unusedVariables false
set_option linter.unusedSimpArgs false
/- FiltersErrors (chapter 3). -/
namespace Go.V.L3
open Go.Proofs Go.RowKit Go.V Go.V.L2
attribute [local irreducible] V N X VO Par StepOK Has Ret RetL RetO RetT Src
set_option maxHeartbeats 16000000 in
set_option maxRecDepth 20000 in
theorem filtersErrors_law {f : FT} (mf : FM f) {l : List U} {fl : Bool} (ml : ∀ t ∈ l, TM t) (hl : l.length ≤ 9223372036854775807) {y0 y1 y2 : Nat} (hy0 : y0 ≤ 255) (hy1 : y1 ≤ 255) (hy2 : y2 ≤ 255)
    {lv : Value} {w : World} {B : Heap} (hB : B.Le (hp w)) (hM : GlobM B) (hv : US l fl lv B) :
    Ret Try.prog 6 [fv f, lv, .agg #[.int .u8 y0, .int .u8 y1, .int .u8 y2]] w B (fun v _ => v = .bool true) := by
  have mg := fz_m (fofT_Z y0 y1 y2)
  have eg := fofT_ok y0 y1 y2
  obtain ⟨g, hg⟩ : ∃ g, fofT y0 y1 y2 = g := ⟨_, rfl⟩
  rw [hg] at mg eg
  have hqn := eqF (t := nF) (v := nF) (decide_eq_true rfl)
  refine V_enter Try.func6 rfl Try.ntmps6 (Nat.le_of_ble_eq_true rfl) hB ?_
  refine V_seen 1 (US l fl) rfl SlV.mono hv ?_
  by_cases h20 : l.length > 20
  · refine V_seq ?_; refine V_region (id := 0) ?_; refine vo_step (ok_box rfl rfl rfl rfl) rfl ?_; refine vo_step (ok_box rfl rfl rfl rfl) rfl ?_; refine vo_step (ok_assign rfl rfl rfl) rfl ?_; refine vo_nil ?_; refine N_seq ?_; refine V_seq ?_; refine V_seq ?_; refine V_region (id := 1) ?_; refine vo_step (ok_moves' rfl rfl rfl) rfl ?_; refine vo_step (ok_lenV L rfl rfl rfl rfl) rfl ?_; refine vo_step (ok_gtr rfl rfl rfl rfl (decide_eq_true (by omega))) rfl ?_; refine vo_nil ?_; refine N_seq ?_; refine V_true rfl ?_; refine V_seq ?_; refine V_region (id := 2) ?_; refine vo_step (ok_callx L rfl rfl (blt_lt rfl) rfl rfl rfl (fun u H hH hle _ => lives03_ret hH (hM.mono hle))) rfl ?_; refine vo_step (ok_assign rfl rfl rfl) rfl ?_; refine vo_nil ?_; refine N_seq ?_
    refine V_ret L (rs := [.tmp 6]) rfl (fun _ _ h => h) Since.refl fun u H hH hle => ?_
    rfl
  · have l20 : l.length ≤ 20 := by omega
    obtain ⟨n, hn⟩ : ∃ n, prefN f = n := ⟨_, rfl⟩
    obtain ⟨e, he⟩ : ∃ e, fE f = e := ⟨_, rfl⟩
    by_cases h0 : e = 0
    · subst h0
      obtain ⟨x1, b1, hb1⟩ : ∃ x b, bothF f g = (x, b, 0) := by
        unfold bothF
        rw [if_pos he, if_pos eg]
        split <;> exact ⟨_, _, rfl⟩
      obtain ⟨x2, b2, hb2⟩ : ∃ x b, bothF g f = (x, b, 0) := by
        unfold bothF
        rw [if_pos eg, if_pos he]
        split <;> exact ⟨_, _, rfl⟩
      cases hb : isB l
      · have hI : (if isB l = true then 1 else 0 : Int) = 0 := by rw [hb]; rfl
        have hspan : spanR f l = (0, 0, 18) := by unfold spanR; rw [if_pos he, hb, if_neg (by decide)]
        have hsel : selR f l = ([], 18) := by unfold selR; rw [if_pos he, hb, if_neg (by decide)]
        have hmono : Kn.mono (.sat (US ([] : List U) true)) := SlV.mono
        refine V_seq ?_; refine V_region (id := 0) ?_; refine vo_step (ok_box rfl rfl rfl rfl) rfl ?_; refine vo_step (ok_box rfl rfl rfl rfl) rfl ?_; refine vo_step (ok_assign rfl rfl rfl) rfl ?_; refine vo_nil ?_; refine N_seq ?_; refine V_seq ?_; refine V_seq ?_; refine V_region (id := 1) ?_; refine vo_step (ok_moves' rfl rfl rfl) rfl ?_; refine vo_step (ok_lenV L rfl rfl rfl rfl) rfl ?_; refine vo_step (ok_gtr rfl rfl rfl rfl (decide_eq_false (by omega))) rfl ?_; refine vo_nil ?_; refine N_seq ?_; refine V_false rfl ?_; refine V_skip ?_; refine N_seq ?_; refine V_seq ?_; refine V_region (id := 3) ?_; refine vo_step (ok_loadA L (vs := [_, _, _, _, _, _, _]) (src_at rfl) rfl rfl rfl rfl ⟨_, rfl⟩) rfl ?_; refine vo_step (ok_callx L rfl rfl (blt_lt rfl) rfl rfl rfl (fun u H hH _ _ => rfcheck_ret mf he hH)) rfl ?_; refine vo_step (ok_assign rfl rfl rfl) rfl ?_; refine vo_nil ?_; refine N_seq ?_; refine V_seq ?_; refine V_region (id := 4) ?_; refine vo_step (ok_move rfl rfl rfl) rfl ?_; refine vo_step (ok_assign rfl rfl rfl) rfl ?_; refine vo_nil ?_; refine N_seq ?_; refine V_seq ?_; refine V_seq ?_; refine V_region (id := 5) ?_; refine vo_step (ok_move rfl rfl rfl) rfl ?_; refine vo_step (ok_eql rfl rfl rfl rfl (decide_eq_true (by omega))) rfl ?_; refine vo_step (ok_move rfl rfl rfl) rfl ?_; refine vo_step (ok_moves' rfl rfl rfl) rfl ?_; refine vo_step (ok_callx L rfl rfl (blt_lt rfl) rfl rfl rfl (fun u H hH _ _ v1 h1 => rtis_retM (by omega) ml hI hH h1)) rfl ?_; refine vo_step (ok_eql rfl rfl rfl rfl (decide_eq_true (by omega))) rfl ?_; refine vo_step (ok_pick rfl rfl rfl rfl) rfl ?_; refine vo_nil ?_; refine N_seq ?_; refine V_true rfl ?_; refine V_region (id := 6) ?_; refine vo_step (ok_assign rfl rfl rfl) rfl ?_; refine vo_nil ?_; refine N_seq ?_; refine V_seq ?_; refine V_region (id := 7) ?_; refine vo_step (ok_moves' rfl rfl rfl) rfl ?_; refine vo_step (ok_loadA L (vs := [_, _, _, _, _, _, _]) (src_at rfl) rfl rfl rfl rfl ⟨_, rfl⟩) rfl ?_; refine vo_step (ok_callx L rfl rfl (blt_lt rfl) rfl rfl rfl (fun u H hH _ _ v1 h1 => span_ret' mf (by omega) hspan hH h1)) rfl ?_; refine vo_step (ok_move rfl rfl rfl) rfl ?_; refine vo_step (ok_extract rfl rfl rfl rfl) rfl ?_; refine vo_step (ok_extract rfl rfl rfl rfl) rfl ?_; refine vo_step (ok_extract rfl rfl rfl rfl) rfl ?_; refine vo_step (ok_assign rfl rfl rfl) rfl ?_; refine vo_step (ok_assign rfl rfl rfl) rfl ?_; refine vo_step (ok_assign rfl rfl rfl) rfl ?_; refine vo_nil ?_; refine N_seq ?_; refine V_seq ?_; refine V_region (id := 8) ?_; refine vo_step (ok_moves' rfl rfl rfl) rfl ?_; refine vo_step (ok_loadA L (vs := [_, _, _, _, _, _, _]) (src_at rfl) rfl rfl rfl rfl ⟨_, rfl⟩) rfl ?_; refine vo_step (ok_call (φ := TupS [US [] true, fun v _ => v = .int .i64 18]) L rfl rfl (blt_lt rfl) rfl rfl rfl (LE2.mono SlV.mono) (fun u H hH _ _ v1 h1 => select_ret mf (by omega) hsel hH h1)) rfl ?_; refine vo_step (ok_moves' rfl rfl rfl) rfl ?_; refine vo_step (ok_extracts rfl rfl rfl rfl (by assumption)) rfl ?_; refine vo_step (ok_extractx rfl rfl rfl rfl) rfl ?_; refine vo_step (ok_assigns' rfl rfl rfl) rfl ?_; refine vo_step (ok_assign rfl rfl rfl) rfl ?_; refine vo_nil ?_; refine N_seq ?_; refine V_seq ?_; refine V_regionD (id := 9) [] mixed (by kernel_rfl) ?_; refine par_step (ok_loadA L (vs := [_, _, _, _, _, _, _]) (src_at rfl) rfl rfl rfl rfl ⟨_, rfl⟩) rfl ?_; refine par_step (ok_loadA L (vs := [_, _, _]) (src_at rfl) rfl rfl rfl rfl ⟨_, rfl⟩) rfl ?_; refine par_step (ok_callx L rfl rfl (blt_lt rfl) rfl rfl rfl (fun u H hH _ _ => fof_ret hg hy0 hy1 hy2 hH)) rfl ?_; refine par_step (ok_callx L rfl rfl (blt_lt rfl) rfl rfl rfl (fun u H hH _ _ => both_ret mf mg hb1 hH)) rfl ?_; refine par_step (ok_move rfl rfl rfl) rfl ?_; refine par_step (ok_extract rfl rfl rfl rfl) rfl ?_; refine par_step (ok_extract rfl rfl rfl rfl) rfl ?_; refine par_step (ok_extract rfl rfl rfl rfl) rfl ?_; refine par_step (ok_alloc L rfl rfl rfl rfl) rfl ?_; refine par_step (ok_store L rfl rfl rfl rfl rfl rfl rfl rfl) rfl ?_; refine par_step (ok_assign rfl rfl rfl) rfl ?_; refine par_step (ok_assign rfl rfl rfl) rfl ?_; refine par_nil ?_; refine N_seq ?_; refine V_seq ?_; refine V_regionD (id := 10) [] mixed (by kernel_rfl) ?_; refine par_step (ok_loadA L (vs := [_, _, _]) (src_at rfl) rfl rfl rfl rfl ⟨_, rfl⟩) rfl ?_; refine par_step (ok_callx L rfl rfl (blt_lt rfl) rfl rfl rfl (fun u H hH _ _ => fof_ret hg hy0 hy1 hy2 hH)) rfl ?_; refine par_step (ok_loadA L (vs := [_, _, _, _, _, _, _]) (src_at rfl) rfl rfl rfl rfl ⟨_, rfl⟩) rfl ?_; refine par_step (ok_callx L rfl rfl (blt_lt rfl) rfl rfl rfl (fun u H hH _ _ => both_ret mg mf hb2 hH)) rfl ?_; refine par_step (ok_move rfl rfl rfl) rfl ?_; refine par_step (ok_extract rfl rfl rfl rfl) rfl ?_; refine par_step (ok_extract rfl rfl rfl rfl) rfl ?_; refine par_step (ok_extract rfl rfl rfl rfl) rfl ?_; refine par_step (ok_alloc L rfl rfl rfl rfl) rfl ?_; refine par_step (ok_store L rfl rfl rfl rfl rfl rfl rfl rfl) rfl ?_; refine par_step (ok_assign rfl rfl rfl) rfl ?_; refine par_step (ok_assign rfl rfl rfl) rfl ?_; refine par_nil ?_; refine N_seq ?_; refine V_seq ?_; refine V_seq ?_; refine V_regionD (id := 11) [] mixed (by kernel_rfl) ?_; refine par_step (ok_move rfl rfl rfl) rfl ?_; refine par_step (ok_move rfl rfl rfl) rfl ?_; refine par_step (ok_neq rfl rfl rfl rfl (decide_eq_false (by omega))) rfl ?_; refine par_step (ok_move rfl rfl rfl) rfl ?_; refine par_step (ok_move rfl rfl rfl) rfl ?_; refine par_step (ok_move rfl rfl rfl) rfl ?_; refine par_step (ok_neq rfl rfl rfl rfl (decide_eq_false (by omega))) rfl ?_; refine par_step (ok_pick rfl rfl rfl rfl) rfl ?_; refine par_step (ok_move rfl rfl rfl) rfl ?_; refine par_step (ok_move rfl rfl rfl) rfl ?_; refine par_step (ok_move rfl rfl rfl) rfl ?_; refine par_step (ok_neq rfl rfl rfl rfl (decide_eq_false (by omega))) rfl ?_; refine par_step (ok_pick rfl rfl rfl rfl) rfl ?_; refine par_step (ok_move rfl rfl rfl) rfl ?_; refine par_step (ok_move rfl rfl rfl) rfl ?_; refine par_step (ok_move rfl rfl rfl) rfl ?_; refine par_step (ok_neq rfl rfl rfl rfl (decide_eq_false (by omega))) rfl ?_; refine par_step (ok_pick rfl rfl rfl rfl) rfl ?_; refine par_step (ok_move rfl rfl rfl) rfl ?_; refine par_step (ok_move rfl rfl rfl) rfl ?_; refine par_step (ok_neq rfl rfl rfl rfl (decide_eq_true (by omega))) rfl ?_; refine par_step (ok_move rfl rfl rfl) rfl ?_; refine par_step (ok_move rfl rfl rfl) rfl ?_; refine par_step (ok_move rfl rfl rfl) rfl ?_; refine par_step (ok_add rfl rfl rfl rfl (wrap_i64 (by omega) (by omega))) rfl ?_; refine par_step (ok_moves' rfl rfl rfl) rfl ?_; refine par_step (ok_lenV L rfl rfl rfl rfl) rfl ?_; refine par_step (ok_add rfl rfl rfl rfl rfl) rfl ?_; refine par_step (ok_gtr rfl rfl rfl rfl rfl) rfl ?_; refine par_step (ok_pick rfl rfl rfl rfl) rfl ?_; refine par_step (ok_pick rfl rfl rfl rfl) rfl ?_; refine par_step (ok_move rfl rfl rfl) rfl ?_; refine par_step (ok_move rfl rfl rfl) rfl ?_; refine par_step (ok_neq rfl rfl rfl rfl (decide_eq_false (by omega))) rfl ?_; refine par_step (ok_move rfl rfl rfl) rfl ?_; refine par_step (ok_skip rfl (blt_lt rfl) rfl) rfl ?_; refine par_step (ok_skip rfl (blt_lt rfl) rfl) rfl ?_; refine par_step (ok_skip rfl (blt_lt rfl) rfl) rfl ?_; refine par_step (ok_skip rfl (blt_lt rfl) rfl) rfl ?_; refine par_step (ok_skip rfl (blt_lt rfl) rfl) rfl ?_; refine par_step (ok_skip rfl (blt_lt rfl) rfl) rfl ?_; refine par_step (ok_pick rfl rfl rfl rfl) rfl ?_; refine par_step (ok_pick rfl rfl rfl rfl) rfl ?_; refine par_step (ok_move rfl rfl rfl) rfl ?_; refine par_step (ok_loadA L (vs := [_, _, _, _, _, _, _]) (src_at rfl) rfl rfl rfl rfl ⟨_, rfl⟩) rfl ?_; refine par_step (ok_callx L rfl rfl (blt_lt rfl) rfl rfl rfl (fun u H hH _ _ => prefix_ret hn hH)) rfl ?_; refine par_step (ok_loadA L (vs := [_, _, _, _, _, _, _]) (src_at rfl) rfl rfl rfl rfl ⟨_, rfl⟩) rfl ?_; refine par_step (ok_callx L rfl rfl (blt_lt rfl) rfl rfl rfl (fun u H hH _ _ => rprefix_ret hn hH)) rfl ?_; refine par_step (ok_neq rfl rfl rfl rfl (decide_eq_false (by omega))) rfl ?_; refine par_step (ok_pick rfl rfl rfl rfl) rfl ?_; refine par_nil ?_; refine N_seq ?_; refine V_false rfl ?_; refine V_skip ?_; refine N_seq ?_; refine V_seq ?_; refine V_seq ?_; refine V_region (id := 13) ?_; refine vo_step (ok_assign rfl rfl rfl) rfl ?_; refine vo_nil ?_; refine N_seq ?_; refine V_block ?_
        refine V_loop (fun i : Nat => [(1, .sat (US l fl)), (3, .sat (At (fcs f) tyF 0)), (20, .is (.int .i64 i))]) (fun i => i ≤ l.length) (fun i => l.length - i) 0 (Nat.zero_le _) ⟨rfl, rfl, rfl, trivial⟩ ?_
        rintro i hi
        by_cases hlt : i < l.length
        · obtain ⟨t, ht⟩ := get_some hlt
          have hc := us_at ht
          cases t1 : takesB f t
          · have e1 : (if takesB f t = true then 1 else 0 : Int) = 0 := by rw [t1]; rfl
            refine V_seq ?_; refine V_seq ?_; refine V_region (id := 14) ?_; refine vo_step (ok_move rfl rfl rfl) rfl ?_; refine vo_step (ok_moves' rfl rfl rfl) rfl ?_; refine vo_step (ok_lenV L rfl rfl rfl rfl) rfl ?_; refine vo_step (ok_lss rfl rfl rfl rfl (decide_eq_true (by omega))) rfl ?_; refine vo_nil ?_; refine N_seq ?_; refine V_true rfl ?_; refine V_skip ?_; refine N_seq ?_; refine V_seq ?_; refine V_block ?_; refine V_seq ?_; refine V_regionD (id := 16) [] mixed (by kernel_rfl) ?_; refine par_step (ok_loadA L (vs := [_, _, _, _, _, _, _]) (src_at rfl) rfl rfl rfl rfl ⟨_, rfl⟩) rfl ?_; refine par_step (ok_moves' rfl rfl rfl) rfl ?_; refine par_step (ok_move rfl rfl rfl) rfl ?_; refine par_step (ok_indexV L _ rfl rfl rfl rfl rfl rfl rfl (by first | omega | decide) (by assumption)) rfl ?_; refine par_step (ok_loadPA L (vs := [_, _, _, _, _, _]) rfl rfl rfl rfl rfl ⟨_, rfl⟩) rfl ?_; refine par_step (ok_callx L rfl rfl (blt_lt rfl) rfl rfl rfl (fun u H hH _ _ => takes_ret t1 hH)) rfl ?_; refine par_step (ok_loadA L (vs := [_, _, _, _, _, _, _]) (src_at rfl) rfl rfl rfl rfl ⟨_, rfl⟩) rfl ?_; refine par_step (ok_moves' rfl rfl rfl) rfl ?_; refine par_step (ok_move rfl rfl rfl) rfl ?_; refine par_step (ok_indexV L _ rfl rfl rfl rfl rfl rfl rfl (by first | omega | decide) (by assumption)) rfl ?_; refine par_step (ok_loadPA L (vs := [_, _, _, _, _, _]) rfl rfl rfl rfl rfl ⟨_, rfl⟩) rfl ?_; refine par_step (ok_callx L rfl rfl (blt_lt rfl) rfl rfl rfl (fun u H hH _ _ => rtakes_ret e1 hH)) rfl ?_; refine par_step (ok_eql rfl rfl rfl rfl (decide_eq_false (by omega))) rfl ?_; refine par_step (ok_bneq rfl rfl rfl rfl bt4 rfl) rfl ?_; refine par_nil ?_; refine N_seq ?_; refine V_false rfl ?_; refine V_skip ?_; refine N_block ?_; refine N_seq ?_; refine V_region (id := 15) ?_; refine vo_step (ok_move rfl rfl rfl) rfl ?_; refine vo_step (ok_add rfl rfl rfl rfl (wrap_i64 (by omega) (by omega))) rfl ?_; refine vo_step (ok_assign rfl rfl rfl) rfl ?_; refine vo_nil ?_
            exact N_round (x := i) (i + 1) hlt (by omega) ⟨rfl, rfl, rfl, trivial⟩
          · have e1 : (if takesB f t = true then 1 else 0 : Int) = 1 := by rw [t1]; rfl
            refine V_seq ?_; refine V_seq ?_; refine V_region (id := 14) ?_; refine vo_step (ok_move rfl rfl rfl) rfl ?_; refine vo_step (ok_moves' rfl rfl rfl) rfl ?_; refine vo_step (ok_lenV L rfl rfl rfl rfl) rfl ?_; refine vo_step (ok_lss rfl rfl rfl rfl (decide_eq_true (by omega))) rfl ?_; refine vo_nil ?_; refine N_seq ?_; refine V_true rfl ?_; refine V_skip ?_; refine N_seq ?_; refine V_seq ?_; refine V_block ?_; refine V_seq ?_; refine V_regionD (id := 16) [] mixed (by kernel_rfl) ?_; refine par_step (ok_loadA L (vs := [_, _, _, _, _, _, _]) (src_at rfl) rfl rfl rfl rfl ⟨_, rfl⟩) rfl ?_; refine par_step (ok_moves' rfl rfl rfl) rfl ?_; refine par_step (ok_move rfl rfl rfl) rfl ?_; refine par_step (ok_indexV L _ rfl rfl rfl rfl rfl rfl rfl (by first | omega | decide) (by assumption)) rfl ?_; refine par_step (ok_loadPA L (vs := [_, _, _, _, _, _]) rfl rfl rfl rfl rfl ⟨_, rfl⟩) rfl ?_; refine par_step (ok_callx L rfl rfl (blt_lt rfl) rfl rfl rfl (fun u H hH _ _ => takes_ret t1 hH)) rfl ?_; refine par_step (ok_loadA L (vs := [_, _, _, _, _, _, _]) (src_at rfl) rfl rfl rfl rfl ⟨_, rfl⟩) rfl ?_; refine par_step (ok_moves' rfl rfl rfl) rfl ?_; refine par_step (ok_move rfl rfl rfl) rfl ?_; refine par_step (ok_indexV L _ rfl rfl rfl rfl rfl rfl rfl (by first | omega | decide) (by assumption)) rfl ?_; refine par_step (ok_loadPA L (vs := [_, _, _, _, _, _]) rfl rfl rfl rfl rfl ⟨_, rfl⟩) rfl ?_; refine par_step (ok_callx L rfl rfl (blt_lt rfl) rfl rfl rfl (fun u H hH _ _ => rtakes_ret e1 hH)) rfl ?_; refine par_step (ok_eql rfl rfl rfl rfl (decide_eq_true (by omega))) rfl ?_; refine par_step (ok_bneq rfl rfl rfl rfl bt4 rfl) rfl ?_; refine par_nil ?_; refine N_seq ?_; refine V_false rfl ?_; refine V_skip ?_; refine N_block ?_; refine N_seq ?_; refine V_region (id := 15) ?_; refine vo_step (ok_move rfl rfl rfl) rfl ?_; refine vo_step (ok_add rfl rfl rfl rfl (wrap_i64 (by omega) (by omega))) rfl ?_; refine vo_step (ok_assign rfl rfl rfl) rfl ?_; refine vo_nil ?_
            exact N_round (x := i) (i + 1) hlt (by omega) ⟨rfl, rfl, rfl, trivial⟩
        · obtain rfl : i = l.length := by omega
          refine V_seq ?_; refine V_seq ?_; refine V_region (id := 14) ?_; refine vo_step (ok_move rfl rfl rfl) rfl ?_; refine vo_step (ok_moves' rfl rfl rfl) rfl ?_; refine vo_step (ok_lenV L rfl rfl rfl rfl) rfl ?_; refine vo_step (ok_lss rfl rfl rfl rfl (decide_eq_false (by omega))) rfl ?_; refine vo_nil ?_; refine N_seq ?_; refine V_false rfl ?_; refine V_exit ?_; refine X_then ?_; refine X_then ?_; refine X_here ?_; refine N_seq ?_; refine V_seq ?_; refine V_region (id := 18) ?_; refine vo_step (ok_callx L rfl rfl (blt_lt rfl) rfl rfl rfl (fun u H hH hle _ => lives03_ret hH (hM.mono hle))) rfl ?_; refine vo_step (ok_assign rfl rfl rfl) rfl ?_; refine vo_nil ?_; refine N_seq ?_
          refine V_ret L (rs := [.tmp 6]) rfl (fun _ _ h => h) Since.refl fun u H hH hle => ?_
          rfl
      · have hI : (if isB l = true then 1 else 0 : Int) = 1 := by rw [hb]; rfl
        obtain ⟨a, ha⟩ : ∃ a, (spanF f l).1 = a := ⟨_, rfl⟩
        obtain ⟨b, hb'⟩ : ∃ b, (spanF f l).2 = b := ⟨_, rfl⟩
        obtain ⟨x, hx1⟩ : ∃ x, l.filter (takesB f) = x := ⟨_, rfl⟩
        have hspan : spanR f l = (a, b, 0) := by unfold spanR; rw [if_pos he, hb, if_pos rfl, ha, hb']
        have hsel : selR f l = (x, 0) := by unfold selR; rw [if_pos he, hb, if_pos rfl, hx1]
        have hmono : Kn.mono (.sat (US (x : List U) true)) := SlV.mono
        refine V_seq ?_; refine V_region (id := 0) ?_; refine vo_step (ok_box rfl rfl rfl rfl) rfl ?_; refine vo_step (ok_box rfl rfl rfl rfl) rfl ?_; refine vo_step (ok_assign rfl rfl rfl) rfl ?_; refine vo_nil ?_; refine N_seq ?_; refine V_seq ?_; refine V_seq ?_; refine V_region (id := 1) ?_; refine vo_step (ok_moves' rfl rfl rfl) rfl ?_; refine vo_step (ok_lenV L rfl rfl rfl rfl) rfl ?_; refine vo_step (ok_gtr rfl rfl rfl rfl (decide_eq_false (by omega))) rfl ?_; refine vo_nil ?_; refine N_seq ?_; refine V_false rfl ?_; refine V_skip ?_; refine N_seq ?_; refine V_seq ?_; refine V_region (id := 3) ?_; refine vo_step (ok_loadA L (vs := [_, _, _, _, _, _, _]) (src_at rfl) rfl rfl rfl rfl ⟨_, rfl⟩) rfl ?_; refine vo_step (ok_callx L rfl rfl (blt_lt rfl) rfl rfl rfl (fun u H hH _ _ => rfcheck_ret mf he hH)) rfl ?_; refine vo_step (ok_assign rfl rfl rfl) rfl ?_; refine vo_nil ?_; refine N_seq ?_; refine V_seq ?_; refine V_region (id := 4) ?_; refine vo_step (ok_move rfl rfl rfl) rfl ?_; refine vo_step (ok_assign rfl rfl rfl) rfl ?_; refine vo_nil ?_; refine N_seq ?_; refine V_seq ?_; refine V_seq ?_; refine V_region (id := 5) ?_; refine vo_step (ok_move rfl rfl rfl) rfl ?_; refine vo_step (ok_eql rfl rfl rfl rfl (decide_eq_true (by omega))) rfl ?_; refine vo_step (ok_move rfl rfl rfl) rfl ?_; refine vo_step (ok_moves' rfl rfl rfl) rfl ?_; refine vo_step (ok_callx L rfl rfl (blt_lt rfl) rfl rfl rfl (fun u H hH _ _ v1 h1 => rtis_retM (by omega) ml hI hH h1)) rfl ?_; refine vo_step (ok_eql rfl rfl rfl rfl (decide_eq_false (by omega))) rfl ?_; refine vo_step (ok_pick rfl rfl rfl rfl) rfl ?_; refine vo_nil ?_; refine N_seq ?_; refine V_false rfl ?_; refine V_skip ?_; refine N_seq ?_; refine V_seq ?_; refine V_region (id := 7) ?_; refine vo_step (ok_moves' rfl rfl rfl) rfl ?_; refine vo_step (ok_loadA L (vs := [_, _, _, _, _, _, _]) (src_at rfl) rfl rfl rfl rfl ⟨_, rfl⟩) rfl ?_; refine vo_step (ok_callx L rfl rfl (blt_lt rfl) rfl rfl rfl (fun u H hH _ _ v1 h1 => span_ret' mf (by omega) hspan hH h1)) rfl ?_; refine vo_step (ok_move rfl rfl rfl) rfl ?_; refine vo_step (ok_extract rfl rfl rfl rfl) rfl ?_; refine vo_step (ok_extract rfl rfl rfl rfl) rfl ?_; refine vo_step (ok_extract rfl rfl rfl rfl) rfl ?_; refine vo_step (ok_assign rfl rfl rfl) rfl ?_; refine vo_step (ok_assign rfl rfl rfl) rfl ?_; refine vo_step (ok_assign rfl rfl rfl) rfl ?_; refine vo_nil ?_; refine N_seq ?_; refine V_seq ?_; refine V_region (id := 8) ?_; refine vo_step (ok_moves' rfl rfl rfl) rfl ?_; refine vo_step (ok_loadA L (vs := [_, _, _, _, _, _, _]) (src_at rfl) rfl rfl rfl rfl ⟨_, rfl⟩) rfl ?_; refine vo_step (ok_call (φ := TupS [US x true, fun v _ => v = .int .i64 0]) L rfl rfl (blt_lt rfl) rfl rfl rfl (LE2.mono SlV.mono) (fun u H hH _ _ v1 h1 => select_ret mf (by omega) hsel hH h1)) rfl ?_; refine vo_step (ok_moves' rfl rfl rfl) rfl ?_; refine vo_step (ok_extracts rfl rfl rfl rfl (by assumption)) rfl ?_; refine vo_step (ok_extractx rfl rfl rfl rfl) rfl ?_; refine vo_step (ok_assigns' rfl rfl rfl) rfl ?_; refine vo_step (ok_assign rfl rfl rfl) rfl ?_; refine vo_nil ?_; refine N_seq ?_; refine V_seq ?_; refine V_regionD (id := 9) [] mixed (by kernel_rfl) ?_; refine par_step (ok_loadA L (vs := [_, _, _, _, _, _, _]) (src_at rfl) rfl rfl rfl rfl ⟨_, rfl⟩) rfl ?_; refine par_step (ok_loadA L (vs := [_, _, _]) (src_at rfl) rfl rfl rfl rfl ⟨_, rfl⟩) rfl ?_; refine par_step (ok_callx L rfl rfl (blt_lt rfl) rfl rfl rfl (fun u H hH _ _ => fof_ret hg hy0 hy1 hy2 hH)) rfl ?_; refine par_step (ok_callx L rfl rfl (blt_lt rfl) rfl rfl rfl (fun u H hH _ _ => both_ret mf mg hb1 hH)) rfl ?_; refine par_step (ok_move rfl rfl rfl) rfl ?_; refine par_step (ok_extract rfl rfl rfl rfl) rfl ?_; refine par_step (ok_extract rfl rfl rfl rfl) rfl ?_; refine par_step (ok_extract rfl rfl rfl rfl) rfl ?_; refine par_step (ok_alloc L rfl rfl rfl rfl) rfl ?_; refine par_step (ok_store L rfl rfl rfl rfl rfl rfl rfl rfl) rfl ?_; refine par_step (ok_assign rfl rfl rfl) rfl ?_; refine par_step (ok_assign rfl rfl rfl) rfl ?_; refine par_nil ?_; refine N_seq ?_; refine V_seq ?_; refine V_regionD (id := 10) [] mixed (by kernel_rfl) ?_; refine par_step (ok_loadA L (vs := [_, _, _]) (src_at rfl) rfl rfl rfl rfl ⟨_, rfl⟩) rfl ?_; refine par_step (ok_callx L rfl rfl (blt_lt rfl) rfl rfl rfl (fun u H hH _ _ => fof_ret hg hy0 hy1 hy2 hH)) rfl ?_; refine par_step (ok_loadA L (vs := [_, _, _, _, _, _, _]) (src_at rfl) rfl rfl rfl rfl ⟨_, rfl⟩) rfl ?_; refine par_step (ok_callx L rfl rfl (blt_lt rfl) rfl rfl rfl (fun u H hH _ _ => both_ret mg mf hb2 hH)) rfl ?_; refine par_step (ok_move rfl rfl rfl) rfl ?_; refine par_step (ok_extract rfl rfl rfl rfl) rfl ?_; refine par_step (ok_extract rfl rfl rfl rfl) rfl ?_; refine par_step (ok_extract rfl rfl rfl rfl) rfl ?_; refine par_step (ok_alloc L rfl rfl rfl rfl) rfl ?_; refine par_step (ok_store L rfl rfl rfl rfl rfl rfl rfl rfl) rfl ?_; refine par_step (ok_assign rfl rfl rfl) rfl ?_; refine par_step (ok_assign rfl rfl rfl) rfl ?_; refine par_nil ?_; refine N_seq ?_; refine V_seq ?_; refine V_seq ?_; refine V_regionD (id := 11) [] mixed (by kernel_rfl) ?_; refine par_step (ok_move rfl rfl rfl) rfl ?_; refine par_step (ok_move rfl rfl rfl) rfl ?_; refine par_step (ok_neq rfl rfl rfl rfl (decide_eq_false (by omega))) rfl ?_; refine par_step (ok_move rfl rfl rfl) rfl ?_; refine par_step (ok_move rfl rfl rfl) rfl ?_; refine par_step (ok_move rfl rfl rfl) rfl ?_; refine par_step (ok_neq rfl rfl rfl rfl (decide_eq_false (by omega))) rfl ?_; refine par_step (ok_pick rfl rfl rfl rfl) rfl ?_; refine par_step (ok_move rfl rfl rfl) rfl ?_; refine par_step (ok_move rfl rfl rfl) rfl ?_; refine par_step (ok_move rfl rfl rfl) rfl ?_; refine par_step (ok_neq rfl rfl rfl rfl (decide_eq_false (by omega))) rfl ?_; refine par_step (ok_pick rfl rfl rfl rfl) rfl ?_; refine par_step (ok_move rfl rfl rfl) rfl ?_; refine par_step (ok_move rfl rfl rfl) rfl ?_; refine par_step (ok_move rfl rfl rfl) rfl ?_; refine par_step (ok_neq rfl rfl rfl rfl (decide_eq_false (by omega))) rfl ?_; refine par_step (ok_pick rfl rfl rfl rfl) rfl ?_; refine par_step (ok_move rfl rfl rfl) rfl ?_; refine par_step (ok_move rfl rfl rfl) rfl ?_; refine par_step (ok_neq rfl rfl rfl rfl (decide_eq_false (by omega))) rfl ?_; refine par_step (ok_move rfl rfl rfl) rfl ?_; refine par_step (ok_skip rfl (blt_lt rfl) rfl) rfl ?_; refine par_step (ok_skip rfl (blt_lt rfl) rfl) rfl ?_; refine par_step (ok_skip rfl (blt_lt rfl) rfl) rfl ?_; refine par_step (ok_skip rfl (blt_lt rfl) rfl) rfl ?_; refine par_step (ok_skip rfl (blt_lt rfl) rfl) rfl ?_; refine par_step (ok_skip rfl (blt_lt rfl) rfl) rfl ?_; refine par_step (ok_skip rfl (blt_lt rfl) rfl) rfl ?_; refine par_step (ok_pick rfl rfl rfl rfl) rfl ?_; refine par_step (ok_pick rfl rfl rfl rfl) rfl ?_; refine par_step (ok_move rfl rfl rfl) rfl ?_; refine par_step (ok_move rfl rfl rfl) rfl ?_; refine par_step (ok_neq rfl rfl rfl rfl (decide_eq_false (by omega))) rfl ?_; refine par_step (ok_move rfl rfl rfl) rfl ?_; refine par_step (ok_skip rfl (blt_lt rfl) rfl) rfl ?_; refine par_step (ok_skip rfl (blt_lt rfl) rfl) rfl ?_; refine par_step (ok_skip rfl (blt_lt rfl) rfl) rfl ?_; refine par_step (ok_skip rfl (blt_lt rfl) rfl) rfl ?_; refine par_step (ok_skip rfl (blt_lt rfl) rfl) rfl ?_; refine par_step (ok_skip rfl (blt_lt rfl) rfl) rfl ?_; refine par_step (ok_pick rfl rfl rfl rfl) rfl ?_; refine par_step (ok_pick rfl rfl rfl rfl) rfl ?_; refine par_step (ok_move rfl rfl rfl) rfl ?_; refine par_step (ok_loadA L (vs := [_, _, _, _, _, _, _]) (src_at rfl) rfl rfl rfl rfl ⟨_, rfl⟩) rfl ?_; refine par_step (ok_callx L rfl rfl (blt_lt rfl) rfl rfl rfl (fun u H hH _ _ => prefix_ret hn hH)) rfl ?_; refine par_step (ok_loadA L (vs := [_, _, _, _, _, _, _]) (src_at rfl) rfl rfl rfl rfl ⟨_, rfl⟩) rfl ?_; refine par_step (ok_callx L rfl rfl (blt_lt rfl) rfl rfl rfl (fun u H hH _ _ => rprefix_ret hn hH)) rfl ?_; refine par_step (ok_neq rfl rfl rfl rfl (decide_eq_false (by omega))) rfl ?_; refine par_step (ok_pick rfl rfl rfl rfl) rfl ?_; refine par_nil ?_; refine N_seq ?_; refine V_false rfl ?_; refine V_skip ?_; refine N_seq ?_; refine V_seq ?_; refine V_seq ?_; refine V_region (id := 13) ?_; refine vo_step (ok_assign rfl rfl rfl) rfl ?_; refine vo_nil ?_; refine N_seq ?_; refine V_block ?_
        refine V_loop (fun i : Nat => [(1, .sat (US l fl)), (3, .sat (At (fcs f) tyF 0)), (20, .is (.int .i64 i))]) (fun i => i ≤ l.length) (fun i => l.length - i) 0 (Nat.zero_le _) ⟨rfl, rfl, rfl, trivial⟩ ?_
        rintro i hi
        by_cases hlt : i < l.length
        · obtain ⟨t, ht⟩ := get_some hlt
          have hc := us_at ht
          cases t1 : takesB f t
          · have e1 : (if takesB f t = true then 1 else 0 : Int) = 0 := by rw [t1]; rfl
            refine V_seq ?_; refine V_seq ?_; refine V_region (id := 14) ?_; refine vo_step (ok_move rfl rfl rfl) rfl ?_; refine vo_step (ok_moves' rfl rfl rfl) rfl ?_; refine vo_step (ok_lenV L rfl rfl rfl rfl) rfl ?_; refine vo_step (ok_lss rfl rfl rfl rfl (decide_eq_true (by omega))) rfl ?_; refine vo_nil ?_; refine N_seq ?_; refine V_true rfl ?_; refine V_skip ?_; refine N_seq ?_; refine V_seq ?_; refine V_block ?_; refine V_seq ?_; refine V_regionD (id := 16) [] mixed (by kernel_rfl) ?_; refine par_step (ok_loadA L (vs := [_, _, _, _, _, _, _]) (src_at rfl) rfl rfl rfl rfl ⟨_, rfl⟩) rfl ?_; refine par_step (ok_moves' rfl rfl rfl) rfl ?_; refine par_step (ok_move rfl rfl rfl) rfl ?_; refine par_step (ok_indexV L _ rfl rfl rfl rfl rfl rfl rfl (by first | omega | decide) (by assumption)) rfl ?_; refine par_step (ok_loadPA L (vs := [_, _, _, _, _, _]) rfl rfl rfl rfl rfl ⟨_, rfl⟩) rfl ?_; refine par_step (ok_callx L rfl rfl (blt_lt rfl) rfl rfl rfl (fun u H hH _ _ => takes_ret t1 hH)) rfl ?_; refine par_step (ok_loadA L (vs := [_, _, _, _, _, _, _]) (src_at rfl) rfl rfl rfl rfl ⟨_, rfl⟩) rfl ?_; refine par_step (ok_moves' rfl rfl rfl) rfl ?_; refine par_step (ok_move rfl rfl rfl) rfl ?_; refine par_step (ok_indexV L _ rfl rfl rfl rfl rfl rfl rfl (by first | omega | decide) (by assumption)) rfl ?_; refine par_step (ok_loadPA L (vs := [_, _, _, _, _, _]) rfl rfl rfl rfl rfl ⟨_, rfl⟩) rfl ?_; refine par_step (ok_callx L rfl rfl (blt_lt rfl) rfl rfl rfl (fun u H hH _ _ => rtakes_ret e1 hH)) rfl ?_; refine par_step (ok_eql rfl rfl rfl rfl (decide_eq_false (by omega))) rfl ?_; refine par_step (ok_bneq rfl rfl rfl rfl bt4 rfl) rfl ?_; refine par_nil ?_; refine N_seq ?_; refine V_false rfl ?_; refine V_skip ?_; refine N_block ?_; refine N_seq ?_; refine V_region (id := 15) ?_; refine vo_step (ok_move rfl rfl rfl) rfl ?_; refine vo_step (ok_add rfl rfl rfl rfl (wrap_i64 (by omega) (by omega))) rfl ?_; refine vo_step (ok_assign rfl rfl rfl) rfl ?_; refine vo_nil ?_
            exact N_round (x := i) (i + 1) hlt (by omega) ⟨rfl, rfl, rfl, trivial⟩
          · have e1 : (if takesB f t = true then 1 else 0 : Int) = 1 := by rw [t1]; rfl
            refine V_seq ?_; refine V_seq ?_; refine V_region (id := 14) ?_; refine vo_step (ok_move rfl rfl rfl) rfl ?_; refine vo_step (ok_moves' rfl rfl rfl) rfl ?_; refine vo_step (ok_lenV L rfl rfl rfl rfl) rfl ?_; refine vo_step (ok_lss rfl rfl rfl rfl (decide_eq_true (by omega))) rfl ?_; refine vo_nil ?_; refine N_seq ?_; refine V_true rfl ?_; refine V_skip ?_; refine N_seq ?_; refine V_seq ?_; refine V_block ?_; refine V_seq ?_; refine V_regionD (id := 16) [] mixed (by kernel_rfl) ?_; refine par_step (ok_loadA L (vs := [_, _, _, _, _, _, _]) (src_at rfl) rfl rfl rfl rfl ⟨_, rfl⟩) rfl ?_; refine par_step (ok_moves' rfl rfl rfl) rfl ?_; refine par_step (ok_move rfl rfl rfl) rfl ?_; refine par_step (ok_indexV L _ rfl rfl rfl rfl rfl rfl rfl (by first | omega | decide) (by assumption)) rfl ?_; refine par_step (ok_loadPA L (vs := [_, _, _, _, _, _]) rfl rfl rfl rfl rfl ⟨_, rfl⟩) rfl ?_; refine par_step (ok_callx L rfl rfl (blt_lt rfl) rfl rfl rfl (fun u H hH _ _ => takes_ret t1 hH)) rfl ?_; refine par_step (ok_loadA L (vs := [_, _, _, _, _, _, _]) (src_at rfl) rfl rfl rfl rfl ⟨_, rfl⟩) rfl ?_; refine par_step (ok_moves' rfl rfl rfl) rfl ?_; refine par_step (ok_move rfl rfl rfl) rfl ?_; refine par_step (ok_indexV L _ rfl rfl rfl rfl rfl rfl rfl (by first | omega | decide) (by assumption)) rfl ?_; refine par_step (ok_loadPA L (vs := [_, _, _, _, _, _]) rfl rfl rfl rfl rfl ⟨_, rfl⟩) rfl ?_; refine par_step (ok_callx L rfl rfl (blt_lt rfl) rfl rfl rfl (fun u H hH _ _ => rtakes_ret e1 hH)) rfl ?_; refine par_step (ok_eql rfl rfl rfl rfl (decide_eq_true (by omega))) rfl ?_; refine par_step (ok_bneq rfl rfl rfl rfl bt4 rfl) rfl ?_; refine par_nil ?_; refine N_seq ?_; refine V_false rfl ?_; refine V_skip ?_; refine N_block ?_; refine N_seq ?_; refine V_region (id := 15) ?_; refine vo_step (ok_move rfl rfl rfl) rfl ?_; refine vo_step (ok_add rfl rfl rfl rfl (wrap_i64 (by omega) (by omega))) rfl ?_; refine vo_step (ok_assign rfl rfl rfl) rfl ?_; refine vo_nil ?_
            exact N_round (x := i) (i + 1) hlt (by omega) ⟨rfl, rfl, rfl, trivial⟩
        · obtain rfl : i = l.length := by omega
          refine V_seq ?_; refine V_seq ?_; refine V_region (id := 14) ?_; refine vo_step (ok_move rfl rfl rfl) rfl ?_; refine vo_step (ok_moves' rfl rfl rfl) rfl ?_; refine vo_step (ok_lenV L rfl rfl rfl rfl) rfl ?_; refine vo_step (ok_lss rfl rfl rfl rfl (decide_eq_false (by omega))) rfl ?_; refine vo_nil ?_; refine N_seq ?_; refine V_false rfl ?_; refine V_exit ?_; refine X_then ?_; refine X_then ?_; refine X_here ?_; refine N_seq ?_; refine V_seq ?_; refine V_region (id := 18) ?_; refine vo_step (ok_callx L rfl rfl (blt_lt rfl) rfl rfl rfl (fun u H hH hle _ => lives03_ret hH (hM.mono hle))) rfl ?_; refine vo_step (ok_assign rfl rfl rfl) rfl ?_; refine vo_nil ?_; refine N_seq ?_
          refine V_ret L (rs := [.tmp 6]) rfl (fun _ _ h => h) Since.refl fun u H hH hle => ?_
          rfl
    · have hI : (if isB l = true then 1 else 0 : Int) = (if isB l = true then 1 else 0 : Int) := rfl
      have hspan : spanR f l = (0, 0, e) := by unfold spanR; rw [if_neg (by rw [he]; exact h0), he]
      have hsel : selR f l = ([], e) := by unfold selR; rw [if_neg (by rw [he]; exact h0), he]
      have hb1 : bothF f g = (nF, false, e) := by unfold bothF; rw [if_neg (by rw [he]; exact h0), he]
      have hb2 : bothF g f = (nF, false, e) := by unfold bothF; rw [if_pos eg, if_neg (by rw [he]; exact h0), he]
      have hmono : Kn.mono (.sat (US ([] : List U) true)) := SlV.mono
      refine V_seq ?_; refine V_region (id := 0) ?_; refine vo_step (ok_box rfl rfl rfl rfl) rfl ?_; refine vo_step (ok_box rfl rfl rfl rfl) rfl ?_; refine vo_step (ok_assign rfl rfl rfl) rfl ?_; refine vo_nil ?_; refine N_seq ?_; refine V_seq ?_; refine V_seq ?_; refine V_region (id := 1) ?_; refine vo_step (ok_moves' rfl rfl rfl) rfl ?_; refine vo_step (ok_lenV L rfl rfl rfl rfl) rfl ?_; refine vo_step (ok_gtr rfl rfl rfl rfl (decide_eq_false (by omega))) rfl ?_; refine vo_nil ?_; refine N_seq ?_; refine V_false rfl ?_; refine V_skip ?_; refine N_seq ?_; refine V_seq ?_; refine V_region (id := 3) ?_; refine vo_step (ok_loadA L (vs := [_, _, _, _, _, _, _]) (src_at rfl) rfl rfl rfl rfl ⟨_, rfl⟩) rfl ?_; refine vo_step (ok_callx L rfl rfl (blt_lt rfl) rfl rfl rfl (fun u H hH _ _ => rfcheck_ret mf he hH)) rfl ?_; refine vo_step (ok_assign rfl rfl rfl) rfl ?_; refine vo_nil ?_; refine N_seq ?_; refine V_seq ?_; refine V_region (id := 4) ?_; refine vo_step (ok_move rfl rfl rfl) rfl ?_; refine vo_step (ok_assign rfl rfl rfl) rfl ?_; refine vo_nil ?_; refine N_seq ?_; refine V_seq ?_; refine V_seq ?_; refine V_region (id := 5) ?_; refine vo_step (ok_move rfl rfl rfl) rfl ?_; refine vo_step (ok_eql rfl rfl rfl rfl (decide_eq_false (by omega))) rfl ?_; refine vo_step (ok_move rfl rfl rfl) rfl ?_; refine vo_step (ok_skip rfl (blt_lt rfl) rfl) rfl ?_; refine vo_step (ok_skip rfl (blt_lt rfl) rfl) rfl ?_; refine vo_step (ok_skip rfl (blt_lt rfl) rfl) rfl ?_; refine vo_step (ok_pick rfl rfl rfl rfl) rfl ?_; refine vo_nil ?_; refine N_seq ?_; refine V_false rfl ?_; refine V_skip ?_; refine N_seq ?_; refine V_seq ?_; refine V_region (id := 7) ?_; refine vo_step (ok_moves' rfl rfl rfl) rfl ?_; refine vo_step (ok_loadA L (vs := [_, _, _, _, _, _, _]) (src_at rfl) rfl rfl rfl rfl ⟨_, rfl⟩) rfl ?_; refine vo_step (ok_callx L rfl rfl (blt_lt rfl) rfl rfl rfl (fun u H hH _ _ v1 h1 => span_ret' mf (by omega) hspan hH h1)) rfl ?_; refine vo_step (ok_move rfl rfl rfl) rfl ?_; refine vo_step (ok_extract rfl rfl rfl rfl) rfl ?_; refine vo_step (ok_extract rfl rfl rfl rfl) rfl ?_; refine vo_step (ok_extract rfl rfl rfl rfl) rfl ?_; refine vo_step (ok_assign rfl rfl rfl) rfl ?_; refine vo_step (ok_assign rfl rfl rfl) rfl ?_; refine vo_step (ok_assign rfl rfl rfl) rfl ?_; refine vo_nil ?_; refine N_seq ?_; refine V_seq ?_; refine V_region (id := 8) ?_; refine vo_step (ok_moves' rfl rfl rfl) rfl ?_; refine vo_step (ok_loadA L (vs := [_, _, _, _, _, _, _]) (src_at rfl) rfl rfl rfl rfl ⟨_, rfl⟩) rfl ?_; refine vo_step (ok_call (φ := TupS [US [] true, fun v _ => v = .int .i64 e]) L rfl rfl (blt_lt rfl) rfl rfl rfl (LE2.mono SlV.mono) (fun u H hH _ _ v1 h1 => select_ret mf (by omega) hsel hH h1)) rfl ?_; refine vo_step (ok_moves' rfl rfl rfl) rfl ?_; refine vo_step (ok_extracts rfl rfl rfl rfl (by assumption)) rfl ?_; refine vo_step (ok_extractx rfl rfl rfl rfl) rfl ?_; refine vo_step (ok_assigns' rfl rfl rfl) rfl ?_; refine vo_step (ok_assign rfl rfl rfl) rfl ?_; refine vo_nil ?_; refine N_seq ?_; refine V_seq ?_; refine V_regionD (id := 9) [] mixed (by kernel_rfl) ?_; refine par_step (ok_loadA L (vs := [_, _, _, _, _, _, _]) (src_at rfl) rfl rfl rfl rfl ⟨_, rfl⟩) rfl ?_; refine par_step (ok_loadA L (vs := [_, _, _]) (src_at rfl) rfl rfl rfl rfl ⟨_, rfl⟩) rfl ?_; refine par_step (ok_callx L rfl rfl (blt_lt rfl) rfl rfl rfl (fun u H hH _ _ => fof_ret hg hy0 hy1 hy2 hH)) rfl ?_; refine par_step (ok_callx L rfl rfl (blt_lt rfl) rfl rfl rfl (fun u H hH _ _ => both_ret mf mg hb1 hH)) rfl ?_; refine par_step (ok_move rfl rfl rfl) rfl ?_; refine par_step (ok_extract rfl rfl rfl rfl) rfl ?_; refine par_step (ok_extract rfl rfl rfl rfl) rfl ?_; refine par_step (ok_extract rfl rfl rfl rfl) rfl ?_; refine par_step (ok_alloc L rfl rfl rfl rfl) rfl ?_; refine par_step (ok_store L rfl rfl rfl rfl rfl rfl rfl rfl) rfl ?_; refine par_step (ok_assign rfl rfl rfl) rfl ?_; refine par_step (ok_assign rfl rfl rfl) rfl ?_; refine par_nil ?_; refine N_seq ?_; refine V_seq ?_; refine V_regionD (id := 10) [] mixed (by kernel_rfl) ?_; refine par_step (ok_loadA L (vs := [_, _, _]) (src_at rfl) rfl rfl rfl rfl ⟨_, rfl⟩) rfl ?_; refine par_step (ok_callx L rfl rfl (blt_lt rfl) rfl rfl rfl (fun u H hH _ _ => fof_ret hg hy0 hy1 hy2 hH)) rfl ?_; refine par_step (ok_loadA L (vs := [_, _, _, _, _, _, _]) (src_at rfl) rfl rfl rfl rfl ⟨_, rfl⟩) rfl ?_; refine par_step (ok_callx L rfl rfl (blt_lt rfl) rfl rfl rfl (fun u H hH _ _ => both_ret mg mf hb2 hH)) rfl ?_; refine par_step (ok_move rfl rfl rfl) rfl ?_; refine par_step (ok_extract rfl rfl rfl rfl) rfl ?_; refine par_step (ok_extract rfl rfl rfl rfl) rfl ?_; refine par_step (ok_extract rfl rfl rfl rfl) rfl ?_; refine par_step (ok_alloc L rfl rfl rfl rfl) rfl ?_; refine par_step (ok_store L rfl rfl rfl rfl rfl rfl rfl rfl) rfl ?_; refine par_step (ok_assign rfl rfl rfl) rfl ?_; refine par_step (ok_assign rfl rfl rfl) rfl ?_; refine par_nil ?_; refine N_seq ?_; refine V_seq ?_; refine V_seq ?_; refine V_regionD (id := 11) [] mixed (by kernel_rfl) ?_; refine par_step (ok_move rfl rfl rfl) rfl ?_; refine par_step (ok_move rfl rfl rfl) rfl ?_; refine par_step (ok_neq rfl rfl rfl rfl (decide_eq_false (by omega))) rfl ?_; refine par_step (ok_move rfl rfl rfl) rfl ?_; refine par_step (ok_move rfl rfl rfl) rfl ?_; refine par_step (ok_move rfl rfl rfl) rfl ?_; refine par_step (ok_neq rfl rfl rfl rfl (decide_eq_false (by omega))) rfl ?_; refine par_step (ok_pick rfl rfl rfl rfl) rfl ?_; refine par_step (ok_move rfl rfl rfl) rfl ?_; refine par_step (ok_move rfl rfl rfl) rfl ?_; refine par_step (ok_move rfl rfl rfl) rfl ?_; refine par_step (ok_neq rfl rfl rfl rfl (decide_eq_false (by omega))) rfl ?_; refine par_step (ok_pick rfl rfl rfl rfl) rfl ?_; refine par_step (ok_move rfl rfl rfl) rfl ?_; refine par_step (ok_move rfl rfl rfl) rfl ?_; refine par_step (ok_move rfl rfl rfl) rfl ?_; refine par_step (ok_neq rfl rfl rfl rfl (decide_eq_false (by omega))) rfl ?_; refine par_step (ok_pick rfl rfl rfl rfl) rfl ?_; refine par_step (ok_move rfl rfl rfl) rfl ?_; refine par_step (ok_move rfl rfl rfl) rfl ?_; refine par_step (ok_neq rfl rfl rfl rfl (decide_eq_true (by omega))) rfl ?_; refine par_step (ok_move rfl rfl rfl) rfl ?_; refine par_step (ok_move rfl rfl rfl) rfl ?_; refine par_step (ok_move rfl rfl rfl) rfl ?_; refine par_step (ok_add rfl rfl rfl rfl (wrap_i64 (by omega) (by omega))) rfl ?_; refine par_step (ok_moves' rfl rfl rfl) rfl ?_; refine par_step (ok_lenV L rfl rfl rfl rfl) rfl ?_; refine par_step (ok_add rfl rfl rfl rfl rfl) rfl ?_; refine par_step (ok_gtr rfl rfl rfl rfl rfl) rfl ?_; refine par_step (ok_pick rfl rfl rfl rfl) rfl ?_; refine par_step (ok_pick rfl rfl rfl rfl) rfl ?_; refine par_step (ok_move rfl rfl rfl) rfl ?_; refine par_step (ok_move rfl rfl rfl) rfl ?_; refine par_step (ok_neq rfl rfl rfl rfl (decide_eq_true (by omega))) rfl ?_; refine par_step (ok_move rfl rfl rfl) rfl ?_; refine par_step (ok_move rfl rfl rfl) rfl ?_; refine par_step (ok_move rfl rfl rfl) rfl ?_; refine par_step (ok_loadA L (vs := [_, _, _, _, _, _, _]) (src_own rfl) rfl rfl rfl rfl ⟨_, rfl⟩) rfl ?_; refine par_step (ok_build (cs := [_, _, _, _, _, _, _]) rfl rfl pl36 rfl rfl) rfl ?_; refine par_step (ok_aneq rfl rfl rfl rfl eq36 (by assumption) rfl) rfl ?_; refine par_step (ok_pick rfl rfl rfl rfl) rfl ?_; refine par_step (ok_pick rfl rfl rfl rfl) rfl ?_; refine par_step (ok_pick rfl rfl rfl rfl) rfl ?_; refine par_step (ok_move rfl rfl rfl) rfl ?_; refine par_step (ok_loadA L (vs := [_, _, _, _, _, _, _]) (src_at rfl) rfl rfl rfl rfl ⟨_, rfl⟩) rfl ?_; refine par_step (ok_callx L rfl rfl (blt_lt rfl) rfl rfl rfl (fun u H hH _ _ => prefix_ret hn hH)) rfl ?_; refine par_step (ok_loadA L (vs := [_, _, _, _, _, _, _]) (src_at rfl) rfl rfl rfl rfl ⟨_, rfl⟩) rfl ?_; refine par_step (ok_callx L rfl rfl (blt_lt rfl) rfl rfl rfl (fun u H hH _ _ => rprefix_ret hn hH)) rfl ?_; refine par_step (ok_neq rfl rfl rfl rfl (decide_eq_false (by omega))) rfl ?_; refine par_step (ok_pick rfl rfl rfl rfl) rfl ?_; refine par_nil ?_; refine N_seq ?_; refine V_false rfl ?_; refine V_skip ?_; refine N_seq ?_; refine V_seq ?_; refine V_seq ?_; refine V_region (id := 13) ?_; refine vo_step (ok_assign rfl rfl rfl) rfl ?_; refine vo_nil ?_; refine N_seq ?_; refine V_block ?_
      refine V_loop (fun i : Nat => [(1, .sat (US l fl)), (3, .sat (At (fcs f) tyF 0)), (20, .is (.int .i64 i))]) (fun i => i ≤ l.length) (fun i => l.length - i) 0 (Nat.zero_le _) ⟨rfl, rfl, rfl, trivial⟩ ?_
      rintro i hi
      by_cases hlt : i < l.length
      · obtain ⟨t, ht⟩ := get_some hlt
        have hc := us_at ht
        cases t1 : takesB f t
        · have e1 : (if takesB f t = true then 1 else 0 : Int) = 0 := by rw [t1]; rfl
          refine V_seq ?_; refine V_seq ?_; refine V_region (id := 14) ?_; refine vo_step (ok_move rfl rfl rfl) rfl ?_; refine vo_step (ok_moves' rfl rfl rfl) rfl ?_; refine vo_step (ok_lenV L rfl rfl rfl rfl) rfl ?_; refine vo_step (ok_lss rfl rfl rfl rfl (decide_eq_true (by omega))) rfl ?_; refine vo_nil ?_; refine N_seq ?_; refine V_true rfl ?_; refine V_skip ?_; refine N_seq ?_; refine V_seq ?_; refine V_block ?_; refine V_seq ?_; refine V_regionD (id := 16) [] mixed (by kernel_rfl) ?_; refine par_step (ok_loadA L (vs := [_, _, _, _, _, _, _]) (src_at rfl) rfl rfl rfl rfl ⟨_, rfl⟩) rfl ?_; refine par_step (ok_moves' rfl rfl rfl) rfl ?_; refine par_step (ok_move rfl rfl rfl) rfl ?_; refine par_step (ok_indexV L _ rfl rfl rfl rfl rfl rfl rfl (by first | omega | decide) (by assumption)) rfl ?_; refine par_step (ok_loadPA L (vs := [_, _, _, _, _, _]) rfl rfl rfl rfl rfl ⟨_, rfl⟩) rfl ?_; refine par_step (ok_callx L rfl rfl (blt_lt rfl) rfl rfl rfl (fun u H hH _ _ => takes_ret t1 hH)) rfl ?_; refine par_step (ok_loadA L (vs := [_, _, _, _, _, _, _]) (src_at rfl) rfl rfl rfl rfl ⟨_, rfl⟩) rfl ?_; refine par_step (ok_moves' rfl rfl rfl) rfl ?_; refine par_step (ok_move rfl rfl rfl) rfl ?_; refine par_step (ok_indexV L _ rfl rfl rfl rfl rfl rfl rfl (by first | omega | decide) (by assumption)) rfl ?_; refine par_step (ok_loadPA L (vs := [_, _, _, _, _, _]) rfl rfl rfl rfl rfl ⟨_, rfl⟩) rfl ?_; refine par_step (ok_callx L rfl rfl (blt_lt rfl) rfl rfl rfl (fun u H hH _ _ => rtakes_ret e1 hH)) rfl ?_; refine par_step (ok_eql rfl rfl rfl rfl (decide_eq_false (by omega))) rfl ?_; refine par_step (ok_bneq rfl rfl rfl rfl bt4 rfl) rfl ?_; refine par_nil ?_; refine N_seq ?_; refine V_false rfl ?_; refine V_skip ?_; refine N_block ?_; refine N_seq ?_; refine V_region (id := 15) ?_; refine vo_step (ok_move rfl rfl rfl) rfl ?_; refine vo_step (ok_add rfl rfl rfl rfl (wrap_i64 (by omega) (by omega))) rfl ?_; refine vo_step (ok_assign rfl rfl rfl) rfl ?_; refine vo_nil ?_
          exact N_round (x := i) (i + 1) hlt (by omega) ⟨rfl, rfl, rfl, trivial⟩
        · have e1 : (if takesB f t = true then 1 else 0 : Int) = 1 := by rw [t1]; rfl
          refine V_seq ?_; refine V_seq ?_; refine V_region (id := 14) ?_; refine vo_step (ok_move rfl rfl rfl) rfl ?_; refine vo_step (ok_moves' rfl rfl rfl) rfl ?_; refine vo_step (ok_lenV L rfl rfl rfl rfl) rfl ?_; refine vo_step (ok_lss rfl rfl rfl rfl (decide_eq_true (by omega))) rfl ?_; refine vo_nil ?_; refine N_seq ?_; refine V_true rfl ?_; refine V_skip ?_; refine N_seq ?_; refine V_seq ?_; refine V_block ?_; refine V_seq ?_; refine V_regionD (id := 16) [] mixed (by kernel_rfl) ?_; refine par_step (ok_loadA L (vs := [_, _, _, _, _, _, _]) (src_at rfl) rfl rfl rfl rfl ⟨_, rfl⟩) rfl ?_; refine par_step (ok_moves' rfl rfl rfl) rfl ?_; refine par_step (ok_move rfl rfl rfl) rfl ?_; refine par_step (ok_indexV L _ rfl rfl rfl rfl rfl rfl rfl (by first | omega | decide) (by assumption)) rfl ?_; refine par_step (ok_loadPA L (vs := [_, _, _, _, _, _]) rfl rfl rfl rfl rfl ⟨_, rfl⟩) rfl ?_; refine par_step (ok_callx L rfl rfl (blt_lt rfl) rfl rfl rfl (fun u H hH _ _ => takes_ret t1 hH)) rfl ?_; refine par_step (ok_loadA L (vs := [_, _, _, _, _, _, _]) (src_at rfl) rfl rfl rfl rfl ⟨_, rfl⟩) rfl ?_; refine par_step (ok_moves' rfl rfl rfl) rfl ?_; refine par_step (ok_move rfl rfl rfl) rfl ?_; refine par_step (ok_indexV L _ rfl rfl rfl rfl rfl rfl rfl (by first | omega | decide) (by assumption)) rfl ?_; refine par_step (ok_loadPA L (vs := [_, _, _, _, _, _]) rfl rfl rfl rfl rfl ⟨_, rfl⟩) rfl ?_; refine par_step (ok_callx L rfl rfl (blt_lt rfl) rfl rfl rfl (fun u H hH _ _ => rtakes_ret e1 hH)) rfl ?_; refine par_step (ok_eql rfl rfl rfl rfl (decide_eq_true (by omega))) rfl ?_; refine par_step (ok_bneq rfl rfl rfl rfl bt4 rfl) rfl ?_; refine par_nil ?_; refine N_seq ?_; refine V_false rfl ?_; refine V_skip ?_; refine N_block ?_; refine N_seq ?_; refine V_region (id := 15) ?_; refine vo_step (ok_move rfl rfl rfl) rfl ?_; refine vo_step (ok_add rfl rfl rfl rfl (wrap_i64 (by omega) (by omega))) rfl ?_; refine vo_step (ok_assign rfl rfl rfl) rfl ?_; refine vo_nil ?_
          exact N_round (x := i) (i + 1) hlt (by omega) ⟨rfl, rfl, rfl, trivial⟩
      · obtain rfl : i = l.length := by omega
        refine V_seq ?_; refine V_seq ?_; refine V_region (id := 14) ?_; refine vo_step (ok_move rfl rfl rfl) rfl ?_; refine vo_step (ok_moves' rfl rfl rfl) rfl ?_; refine vo_step (ok_lenV L rfl rfl rfl rfl) rfl ?_; refine vo_step (ok_lss rfl rfl rfl rfl (decide_eq_false (by omega))) rfl ?_; refine vo_nil ?_; refine N_seq ?_; refine V_false rfl ?_; refine V_exit ?_; refine X_then ?_; refine X_then ?_; refine X_here ?_; refine N_seq ?_; refine V_seq ?_; refine V_region (id := 18) ?_; refine vo_step (ok_callx L rfl rfl (blt_lt rfl) rfl rfl rfl (fun u H hH hle _ => lives03_ret hH (hM.mono hle))) rfl ?_; refine vo_step (ok_assign rfl rfl rfl) rfl ?_; refine vo_nil ?_; refine N_seq ?_
        refine V_ret L (rs := [.tmp 6]) rfl (fun _ _ h => h) Since.refl fun u H hH hle => ?_
        rfl
end Go.V.L3
/- What is passed is opened: flat values (strings, numbers, truth values, structs and arrays of such) by a list of their leaves. -/
namespace Go.V
open Go.RowKit
inductive LeafK where
  | s
  | b
  | i (k : IntKind)
def LeafOK : LeafK → Value → Prop
  | .s, v => ∃ a : ByteArray, v = .string a ∧ a.size ≤ maxLen
  | .b, v => ∃ c, v = .bool c
  | .i k, v => ∃ n, v = .int k n ∧ (Lit.int k n).wf = true
def LeafsOK : List LeafK → List Value → Prop
  | [], [] => True
  | l :: ls, v :: vs => LeafOK l v ∧ LeafsOK ls vs
  | _, _ => False
theorem LeafsOK.append : ∀ {a b : List LeafK} {x y : List Value}, LeafsOK a x → LeafsOK b y → LeafsOK (a ++ b) (x ++ y)
  | [], _, [], _, _, h => h
  | [], _, _ :: _, _, h, _ => h.elim
  | _ :: _, _, [], _, h, _ => h.elim
  | _ :: _, _, _ :: _, _, h, k => ⟨h.1, LeafsOK.append h.2 k⟩
theorem LeafsOK.length : ∀ {a : List LeafK} {x : List Value}, LeafsOK a x → x.length = a.length
  | [], [], _ => rfl
  | [], _ :: _, h => h.elim
  | _ :: _, [], h => h.elim
  | _ :: _, _ :: _, h => by simp [LeafsOK.length h.2]
theorem leaf_s {ls : List LeafK} {vs : List Value} (h : LeafsOK (.s :: ls) vs) : ∃ a r, vs = .string a :: r ∧ a.size ≤ maxLen ∧ LeafsOK ls r := by
  cases vs with
  | nil => exact h.elim
  | cons v vs => obtain ⟨⟨a, rfl, ha⟩, h⟩ := h; exact ⟨a, vs, rfl, ha, h⟩
theorem leaf_i {k : IntKind} {ls : List LeafK} {vs : List Value} (h : LeafsOK (.i k :: ls) vs) : ∃ n r, vs = .int k n :: r ∧ (Lit.int k n).wf = true ∧ LeafsOK ls r := by
  cases vs with
  | nil => exact h.elim
  | cons v vs => obtain ⟨⟨a, rfl, ha⟩, h⟩ := h; exact ⟨a, vs, rfl, ha, h⟩
theorem leaf_b {ls : List LeafK} {vs : List Value} (h : LeafsOK (.b :: ls) vs) : ∃ c r, vs = .bool c :: r ∧ LeafsOK ls r := by
  cases vs with
  | nil => exact h.elim
  | cons v vs => obtain ⟨⟨a, rfl⟩, h⟩ := h; exact ⟨a, vs, rfl, h⟩
theorem leaf_nil {vs : List Value} (h : LeafsOK [] vs) : vs = [] := by
  cases vs with
  | nil => rfl
  | cons _ _ => exact h.elim
def leafF (P : Program) (rec : TypeId → Option (List LeafK)) : List Field → Nat → Option (List LeafK)
  | [], _ => some []
  | f :: fs, off => match rec f.type with
    | some ls => if f.offset = off ∧ P.cellsOf f.type = ls.length then
        match leafF P rec fs (off + ls.length) with
        | some r => some (ls ++ r)
        | none => none
      else none
    | none => none
def repL (ls : List LeafK) : Nat → List LeafK
  | 0 => []
  | n + 1 => ls ++ repL ls n
def leafI (P : Program) : Nat → TypeId → Option (List LeafK)
  | 0, _ => none
  | d + 1, t => match P.underlying t with
    | some .string => some [.s]
    | some (.int k) => some [.i k]
    | some .bool => some [.b]
    | some (.struct fs) => match leafF P (leafI P d) fs.toList 0 with
      | some ls => if P.cellsOf t = ls.length then some ls else none
      | none => none
    | some (.array n e) => match leafI P d e with
      | some ls => if P.cellsOf e = ls.length ∧ P.cellsOf t = (repL ls n).length then some (repL ls n) else none
      | none => none
    | _ => none
theorem mapM_all {α β : Type} {f : α → Option β} : ∀ {l : List α} {ys : List β}, l.mapM f = some ys → ∃ g : List β, g = ys ∧ (∀ x ∈ l, ∃ y, f x = some y ∧ y ∈ ys) ∧ (∀ y ∈ ys, ∃ x ∈ l, f x = some y)
  | [], ys, h => by
    simp at h; subst h
    exact ⟨_, rfl, by simp, by simp⟩
  | x :: l, ys, h => by
    rw [List.mapM_cons] at h
    cases hx : f x with
    | none => rw [hx] at h; cases h
    | some y =>
      rw [hx] at h
      cases hl : l.mapM f with
      | none => rw [hl] at h; cases h
      | some zs =>
        rw [hl] at h
        cases h
        obtain ⟨_, _, h1, h2⟩ := mapM_all hl
        refine ⟨_, rfl, fun z hz => ?_, fun z hz => ?_⟩
        · rcases List.mem_cons.1 hz with rfl | hz
          · exact ⟨y, hx, List.mem_cons_self ..⟩
          · obtain ⟨w, hw, hm⟩ := h1 z hz; exact ⟨w, hw, List.mem_cons_of_mem _ hm⟩
        · rcases List.mem_cons.1 hz with rfl | hz
          · exact ⟨x, List.mem_cons_self .., hx⟩
          · obtain ⟨w, hw, hm⟩ := h2 z hz; exact ⟨w, List.mem_cons_of_mem _ hw, hm⟩
theorem take_split (cs : List Value) (off m r : Nat) : (cs.drop off).take (m + r) = (cs.drop off).take m ++ (cs.drop (off + m)).take r := by
  rw [List.take_add, List.drop_drop]
section
variable {P : Program} {H : Type} {enc : TypeId × Value → H} {W : World} {sp : Nat → Bool} {held : Bool} {base : Nat}
theorem leaf_of_trod : ∀ (d : Nat) {t : TypeId} {ls : List LeafK}, leafI P d t = some ls → ∀ {fuel : Nat} {cs : List Value} {x : DataW H × List MemPlace},
    DataW.trod enc P W base sp held fuel t cs = some x → LeafsOK ls cs ∧ x.2 = []
  | 0, _, _, h, _, _, _, _ => by cases h
  | d + 1, t, ls, h, fuel, cs, x, hx => by
    have ih := @leaf_of_trod d
    cases fuel with
    | zero => simp [DataW.trod] at hx
    | succ fuel =>
      rw [leafI] at h
      unfold DataW.trod at hx
      cases hu : P.underlying t with
      | none => rw [hu] at h; cases h
      | some ds =>
        rw [hu] at h hx
        cases ds <;> first | (cases h; done) | skip
        · cases h
          match cs, hx with
          | [.bool b], hx => cases hx; exact ⟨⟨⟨b, rfl⟩, trivial⟩, rfl⟩
        · rename_i k
          cases h
          match cs, hx with
          | [.int k' m], hx =>
            simp only at hx
            split at hx
            · rename_i hk
              obtain ⟨rfl, hw⟩ := hk
              cases hx; exact ⟨⟨⟨m, rfl, hw⟩, trivial⟩, rfl⟩
            · cases hx
        · cases h
          match cs, hx with
          | [.string s], hx =>
            simp only at hx
            split at hx
            · rename_i hs; cases hx; exact ⟨⟨⟨s, rfl, hs⟩, trivial⟩, rfl⟩
            · cases hx
        · rename_i n e
          simp only at h hx
          split at h
          · rename_i l1 hl1
            split at h
            · rename_i hc
              cases h
              split at hx
              · rename_i hlen
                obtain ⟨xs, hxs, rfl⟩ := Option.map_eq_some_iff.1 hx
                obtain ⟨_, _, hall, hback⟩ := mapM_all hxs
                have each : ∀ i, i < n → LeafsOK l1 ((cs.drop (i * P.cellsOf e)).take (P.cellsOf e)) := fun i hi => by
                  obtain ⟨y, hy, _⟩ := hall i (List.mem_range.2 hi)
                  exact (ih hl1 hy).1
                have gen : ∀ m k, k + m = n → LeafsOK (repL l1 m) ((cs.drop (k * P.cellsOf e)).take (m * P.cellsOf e)) := by
                  intro m
                  induction m with
                  | zero => intro k _; simp [repL, LeafsOK]
                  | succ m ihm =>
                    intro k hk
                    rw [show (m + 1) * P.cellsOf e = P.cellsOf e + m * P.cellsOf e by rw [Nat.succ_mul]; omega, take_split]
                    refine LeafsOK.append (each k (by omega)) ?_
                    rw [show k * P.cellsOf e + P.cellsOf e = (k + 1) * P.cellsOf e by rw [Nat.succ_mul]]
                    exact ihm (k + 1) (by omega)
                refine ⟨?_, ?_⟩
                · have := gen n 0 (by omega)
                  have hrl : ∀ m, (repL l1 m).length = m * P.cellsOf e := by
                    intro m
                    induction m with
                    | zero => simp [repL]
                    | succ m ihm => simp only [repL, List.length_append, ihm, hc.1]; rw [Nat.succ_mul]; omega
                  rw [← hrl n, ← hc.2, ← hlen] at this
                  simpa using this
                · refine List.flatMap_eq_nil_iff.2 fun y hy => ?_
                  obtain ⟨i, _, hi⟩ := hback y hy
                  exact (ih hl1 hi).2
              · cases hx
            · cases h
          · cases h
        · rename_i fs
          simp only at h hx
          split at h
          · rename_i l1 hl1
            split at h
            · rename_i hc
              cases h
              split at hx
              · rename_i hlen
                obtain ⟨xs, hxs, rfl⟩ := Option.map_eq_some_iff.1 hx
                obtain ⟨_, _, hall, hback⟩ := mapM_all hxs
                have gen : ∀ (fl : List Field) (off : Nat) (ls : List LeafK), (∀ f ∈ fl, f ∈ fs.toList) → leafF P (leafI P d) fl off = some ls →
                    LeafsOK ls ((cs.drop off).take ls.length) ∧ ∀ f ∈ fl, ∃ l, leafI P d f.type = some l := by
                  intro fl
                  induction fl with
                  | nil => intro off ls _ h; cases h; simp [LeafsOK]
                  | cons f fl ihf =>
                    intro off ls hm h
                    simp only [leafF] at h
                    split at h
                    · rename_i l2 hl2
                      split at h
                      · rename_i hc2
                        obtain ⟨rfl, hc3⟩ := hc2
                        split at h
                        · rename_i r hr
                          cases h
                          obtain ⟨g1, g2⟩ := ihf _ _ (fun g hg => hm g (List.mem_cons_of_mem _ hg)) hr
                          refine ⟨?_, fun g hg => ?_⟩
                          · rw [List.length_append, take_split]
                            refine LeafsOK.append ?_ g1
                            obtain ⟨y, hy, _⟩ := hall f (hm f (List.mem_cons_self ..))
                            rw [← hc3]
                            exact (ih hl2 hy).1
                          · rcases List.mem_cons.1 hg with rfl | hg
                            · exact ⟨l2, hl2⟩
                            · exact g2 g hg
                        · cases h
                      · cases h
                    · cases h
                obtain ⟨g1, g2⟩ := gen fs.toList 0 _ (fun _ h => h) hl1
                refine ⟨?_, ?_⟩
                · rw [← hc, ← hlen] at g1; simpa using g1
                · refine List.flatMap_eq_nil_iff.2 fun y hy => ?_
                  obtain ⟨f, hf, hi⟩ := hback y hy
                  obtain ⟨l, hl⟩ := g2 f hf
                  exact (ih hl hi).2
              · cases hx
            · cases h
          · cases h
theorem open_agg {t : TypeId} {ls : List LeafK} {b0 : Nat} {v : Value} {dd : DataW H} {ps : List MemPlace} (h : leafI P 20 t = some ls) (ha : (match P.underlying t with | some (.struct _) | some (.array _ _) => true | _ => false) = true)
    (hval : Value.okWide P W .any b0 t v) (hd : DataW.Trod enc P W base sp held t v dd ps) : ∃ cs : List Value, v = .agg cs.toArray ∧ LeafsOK ls cs ∧ ps = [] := by
  obtain ⟨fuel, hf⟩ := hd
  have key : ∃ cs, v = .agg cs := by
    unfold Value.okWide at hval
    split at hval
    · obtain ⟨cs, hv, _⟩ := hval; exact ⟨cs, hv⟩
    · obtain ⟨cs, hv, _⟩ := hval; exact ⟨cs, hv⟩
    · rename_i h1 h2
      split at ha
      · rename_i fs hu; exact absurd hu (h1 fs)
      · rename_i m e hu; exact absurd hu (h2 m e)
      · cases ha
  obtain ⟨cs, rfl⟩ := key
  obtain ⟨h1, h2⟩ := leaf_of_trod 20 h hf
  exact ⟨cs.toList, by simp, h1, h2⟩
/-- What a slice of flat values reads as. -/
theorem open_sl {t e : TypeId} {ls : List LeafK} {b0 : Nat} {v : Value} {dd : DataW H} {ps : List MemPlace} (ht : P.underlying t = some (.slice e)) (hlf : leafI P 20 e = some ls) (hce : P.cellsOf e = ls.length)
    (hval : Value.okWide P W .any b0 t v) (hd : DataW.Trod enc P W 0 (fun _ => true) held t v dd ps) :
    ∃ cs : List (List Value), (∀ c ∈ cs, LeafsOK ls c) ∧ cs.length ≤ maxLen ∧ SlV e ls.length cs.flatten cs.length false v (hp W) := by
  obtain ⟨fuel, hf⟩ := hd
  have hv : v = .slice none 0 0 ∨ ∃ a len cap, v = .slice (some a) len cap ∧ len ≤ cap ∧ cap ≤ maxLen ∧ a.spot = none ∧ ∃ cs fr ty, W.heap[a.block]? = some (.cells cs ty fr) := by
    have h0 : Cell.ok P W .any b0 t v := by
      unfold Value.okWide at hval
      rw [ht] at hval
      unfold Cell.okWide at hval
      rw [ht] at hval
      exact hval
    unfold Cell.ok at h0
    rw [ht] at h0
    match v, h0 with
    | .slice none 0 0, _ => exact .inl rfl
    | .slice (some a) len cap, h0 =>
      obtain ⟨h1, h2, _, h3, row, cells, h4, _⟩ := h0
      have hm : IntKind.i64.max = 9223372036854775807 := by decide
      refine .inr ⟨a, len, cap, rfl, h1, by rw [hm] at h2; unfold maxLen; omega, h3, ?_⟩
      unfold World.shape? at h4
      split at h4
      · rename_i cs ty fr hh; exact ⟨_, _, _, hh⟩
      · cases h4
  rcases hv with rfl | ⟨a, len, cap, rfl, h1, h2, h3, cs, fr, ty, h4⟩
  · exact ⟨[], fun c h => (nomatch h), Nat.zero_le _, SlV.nil⟩
  · rcases Deep.open_slice ht (by simpa [Value.cells] using hf) with ⟨h, _⟩ | ⟨a', len', cap', m, nn, D, Pl, h5, _, _, _, hm, _, hx⟩
    · cases h
    · cases h5
      simp only [if_true] at hm
      rw [hm] at hx
      clear hm
      obtain ⟨C, hC⟩ := Deep.choose_lt (α := List Value) (n := cap) (p := fun i c => W.cells? 0 (a.add (i * P.cellsOf e)) (P.cellsOf e) = some c ∧ LeafsOK ls c) (fun i hi => by
        obtain ⟨c, g1, g2⟩ := hx i hi
        exact ⟨c, g1, (leaf_of_trod 20 hlf g2).1⟩)
      have hln : ∀ i, i < cap → (C i).length = ls.length := fun i hi => (hC i hi).2.length
      refine ⟨(List.range len).map C, fun c hc => ?_, by simp; omega, ?_⟩
      · obtain ⟨i, hi, rfl⟩ := List.mem_map.1 hc
        exact (hC i (by have := List.mem_range.1 hi; omega)).2
      · have hfl : ∀ k, k ≤ cap → ((List.range k).map C).flatten.length = k * ls.length := by
          intro k
          induction k with
          | zero => simp
          | succ k ih =>
            intro hk
            rw [List.range_succ, List.map_append, List.flatten_append, List.length_append, ih (by omega), Nat.succ_mul]
            simp [hln k (by omega)]
        refine ⟨by rw [hfl len h1, List.length_map, List.length_range], .inr ⟨a.block, a.off, cap, cs, ty, fr, ?_, h4, ?_, by simpa using h1, fun h => by cases h⟩⟩
        · obtain ⟨ab, ao, asp⟩ := a
          simp only at h3
          subst h3
          simp
        · rw [hfl len h1]
          have key : ∀ k, k ≤ cap → (cs.toList.drop a.off).take (k * ls.length) = ((List.range k).map C).flatten := by
            intro k
            induction k with
            | zero => simp
            | succ k ih =>
              intro hk
              rw [Nat.succ_mul, take_split, ih (by omega), List.range_succ, List.map_append, List.flatten_append]
              congr 1
              obtain ⟨_, g2, g3⟩ := World.cells?_some (hC k (by omega)).1
              simp only [List.map_cons, List.map_nil, List.flatten_cons, List.flatten_nil, List.append_nil]
              apply List.ext_getElem?
              intro j
              rcases Nat.lt_or_ge j ls.length with hj | hj
              · have := g3 j (by omega)
                rw [← this, List.getElem?_take_of_lt hj, List.getElem?_drop]
                obtain ⟨ab, ao, asp⟩ := a
                simp only at h3
                subst h3
                rw [addr_add, addr_add, cell_of_heap h4]
                simp only [hce]
                rw [Array.getElem?_toList]
              · rw [List.getElem?_eq_none (by rw [List.length_take]; omega), List.getElem?_eq_none (by rw [hln k (by omega)]; exact hj)]
          exact key len h1
end
end Go.V
/- What is handed in, as numbers. -/
namespace Go.V.L3
open Go.Proofs Go.RowKit Go.V Go.V.L2
theorem u8_of {n : Int} (h : Lit.wf (.int .u8 n) = true) : ∃ k : Nat, n = k ∧ k ≤ 255 := by
  have hb : IntKind.u8.min ≤ n ∧ n ≤ IntKind.u8.max := by simpa [Lit.wf] using h
  have hmin : IntKind.u8.min = 0 := by decide
  have hmax : IntKind.u8.max = 255 := by decide
  rw [hmin, hmax] at hb
  exact ⟨n.toNat, by omega, by omega⟩
end Go.V.L3
/- What is handed in, as tuples. -/
namespace Go.V.L3
open Go.Proofs Go.RowKit Go.V Go.V.L2
theorem tuples_of : ∀ (cs : List (List Value)), (∀ c ∈ cs, LeafsOK [.s, .s, .s, .s, .s, .s] c) → ∃ l : List U, cs.flatten = l.flatMap ucs ∧ cs.length = l.length ∧ ∀ t ∈ l, TM t
  | [], _ => ⟨[], rfl, rfl, fun t h => by cases h⟩
  | c :: cs, h => by
    obtain ⟨l, h1, h2, h3⟩ := tuples_of cs fun x hx => h x (List.mem_cons_of_mem _ hx)
    have hc := h c (List.mem_cons_self ..)
    obtain ⟨a1, r1, rfl, z1, hc⟩ := leaf_s hc
    obtain ⟨a2, r2, rfl, z2, hc⟩ := leaf_s hc
    obtain ⟨a3, r3, rfl, z3, hc⟩ := leaf_s hc
    obtain ⟨a4, r4, rfl, z4, hc⟩ := leaf_s hc
    obtain ⟨a5, r5, rfl, z5, hc⟩ := leaf_s hc
    obtain ⟨a6, r6, rfl, z6, hc⟩ := leaf_s hc
    obtain rfl := leaf_nil hc
    refine ⟨(((a1, a2), a3), ((a4, a5), a6)) :: l, by rw [List.flatten_cons, List.flatMap_cons, h1]; rfl, by rw [List.length_cons, List.length_cons, h2], fun t ht => ?_⟩
    rcases List.mem_cons.1 ht with rfl | ht
    · unfold maxLen at z1 z2 z3 z4 z5 z6
      unfold TM
      exact ⟨⟨by omega, by omega, by omega⟩, by omega, by omega, by omega⟩
    · exact h3 t ht
end Go.V.L3
/- What is handed in to FiltersErrors. -/
namespace Go.V.L3
open Go.Proofs Go.RowKit Go.V Go.V.L2
theorem filtersErrors_in {a1 a2 a3 a4 a5 a6 : ByteArray} {ex : Bool} (z1 : a1.size ≤ maxLen) (z2 : a2.size ≤ maxLen) (z3 : a3.size ≤ maxLen) (z4 : a4.size ≤ maxLen) (z5 : a5.size ≤ maxLen) (z6 : a6.size ≤ maxLen)
    {ks : List (List Value)} (las : ∀ c ∈ ks, LeafsOK [.s, .s, .s, .s, .s, .s] c) (zas : ks.length ≤ maxLen) {W : World} {v : Value} (has : SlV tyU 6 ks.flatten ks.length false v (hp W)) {a b m : Int} (ha : Lit.wf (.int .u8 a) = true) (hb : Lit.wf (.int .u8 b) = true) (hm : Lit.wf (.int .u8 m) = true) (hM : GlobM (hp W)) :
    Ret Try.prog 6 [.agg #[.string a1, .string a2, .string a3, .string a4, .string a5, .string a6, .bool ex], v, .agg #[.int .u8 a, .int .u8 b, .int .u8 m]] W (hp W) (fun v _ => v = .bool true) := by
  obtain ⟨l, e1, e2, e3⟩ := tuples_of ks las
  rw [e1, e2] at has
  obtain ⟨a, rfl, ka⟩ := u8_of ha
  obtain ⟨b, rfl, kb⟩ := u8_of hb
  obtain ⟨m, rfl, km⟩ := u8_of hm
  unfold maxLen at z1 z2 z3 z4 z5 z6 zas
  exact filtersErrors_law (f := (((a1, a2), a3), ((a4, a5), a6), ex)) (by unfold FM; exact ⟨⟨by omega, by omega, by omega⟩, by omega, by omega, by omega⟩) e3 (by omega) ka kb km (Heap.Le.refl _) hM has
end Go.V.L3
namespace Go.Proofs.Ytelaiancfbaalaa.filtersErrors
open Go.ChangeShapes Go.WideShapes Go.ChangeAt Go.ChangeMaps Go.RowKit Go.V
theorem own : ownKnob Try.prog.godebug = none := by kernel_rfl
theorem laidOut : laidOutB Try.prog = true := by kernel_rfl
theorem lf0 : leafI Try.prog 20 36 = some [.s, .s, .s, .s, .s, .s, .b] := by kernel_rfl
theorem la0 : (match Try.prog.underlying 36 with | some (.struct _) | some (.array _ _) => true | _ => false) = true := by kernel_rfl
theorem lr1 : Try.prog.readableRec 36 = true := by kernel_rfl
theorem lt1 : 36 < Try.prog.types.size := of_decide_eq_true (by kernel_rfl)
theorem lf2 : leafI Try.prog 20 51 = some [.s, .s, .s, .s, .s, .s] := by kernel_rfl
theorem lc2 : Try.prog.cellsOf 51 = ([.s, .s, .s, .s, .s, .s] : List LeafK).length := by kernel_rfl
theorem lr3 : Try.prog.readableRec 28 = true := by kernel_rfl
theorem lt3 : 28 < Try.prog.types.size := of_decide_eq_true (by kernel_rfl)
theorem lu4 : Try.prog.underlying 28 = some (.slice 51) := by kernel_rfl
theorem lf5 : leafI Try.prog 20 27 = some [.i .u8, .i .u8, .i .u8] := by kernel_rfl
theorem la5 : (match Try.prog.underlying 27 with | some (.struct _) | some (.array _ _) => true | _ => false) = true := by kernel_rfl
theorem lr6 : Try.prog.readableRec 27 = true := by kernel_rfl
theorem lt6 : 27 < Try.prog.types.size := of_decide_eq_true (by kernel_rfl)
set_option maxRecDepth 100000 in
theorem lifted (os : Os) (started : os.Started) (H : Type) (enc : TypeId × Value → H) :
    ReturnsInHanded {} Try.checked os 6 .any (Rows.filtersErrorsSpec.pre6 enc Try.prog Try.f6 Rows.filtersErrorsRow.domain false) (Rows.filtersErrorsSpec.post enc Try.prog Try.f6 false true false false) := by
  refine returnsInHanded_of_change_shaped (C := Try.checked) own started (by kernel_rfl) Try.func6
    (ChangeSpec.witness6 (enc := enc) (C := Try.checked) false ⟨#[], #[.agg #[.string ⟨#[]⟩, .string ⟨#[]⟩, .string ⟨#[]⟩, .string ⟨#[]⟩, .string ⟨#[]⟩, .string ⟨#[]⟩, .bool false], .slice none 0 0, .agg #[.int .u8 0, .int .u8 0, .int .u8 0]], []⟩ 8 (by kernel_rfl) (by kernel_rfl) (by kernel_rfl) (by kernel_rfl)) ?_
  intro W base args ds gs before hval0 hW hcnd _ hsh _
  have hval : ∀ (j : Nat) t v, Try.f6.params[j]? = some t → args[j]? = some v → Value.okWide Try.prog W .any base t v := hval0
  have hW' := hW
  obtain ⟨p, q, hA0, hV, rfl, hfz, hnd⟩ := hW
  have hA : DataW.TrodAll enc Try.prog W 0 (fun _ => true) true Try.f6.params.toList args.toList ds p := hA0
  rw [Try.params6] at hA hval
  obtain ⟨v0, v1, v2, d0, d1, d2, p0, p1, p2, rfl, rfl, rfl, h0, h1, h2⟩ := trodAll_three hA
  obtain ⟨rfl, rfl⟩ := trodVars_none hV
  clear hA0 hval0
  obtain ⟨c0, rfl, l0, rfl⟩ := open_agg lf0 la0 (hval 0 36 v0 rfl rfl) h0
  obtain ⟨a1, r0, rfl, za1, l0⟩ := leaf_s l0
  obtain ⟨a2, r0, rfl, za2, l0⟩ := leaf_s l0
  obtain ⟨a3, r0, rfl, za3, l0⟩ := leaf_s l0
  obtain ⟨a4, r0, rfl, za4, l0⟩ := leaf_s l0
  obtain ⟨a5, r0, rfl, za5, l0⟩ := leaf_s l0
  obtain ⟨a6, r0, rfl, za6, l0⟩ := leaf_s l0
  obtain ⟨ex, r0, rfl, k0⟩ := leaf_b l0
  replace l0 := k0
  obtain rfl := leaf_nil l0
  obtain ⟨ks, lks, zks, hks⟩ := open_sl lu4 lf2 lc2 (hval 1 28 v1 rfl rfl) h1
  obtain ⟨c2, rfl, l2, rfl⟩ := open_agg lf5 la5 (hval 2 27 v2 rfl rfl) h2
  obtain ⟨y0, r2, rfl, zy0, l2⟩ := leaf_i l2
  obtain ⟨y1, r2, rfl, zy1, l2⟩ := leaf_i l2
  obtain ⟨y2, r2, rfl, zy2, l2⟩ := leaf_i l2
  obtain rfl := leaf_nil l2
  obtain ⟨m0, hm0⟩ := Try.laysM145.s1_3 W hsh
  have hglob := GlobM.of_cell hm0
  have hplc := hW'.lt
  simp only [List.append_nil] at hW'
  have hlaw := Go.V.L3.filtersErrors_in (ex := ex) za1 za2 za3 za4 za5 za6 lks zks hks zy0 zy1 zy2 hglob
  unfold Ret at hlaw
  refine hlaw.mono fun e W' hp => ?_
  obtain ⟨v, rfl, H', g, rfl⟩ := hp
  refine ⟨_, rfl, _, _, _, [], [] ++ (p1 ++ ([] ++ ([]))), [], hW', trodAll_cons_mk (shut_bool Try.underlying4 _) trodAll_mk0, ?_, rfl, g.below.frame _, fun h => by cases h⟩
  exact trodAll_cons_mk (Below.trod laidOut lr1 lt1 h0 g.below (fun x hx => by cases hx)) (trodAll_cons_mk (Below.trod laidOut lr3 lt3 h1 g.below (fun x hx => hplc x (by simp [hx]))) (trodAll_cons_mk (Below.trod laidOut lr6 lt6 h2 g.below (fun x hx => by cases hx)) trodAll_mk0))
theorem proved : Rows.FiltersErrorsSaid :=
  OpenClaim.holds_of_wide 6 Try.f6 rfl rfl rfl rfl rfl rfl rfl ⟨rfl, rfl, rfl, rfl, rfl⟩ rfl rfl rfl rfl rfl (by kernel_rfl) Try.func6 (by kernel_rfl)
    (of_decide_eq_true (by kernel_rfl)) (by unfold Func.isWrapper; first | (rw [if_pos (by decide +kernel)]; kernel_rfl) | (rw [if_neg (by decide +kernel)]; exact ⟨rfl, rfl⟩))
    (fun os started H enc _ => lifted os started H enc)
#print axioms proved
end Go.Proofs.Ytelaiancfbaalaa.filtersErrors
