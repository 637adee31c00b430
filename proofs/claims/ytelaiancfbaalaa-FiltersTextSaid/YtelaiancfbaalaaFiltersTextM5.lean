/- FiltersText returns true for every input, and leaves it as it was: no condition. -/
import Derived.Test.YtelaiancfbaalaaFiltersTextM4
import Derived.Laws.RangeString
import Derived.Laws.Runes
import Derived.Scope
import Derived.ProofKit
import Derived.HandedShaped
import Derived.OpenShut
import Derived.Carry
import Derived.Deep.Slices
import Derived.Test.YtelaiancfbaalaaRows
set_option linter.unusedVariables false
set_option linter.unusedSimpArgs false
/- The walk of the definition of filters (chapter 3): texts are read. -/
namespace Go.V.L3
open Go.Proofs Go.RowKit Go.V Go.V.L2
theorem pfC_us {us a b c : ByteArray} {d e : Bool} (h : hasA us 64 = false) : pfC us a b c d e = pfC ⟨#[]⟩ a b c d e := by
  unfold pfC
  rw [h, show hasA ⟨#[]⟩ 64 = false by decide +kernel]
theorem ext_pre (a b : ByteArray) (c : UInt8) : (a ++ ⟨#[c]⟩ ++ b).extract 0 a.size = a := by
  have := ext_mid ⟨#[]⟩ a (⟨#[c]⟩ ++ b) 0 a.size rfl (by show _ = 0 + _; omega)
  conv => rhs; rw [← this]
  congr 1; apply ba_ext'; simp [list_app]
theorem ext_suf (a b : ByteArray) (c : UInt8) : (a ++ ⟨#[c]⟩ ++ b).extract (a.size + 1) (a ++ ⟨#[c]⟩ ++ b).size = b := by
  have := ext_mid (a ++ ⟨#[c]⟩) b ⟨#[]⟩ (a.size + 1) (a ++ ⟨#[c]⟩ ++ b).size (by rw [ByteArray.size_append]; rfl) (by rw [ByteArray.size_append])
  conv => rhs; rw [← this]
  congr 1; apply ba_ext'; simp [list_app]
attribute [local irreducible] V N X VO Par StepOK Has Ret RetL RetO RetT Src
set_option maxHeartbeats 16000000 in
set_option maxRecDepth 20000 in
theorem rfparse_ret {s : ByteArray} {x : FT} {e : Int} (hr : pfA s = (x, e)) (hs : s.size ≤ 1000000) {w : World} {B : Heap} (hB : B.Le (hp w)) :
    Ret Try.prog 28 [.string s] w B (fun v _ => v = .tuple #[fv x, .int .i64 e]) := by
  have hus0 : hasA ⟨#[]⟩ 64 = false := by decide +kernel
  rcases split_b s 64 with h64 | ⟨g, us, rfl, hg64⟩
  · have hcut0 : cutA s 64 = (s, ⟨#[]⟩, false) := cutA_no h64
    have hA : plL 64 s.data.toList 0 = [] := plL_no h64
    have ln0 : ([] : List Nat).length = 0 := rfl
    rcases marks_or s with ⟨sp, id, rel, hm⟩ | ⟨hb, hbad⟩
    · obtain ⟨hg, m1, m2, m3, m4, m5, m6⟩ := hm
      have hl1 := mid_list sp (id ++ ⟨#[35]⟩ ++ rel) 58
      have hl2 := mid_list id rel 35
      have k1 := mid_size sp (id ++ ⟨#[35]⟩ ++ rel) 58
      have k2 := mid_size id rel 35
      have y1 := ext_pre sp (id ++ ⟨#[35]⟩ ++ rel) 58
      have y2 : (sp ++ ⟨#[58]⟩ ++ (id ++ ⟨#[35]⟩ ++ rel)).extract (sp.size + 1) (sp.size + 1 + id.size) = id := by
        have := ext_mid (sp ++ ⟨#[58]⟩) id (⟨#[35]⟩ ++ rel) (sp.size + 1) (sp.size + 1 + id.size) (by rw [ByteArray.size_append]; rfl) (by rw [ByteArray.size_append]; rfl)
        conv => rhs; rw [← this]
        congr 1; apply ba_ext'; simp [list_app]
      have y3 : (sp ++ ⟨#[58]⟩ ++ (id ++ ⟨#[35]⟩ ++ rel)).extract (sp.size + 1 + id.size + 1) (sp ++ ⟨#[58]⟩ ++ (id ++ ⟨#[35]⟩ ++ rel)).size = rel := by
        have := ext_mid (sp ++ ⟨#[58]⟩ ++ id ++ ⟨#[35]⟩) rel ⟨#[]⟩ (sp.size + 1 + id.size + 1) (sp ++ ⟨#[58]⟩ ++ (id ++ ⟨#[35]⟩ ++ rel)).size (by simp only [ByteArray.size_append]; rfl) (by simp only [ByteArray.size_append]; rw [show (⟨#[58]⟩ : ByteArray).size = 1 from rfl, show (⟨#[35]⟩ : ByteArray).size = 1 from rfl]; omega)
        conv => rhs; rw [← this]
        congr 1; apply ba_ext'; simp [list_app]
      have hC : plL 58 (sp ++ ⟨#[58]⟩ ++ (id ++ ⟨#[35]⟩ ++ rel)).data.toList 0 = [sp.size] := by
        rw [hl1, plL_mid m1, plL_no, len_toList, Nat.zero_add]
        rw [hl2]; simp only [List.mem_append, List.mem_cons, not_or]; exact ⟨m3, by decide, m5⟩
      have hN : plL 35 (sp ++ ⟨#[58]⟩ ++ (id ++ ⟨#[35]⟩ ++ rel)).data.toList 0 = [sp.size + 1 + id.size] := by
        rw [hl1, hl2, show sp.data.toList ++ 58 :: (id.data.toList ++ 35 :: rel.data.toList) = (sp.data.toList ++ 58 :: id.data.toList) ++ 35 :: rel.data.toList by simp, plL_mid (by simp only [List.mem_append, List.mem_cons, not_or]; exact ⟨m2, by decide, m4⟩), plL_no m6, List.length_append, List.length_cons, len_toList, len_toList]
        congr 1; omega
      have hcc : pfC ⟨#[]⟩ sp id rel true true = true := by unfold pfC; rw [hus0, hasA_no m2, hasA_no m5, hasA_no m6, hasA_no m3]; rfl
      have hcut : cutA (sp ++ ⟨#[58]⟩ ++ (id ++ ⟨#[35]⟩ ++ rel)) 58 = (sp, id ++ ⟨#[35]⟩ ++ rel, true) := cutA_mid m1
      have hcut2 : cutA (id ++ ⟨#[35]⟩ ++ rel) 35 = (id, rel, true) := cutA_mid m4
      subst hg
      unfold pfA relOf at hr
      rw [hcut0] at hr
      dsimp only at hr
      rw [hcut] at hr
      dsimp only at hr
      rw [hcut2] at hr
      dsimp only at hr
      rw [if_pos hcc] at hr
      clear hcut hcut2 hcut0 hcc hl1 hl2
      unfold pfB at hr
      have zs : sp.size ≤ 1000000 := by omega
      have zi : id.size ≤ 1000000 := by omega
      have zr : rel.size ≤ 1000000 := by omega
      have ad1 : IntKind.i64.wrap ((sp.size : Int) + 1) = ((sp.size + 1 : Nat) : Int) := wrap_i64 (by omega) (by omega) |>.trans (by omega)
      have ad2 : IntKind.i64.wrap (((sp.size + 1 + id.size : Nat) : Int) + 1) = ((sp.size + 1 + id.size + 1 : Nat) : Int) := wrap_i64 (by omega) (by omega) |>.trans (by omega)
      have e1 := fldE_cases sp
      have e2 := fldE_cases id
      have e3 := fldE_cases rel
      generalize sp ++ ⟨#[58]⟩ ++ (id ++ ⟨#[35]⟩ ++ rel) = s at *
      have ln1 : ([sp.size] : List Nat).length = 1 := rfl
      have ln2 : ([sp.size + 1 + id.size] : List Nat).length = 1 := rfl
      refine V_enter Try.func28 rfl Try.ntmps28 (Nat.le_of_ble_eq_true rfl) hB ?_
      by_cases q1 : fldE sp = 0 ∧ fldE id = 0 ∧ fldE rel = 0
      · obtain ⟨q1, q2, q3⟩ := q1
        rw [if_pos q1, if_pos q2, if_pos q3] at hr
        rw [if_neg (by decide)] at hr
        cases hr
        refine V_seq ?_; refine V_region (id := 0) ?_; refine vo_step (ok_alloc L rfl rfl rfl rfl) rfl ?_; refine vo_step (ok_assign rfl rfl rfl) rfl ?_; refine vo_nil ?_; refine N_seq ?_; refine V_seq ?_; refine V_region (id := 1) ?_; refine vo_step (ok_assign rfl rfl rfl) rfl ?_; refine vo_nil ?_; refine N_seq ?_; refine V_seq ?_; refine V_region (id := 2) ?_; refine vo_step (ok_move rfl rfl rfl) rfl ?_; refine vo_step (ok_call (φ := NI []) L rfl rfl (blt_lt rfl) rfl rfl rfl SlV.mono (fun u H hH _ _ => places_ret (c := 64) hA hs hH)) rfl ?_; refine vo_step (ok_assigns' rfl rfl rfl) rfl ?_; refine vo_nil ?_; refine N_seq ?_; refine V_seq ?_; refine V_region (id := 3) ?_; refine vo_step (ok_move rfl rfl rfl) rfl ?_; refine vo_step (ok_assign rfl rfl rfl) rfl ?_; refine vo_nil ?_; refine N_seq ?_; refine V_seq ?_; refine V_seq ?_; refine V_region (id := 4) ?_; refine vo_step (ok_moves' rfl rfl rfl) rfl ?_; refine vo_step (ok_lenV L rfl rfl rfl rfl) rfl ?_; refine vo_step (ok_gtr rfl rfl rfl rfl (decide_eq_false (by omega))) rfl ?_; refine vo_nil ?_; refine N_seq ?_; refine V_false rfl ?_; refine V_skip ?_; refine N_seq ?_; refine V_seq ?_; refine V_region (id := 6) ?_; refine vo_step (ok_move rfl rfl rfl) rfl ?_; refine vo_step (ok_call (φ := NI [sp.size]) L rfl rfl (blt_lt rfl) rfl rfl rfl SlV.mono (fun u H hH _ _ => places_ret (c := 58) hC hs hH)) rfl ?_; refine vo_step (ok_move rfl rfl rfl) rfl ?_; refine vo_step (ok_call (φ := NI [sp.size + 1 + id.size]) L rfl rfl (blt_lt rfl) rfl rfl rfl SlV.mono (fun u H hH _ _ => places_ret (c := 35) hN hs hH)) rfl ?_; refine vo_step (ok_assigns' rfl rfl rfl) rfl ?_; refine vo_step (ok_assigns' rfl rfl rfl) rfl ?_; refine vo_nil ?_; refine N_seq ?_; refine V_seq ?_; refine V_seq ?_; refine V_regionD (id := 7) [] mixed (by kernel_rfl) ?_; refine par_step (ok_moves' rfl rfl rfl) rfl ?_; refine par_step (ok_lenV L rfl rfl rfl rfl) rfl ?_; refine par_step (ok_gtr rfl rfl rfl rfl (decide_eq_false (by omega))) rfl ?_; refine par_step (ok_move rfl rfl rfl) rfl ?_; refine par_step (ok_moves' rfl rfl rfl) rfl ?_; refine par_step (ok_lenV L rfl rfl rfl rfl) rfl ?_; refine par_step (ok_neq rfl rfl rfl rfl (decide_eq_false (by omega))) rfl ?_; refine par_step (ok_pick rfl rfl rfl rfl) rfl ?_; refine par_step (ok_move rfl rfl rfl) rfl ?_; refine par_step (ok_moves' rfl rfl rfl) rfl ?_; refine par_step (ok_lenV L rfl rfl rfl rfl) rfl ?_; refine par_step (ok_neq rfl rfl rfl rfl (decide_eq_false (by omega))) rfl ?_; refine par_step (ok_pick rfl rfl rfl rfl) rfl ?_; refine par_step (ok_move rfl rfl rfl) rfl ?_; refine par_step (ok_moves' rfl rfl rfl) rfl ?_; refine par_step (ok_indexV L 0 rfl rfl rfl rfl rfl rfl rfl (by first | omega | decide) rfl) rfl ?_; refine par_step (ok_loadP1 L rfl rfl rfl rfl rfl) rfl ?_; refine par_step (ok_moves' rfl rfl rfl) rfl ?_; refine par_step (ok_indexV L 0 rfl rfl rfl rfl rfl rfl rfl (by first | omega | decide) rfl) rfl ?_; refine par_step (ok_loadP1 L rfl rfl rfl rfl rfl) rfl ?_; refine par_step (ok_lss rfl rfl rfl rfl (decide_eq_false (by omega))) rfl ?_; refine par_step (ok_pick rfl rfl rfl rfl) rfl ?_; refine par_nil ?_; refine N_seq ?_; refine V_false rfl ?_; refine V_skip ?_; refine N_seq ?_; refine V_seq ?_; refine V_region (id := 9) ?_; refine vo_step (ok_move rfl rfl rfl) rfl ?_; refine vo_step (ok_moves' rfl rfl rfl) rfl ?_; refine vo_step (ok_indexV L 0 rfl rfl rfl rfl rfl rfl rfl (by first | omega | decide) rfl) rfl ?_; refine vo_step (ok_loadP1 L rfl rfl rfl rfl rfl) rfl ?_; refine vo_step (ok_sliceS L (kl := .i64) (pl := 0) 0 sp.size rfl rfl rfl rfl rfl ⟨rfl, rfl⟩ (by omega) (by omega) y1) rfl ?_; refine vo_step (ok_callx L rfl rfl (blt_lt rfl) rfl rfl rfl (fun u H hH _ _ => part_ret rfl rfl zs hH)) rfl ?_; refine vo_step (ok_move rfl rfl rfl) rfl ?_; refine vo_step (ok_extract rfl rfl rfl rfl) rfl ?_; refine vo_step (ok_extract rfl rfl rfl rfl) rfl ?_; refine vo_step (ok_assign rfl rfl rfl) rfl ?_; refine vo_step (ok_assign rfl rfl rfl) rfl ?_; refine vo_nil ?_; refine N_seq ?_; refine V_seq ?_; refine V_regionD (id := 10) [] mixed (by kernel_rfl) ?_; refine par_step (ok_move rfl rfl rfl) rfl ?_; refine par_step (ok_moves' rfl rfl rfl) rfl ?_; refine par_step (ok_indexV L 0 rfl rfl rfl rfl rfl rfl rfl (by first | omega | decide) rfl) rfl ?_; refine par_step (ok_loadP1 L rfl rfl rfl rfl rfl) rfl ?_; refine par_step (ok_add rfl rfl rfl rfl (by assumption)) rfl ?_; refine par_step (ok_moves' rfl rfl rfl) rfl ?_; refine par_step (ok_indexV L 0 rfl rfl rfl rfl rfl rfl rfl (by first | omega | decide) rfl) rfl ?_; refine par_step (ok_loadP1 L rfl rfl rfl rfl rfl) rfl ?_; refine par_step (ok_sliceS L (sp.size + 1) (sp.size + 1 + id.size) rfl rfl rfl rfl ⟨rfl, rfl⟩ ⟨rfl, rfl⟩ (by omega) (by omega) y2) rfl ?_; refine par_step (ok_callx L rfl rfl (blt_lt rfl) rfl rfl rfl (fun u H hH _ _ => part_ret rfl rfl zi hH)) rfl ?_; refine par_step (ok_move rfl rfl rfl) rfl ?_; refine par_step (ok_extract rfl rfl rfl rfl) rfl ?_; refine par_step (ok_extract rfl rfl rfl rfl) rfl ?_; refine par_step (ok_assign rfl rfl rfl) rfl ?_; refine par_step (ok_assign rfl rfl rfl) rfl ?_; refine par_nil ?_; refine N_seq ?_; refine V_seq ?_; refine V_region (id := 11) ?_; refine vo_step (ok_move rfl rfl rfl) rfl ?_; refine vo_step (ok_moves' rfl rfl rfl) rfl ?_; refine vo_step (ok_indexV L 0 rfl rfl rfl rfl rfl rfl rfl (by first | omega | decide) rfl) rfl ?_; refine vo_step (ok_loadP1 L rfl rfl rfl rfl rfl) rfl ?_; refine vo_step (ok_add rfl rfl rfl rfl (by assumption)) rfl ?_; refine vo_step (ok_sliceS L (kh := .i64) (ph := 0) (sp.size + 1 + id.size + 1) _ rfl rfl rfl rfl ⟨rfl, rfl⟩ rfl (by omega) (by omega) y3) rfl ?_; refine vo_step (ok_callx L rfl rfl (blt_lt rfl) rfl rfl rfl (fun u H hH _ _ => part_ret rfl rfl zr hH)) rfl ?_; refine vo_step (ok_move rfl rfl rfl) rfl ?_; refine vo_step (ok_extract rfl rfl rfl rfl) rfl ?_; refine vo_step (ok_extract rfl rfl rfl rfl) rfl ?_; refine vo_step (ok_assign rfl rfl rfl) rfl ?_; refine vo_step (ok_assign rfl rfl rfl) rfl ?_; refine vo_nil ?_; refine N_seq ?_; refine V_seq ?_; refine V_seq ?_; refine V_region (id := 12) ?_; refine vo_step (ok_move rfl rfl rfl) rfl ?_; refine vo_step (ok_move rfl rfl rfl) rfl ?_; refine vo_step (ok_add rfl rfl rfl rfl (wrap_i64 (by omega) (by omega))) rfl ?_; refine vo_step (ok_move rfl rfl rfl) rfl ?_; refine vo_step (ok_add rfl rfl rfl rfl (wrap_i64 (by omega) (by omega))) rfl ?_; refine vo_step (ok_gtr rfl rfl rfl rfl (decide_eq_false (by omega))) rfl ?_; refine vo_nil ?_; refine N_seq ?_; refine V_false rfl ?_; refine V_skip ?_; refine N_seq ?_; refine V_seq ?_; refine V_region (id := 14) ?_; refine vo_step (ok_move rfl rfl rfl) rfl ?_; refine vo_step (ok_move rfl rfl rfl) rfl ?_; refine vo_step (ok_move rfl rfl rfl) rfl ?_; refine vo_step (ok_build (cs := [_, _, _, _, _, _, _]) rfl rfl pl36 rfl rfl) rfl ?_; refine vo_step (ok_alloc L rfl rfl rfl rfl) rfl ?_; refine vo_step (ok_store L rfl rfl rfl rfl rfl rfl rfl rfl) rfl ?_; refine vo_nil ?_; refine N_seq ?_; refine V_seq ?_; refine V_seq ?_; refine V_region (id := 15) ?_; refine vo_step (ok_moves' rfl rfl rfl) rfl ?_; refine vo_step (ok_lenV L rfl rfl rfl rfl) rfl ?_; refine vo_step (ok_eql rfl rfl rfl rfl (decide_eq_false (by omega))) rfl ?_; refine vo_nil ?_; refine N_seq ?_; refine V_false rfl ?_; refine V_skip ?_; refine N_seq ?_; refine V_seq ?_; refine V_region (id := 21) ?_; refine vo_step (ok_loadA L (vs := [_, _, _, _, _, _, _]) (src_own rfl) rfl rfl rfl rfl ⟨_, rfl⟩) rfl ?_; refine vo_step (ok_store L rfl rfl rfl rfl rfl rfl rfl rfl) rfl ?_; refine vo_step (ok_assign rfl rfl rfl) rfl ?_; refine vo_nil ?_; refine N_seq ?_
        refine V_ret L (rs := [.cell 2 36, .tmp 3]) rfl (fun _ _ h => h) Since.refl fun u H hH hle => ?_
        refine resK_cellA (src_own rfl) rfl rfl ?_
        rfl
      · have h6 : (x, e) = (nF, 6) := by
          rw [← hr]
          by_cases q2 : fldE sp = 0
          · rw [if_pos q2]
            by_cases q3 : fldE id = 0
            · rw [if_pos q3, if_neg fun h => q1 ⟨q2, q3, h⟩, show fldE rel = 6 from e3.resolve_left fun h => q1 ⟨q2, q3, h⟩]
            · rw [if_neg q3, show fldE id = 6 from e2.resolve_left q3]
          · rw [if_neg q2, show fldE sp = 6 from e1.resolve_left q2]
        cases h6
        clear hr
        have hpos : 0 < fldE sp + fldE id + fldE rel := by
          rcases e1 with e1 | e1
          · rcases e2 with e2 | e2
            · rcases e3 with e3 | e3
              · exact absurd ⟨e1, e2, e3⟩ q1
              · omega
            · omega
          · omega
        refine V_seq ?_; refine V_region (id := 0) ?_; refine vo_step (ok_alloc L rfl rfl rfl rfl) rfl ?_; refine vo_step (ok_assign rfl rfl rfl) rfl ?_; refine vo_nil ?_; refine N_seq ?_; refine V_seq ?_; refine V_region (id := 1) ?_; refine vo_step (ok_assign rfl rfl rfl) rfl ?_; refine vo_nil ?_; refine N_seq ?_; refine V_seq ?_; refine V_region (id := 2) ?_; refine vo_step (ok_move rfl rfl rfl) rfl ?_; refine vo_step (ok_call (φ := NI []) L rfl rfl (blt_lt rfl) rfl rfl rfl SlV.mono (fun u H hH _ _ => places_ret (c := 64) hA hs hH)) rfl ?_; refine vo_step (ok_assigns' rfl rfl rfl) rfl ?_; refine vo_nil ?_; refine N_seq ?_; refine V_seq ?_; refine V_region (id := 3) ?_; refine vo_step (ok_move rfl rfl rfl) rfl ?_; refine vo_step (ok_assign rfl rfl rfl) rfl ?_; refine vo_nil ?_; refine N_seq ?_; refine V_seq ?_; refine V_seq ?_; refine V_region (id := 4) ?_; refine vo_step (ok_moves' rfl rfl rfl) rfl ?_; refine vo_step (ok_lenV L rfl rfl rfl rfl) rfl ?_; refine vo_step (ok_gtr rfl rfl rfl rfl (decide_eq_false (by omega))) rfl ?_; refine vo_nil ?_; refine N_seq ?_; refine V_false rfl ?_; refine V_skip ?_; refine N_seq ?_; refine V_seq ?_; refine V_region (id := 6) ?_; refine vo_step (ok_move rfl rfl rfl) rfl ?_; refine vo_step (ok_call (φ := NI [sp.size]) L rfl rfl (blt_lt rfl) rfl rfl rfl SlV.mono (fun u H hH _ _ => places_ret (c := 58) hC hs hH)) rfl ?_; refine vo_step (ok_move rfl rfl rfl) rfl ?_; refine vo_step (ok_call (φ := NI [sp.size + 1 + id.size]) L rfl rfl (blt_lt rfl) rfl rfl rfl SlV.mono (fun u H hH _ _ => places_ret (c := 35) hN hs hH)) rfl ?_; refine vo_step (ok_assigns' rfl rfl rfl) rfl ?_; refine vo_step (ok_assigns' rfl rfl rfl) rfl ?_; refine vo_nil ?_; refine N_seq ?_; refine V_seq ?_; refine V_seq ?_; refine V_regionD (id := 7) [] mixed (by kernel_rfl) ?_; refine par_step (ok_moves' rfl rfl rfl) rfl ?_; refine par_step (ok_lenV L rfl rfl rfl rfl) rfl ?_; refine par_step (ok_gtr rfl rfl rfl rfl (decide_eq_false (by omega))) rfl ?_; refine par_step (ok_move rfl rfl rfl) rfl ?_; refine par_step (ok_moves' rfl rfl rfl) rfl ?_; refine par_step (ok_lenV L rfl rfl rfl rfl) rfl ?_; refine par_step (ok_neq rfl rfl rfl rfl (decide_eq_false (by omega))) rfl ?_; refine par_step (ok_pick rfl rfl rfl rfl) rfl ?_; refine par_step (ok_move rfl rfl rfl) rfl ?_; refine par_step (ok_moves' rfl rfl rfl) rfl ?_; refine par_step (ok_lenV L rfl rfl rfl rfl) rfl ?_; refine par_step (ok_neq rfl rfl rfl rfl (decide_eq_false (by omega))) rfl ?_; refine par_step (ok_pick rfl rfl rfl rfl) rfl ?_; refine par_step (ok_move rfl rfl rfl) rfl ?_; refine par_step (ok_moves' rfl rfl rfl) rfl ?_; refine par_step (ok_indexV L 0 rfl rfl rfl rfl rfl rfl rfl (by first | omega | decide) rfl) rfl ?_; refine par_step (ok_loadP1 L rfl rfl rfl rfl rfl) rfl ?_; refine par_step (ok_moves' rfl rfl rfl) rfl ?_; refine par_step (ok_indexV L 0 rfl rfl rfl rfl rfl rfl rfl (by first | omega | decide) rfl) rfl ?_; refine par_step (ok_loadP1 L rfl rfl rfl rfl rfl) rfl ?_; refine par_step (ok_lss rfl rfl rfl rfl (decide_eq_false (by omega))) rfl ?_; refine par_step (ok_pick rfl rfl rfl rfl) rfl ?_; refine par_nil ?_; refine N_seq ?_; refine V_false rfl ?_; refine V_skip ?_; refine N_seq ?_; refine V_seq ?_; refine V_region (id := 9) ?_; refine vo_step (ok_move rfl rfl rfl) rfl ?_; refine vo_step (ok_moves' rfl rfl rfl) rfl ?_; refine vo_step (ok_indexV L 0 rfl rfl rfl rfl rfl rfl rfl (by first | omega | decide) rfl) rfl ?_; refine vo_step (ok_loadP1 L rfl rfl rfl rfl rfl) rfl ?_; refine vo_step (ok_sliceS L (kl := .i64) (pl := 0) 0 sp.size rfl rfl rfl rfl rfl ⟨rfl, rfl⟩ (by omega) (by omega) y1) rfl ?_; refine vo_step (ok_callx L rfl rfl (blt_lt rfl) rfl rfl rfl (fun u H hH _ _ => part_ret rfl rfl zs hH)) rfl ?_; refine vo_step (ok_move rfl rfl rfl) rfl ?_; refine vo_step (ok_extract rfl rfl rfl rfl) rfl ?_; refine vo_step (ok_extract rfl rfl rfl rfl) rfl ?_; refine vo_step (ok_assign rfl rfl rfl) rfl ?_; refine vo_step (ok_assign rfl rfl rfl) rfl ?_; refine vo_nil ?_; refine N_seq ?_; refine V_seq ?_; refine V_regionD (id := 10) [] mixed (by kernel_rfl) ?_; refine par_step (ok_move rfl rfl rfl) rfl ?_; refine par_step (ok_moves' rfl rfl rfl) rfl ?_; refine par_step (ok_indexV L 0 rfl rfl rfl rfl rfl rfl rfl (by first | omega | decide) rfl) rfl ?_; refine par_step (ok_loadP1 L rfl rfl rfl rfl rfl) rfl ?_; refine par_step (ok_add rfl rfl rfl rfl (by assumption)) rfl ?_; refine par_step (ok_moves' rfl rfl rfl) rfl ?_; refine par_step (ok_indexV L 0 rfl rfl rfl rfl rfl rfl rfl (by first | omega | decide) rfl) rfl ?_; refine par_step (ok_loadP1 L rfl rfl rfl rfl rfl) rfl ?_; refine par_step (ok_sliceS L (sp.size + 1) (sp.size + 1 + id.size) rfl rfl rfl rfl ⟨rfl, rfl⟩ ⟨rfl, rfl⟩ (by omega) (by omega) y2) rfl ?_; refine par_step (ok_callx L rfl rfl (blt_lt rfl) rfl rfl rfl (fun u H hH _ _ => part_ret rfl rfl zi hH)) rfl ?_; refine par_step (ok_move rfl rfl rfl) rfl ?_; refine par_step (ok_extract rfl rfl rfl rfl) rfl ?_; refine par_step (ok_extract rfl rfl rfl rfl) rfl ?_; refine par_step (ok_assign rfl rfl rfl) rfl ?_; refine par_step (ok_assign rfl rfl rfl) rfl ?_; refine par_nil ?_; refine N_seq ?_; refine V_seq ?_; refine V_region (id := 11) ?_; refine vo_step (ok_move rfl rfl rfl) rfl ?_; refine vo_step (ok_moves' rfl rfl rfl) rfl ?_; refine vo_step (ok_indexV L 0 rfl rfl rfl rfl rfl rfl rfl (by first | omega | decide) rfl) rfl ?_; refine vo_step (ok_loadP1 L rfl rfl rfl rfl rfl) rfl ?_; refine vo_step (ok_add rfl rfl rfl rfl (by assumption)) rfl ?_; refine vo_step (ok_sliceS L (kh := .i64) (ph := 0) (sp.size + 1 + id.size + 1) _ rfl rfl rfl rfl ⟨rfl, rfl⟩ rfl (by omega) (by omega) y3) rfl ?_; refine vo_step (ok_callx L rfl rfl (blt_lt rfl) rfl rfl rfl (fun u H hH _ _ => part_ret rfl rfl zr hH)) rfl ?_; refine vo_step (ok_move rfl rfl rfl) rfl ?_; refine vo_step (ok_extract rfl rfl rfl rfl) rfl ?_; refine vo_step (ok_extract rfl rfl rfl rfl) rfl ?_; refine vo_step (ok_assign rfl rfl rfl) rfl ?_; refine vo_step (ok_assign rfl rfl rfl) rfl ?_; refine vo_nil ?_; refine N_seq ?_; refine V_seq ?_; refine V_seq ?_; refine V_region (id := 12) ?_; refine vo_step (ok_move rfl rfl rfl) rfl ?_; refine vo_step (ok_move rfl rfl rfl) rfl ?_; refine vo_step (ok_add rfl rfl rfl rfl (wrap_i64 (by omega) (by omega))) rfl ?_; refine vo_step (ok_move rfl rfl rfl) rfl ?_; refine vo_step (ok_add rfl rfl rfl rfl (wrap_i64 (by omega) (by omega))) rfl ?_; refine vo_step (ok_gtr rfl rfl rfl rfl (decide_eq_true (by omega))) rfl ?_; refine vo_nil ?_; refine N_seq ?_; refine V_true rfl ?_; refine V_seq ?_; refine V_region (id := 13) ?_; refine vo_step (ok_build (cs := [_, _, _, _, _, _, _]) rfl rfl pl36 rfl rfl) rfl ?_; refine vo_step (ok_store L rfl rfl rfl rfl rfl rfl rfl rfl) rfl ?_; refine vo_step (ok_assign rfl rfl rfl) rfl ?_; refine vo_nil ?_; refine N_seq ?_
        refine V_ret L (rs := [.cell 2 36, .tmp 3]) rfl (fun _ _ h => h) Since.refl fun u H hH hle => ?_
        refine resK_cellA (src_own rfl) rfl rfl ?_
        rfl
    · have hpf : x = nF ∧ e = 5 := by
        refine pf_form hr ?_
        unfold relOf
        rw [hcut0]
        dsimp only
        exact hb
      obtain ⟨rfl, rfl⟩ := hpf
      clear hr hb hcut0
      obtain ⟨C0, hC⟩ : ∃ C0, plL 58 s.data.toList 0 = C0 := ⟨_, rfl⟩
      obtain ⟨M0, hN⟩ : ∃ M0, plL 35 s.data.toList 0 = M0 := ⟨_, rfl⟩
      rw [hC, hN] at hbad
      refine V_enter Try.func28 rfl Try.ntmps28 (Nat.le_of_ble_eq_true rfl) hB ?_
      by_cases n1 : C0.length = 1
      · by_cases n2 : M0.length = 1
        · obtain ⟨m, c, rfl, rfl, hlt⟩ := (hbad.resolve_left fun h => h n1).resolve_left fun h => h n2
          have ln1 : ([c] : List Nat).length = 1 := rfl
          have ln2 : ([m] : List Nat).length = 1 := rfl
          refine V_seq ?_; refine V_region (id := 0) ?_; refine vo_step (ok_alloc L rfl rfl rfl rfl) rfl ?_; refine vo_step (ok_assign rfl rfl rfl) rfl ?_; refine vo_nil ?_; refine N_seq ?_; refine V_seq ?_; refine V_region (id := 1) ?_; refine vo_step (ok_assign rfl rfl rfl) rfl ?_; refine vo_nil ?_; refine N_seq ?_; refine V_seq ?_; refine V_region (id := 2) ?_; refine vo_step (ok_move rfl rfl rfl) rfl ?_; refine vo_step (ok_call (φ := NI []) L rfl rfl (blt_lt rfl) rfl rfl rfl SlV.mono (fun u H hH _ _ => places_ret (c := 64) hA hs hH)) rfl ?_; refine vo_step (ok_assigns' rfl rfl rfl) rfl ?_; refine vo_nil ?_; refine N_seq ?_; refine V_seq ?_; refine V_region (id := 3) ?_; refine vo_step (ok_move rfl rfl rfl) rfl ?_; refine vo_step (ok_assign rfl rfl rfl) rfl ?_; refine vo_nil ?_; refine N_seq ?_; refine V_seq ?_; refine V_seq ?_; refine V_region (id := 4) ?_; refine vo_step (ok_moves' rfl rfl rfl) rfl ?_; refine vo_step (ok_lenV L rfl rfl rfl rfl) rfl ?_; refine vo_step (ok_gtr rfl rfl rfl rfl (decide_eq_false (by omega))) rfl ?_; refine vo_nil ?_; refine N_seq ?_; refine V_false rfl ?_; refine V_skip ?_; refine N_seq ?_; refine V_seq ?_; refine V_region (id := 6) ?_; refine vo_step (ok_move rfl rfl rfl) rfl ?_; refine vo_step (ok_call (φ := NI [c]) L rfl rfl (blt_lt rfl) rfl rfl rfl SlV.mono (fun u H hH _ _ => places_ret (c := 58) hC hs hH)) rfl ?_; refine vo_step (ok_move rfl rfl rfl) rfl ?_; refine vo_step (ok_call (φ := NI [m]) L rfl rfl (blt_lt rfl) rfl rfl rfl SlV.mono (fun u H hH _ _ => places_ret (c := 35) hN hs hH)) rfl ?_; refine vo_step (ok_assigns' rfl rfl rfl) rfl ?_; refine vo_step (ok_assigns' rfl rfl rfl) rfl ?_; refine vo_nil ?_; refine N_seq ?_; refine V_seq ?_; refine V_seq ?_; refine V_regionD (id := 7) [] mixed (by kernel_rfl) ?_; refine par_step (ok_moves' rfl rfl rfl) rfl ?_; refine par_step (ok_lenV L rfl rfl rfl rfl) rfl ?_; refine par_step (ok_gtr rfl rfl rfl rfl (decide_eq_false (by omega))) rfl ?_; refine par_step (ok_move rfl rfl rfl) rfl ?_; refine par_step (ok_moves' rfl rfl rfl) rfl ?_; refine par_step (ok_lenV L rfl rfl rfl rfl) rfl ?_; refine par_step (ok_neq rfl rfl rfl rfl (decide_eq_false (by omega))) rfl ?_; refine par_step (ok_pick rfl rfl rfl rfl) rfl ?_; refine par_step (ok_move rfl rfl rfl) rfl ?_; refine par_step (ok_moves' rfl rfl rfl) rfl ?_; refine par_step (ok_lenV L rfl rfl rfl rfl) rfl ?_; refine par_step (ok_neq rfl rfl rfl rfl (decide_eq_false (by omega))) rfl ?_; refine par_step (ok_pick rfl rfl rfl rfl) rfl ?_; refine par_step (ok_move rfl rfl rfl) rfl ?_; refine par_step (ok_moves' rfl rfl rfl) rfl ?_; refine par_step (ok_indexV L 0 rfl rfl rfl rfl rfl rfl rfl (by first | omega | decide) rfl) rfl ?_; refine par_step (ok_loadP1 L rfl rfl rfl rfl rfl) rfl ?_; refine par_step (ok_moves' rfl rfl rfl) rfl ?_; refine par_step (ok_indexV L 0 rfl rfl rfl rfl rfl rfl rfl (by first | omega | decide) rfl) rfl ?_; refine par_step (ok_loadP1 L rfl rfl rfl rfl rfl) rfl ?_; refine par_step (ok_lss rfl rfl rfl rfl (decide_eq_true (by omega))) rfl ?_; refine par_step (ok_pick rfl rfl rfl rfl) rfl ?_; refine par_nil ?_; refine N_seq ?_; refine V_true rfl ?_; refine V_seq ?_; refine V_region (id := 8) ?_; refine vo_step (ok_build (cs := [_, _, _, _, _, _, _]) rfl rfl pl36 rfl rfl) rfl ?_; refine vo_step (ok_move rfl rfl rfl) rfl ?_; refine vo_step (ok_store L rfl rfl rfl rfl rfl rfl rfl rfl) rfl ?_; refine vo_step (ok_assign rfl rfl rfl) rfl ?_; refine vo_nil ?_; refine N_seq ?_
          refine V_ret L (rs := [.cell 2 36, .tmp 3]) rfl (fun _ _ h => h) Since.refl fun u H hH hle => ?_
          refine resK_cellA (src_own rfl) rfl rfl ?_
          rfl
        · refine V_seq ?_; refine V_region (id := 0) ?_; refine vo_step (ok_alloc L rfl rfl rfl rfl) rfl ?_; refine vo_step (ok_assign rfl rfl rfl) rfl ?_; refine vo_nil ?_; refine N_seq ?_; refine V_seq ?_; refine V_region (id := 1) ?_; refine vo_step (ok_assign rfl rfl rfl) rfl ?_; refine vo_nil ?_; refine N_seq ?_; refine V_seq ?_; refine V_region (id := 2) ?_; refine vo_step (ok_move rfl rfl rfl) rfl ?_; refine vo_step (ok_call (φ := NI []) L rfl rfl (blt_lt rfl) rfl rfl rfl SlV.mono (fun u H hH _ _ => places_ret (c := 64) hA hs hH)) rfl ?_; refine vo_step (ok_assigns' rfl rfl rfl) rfl ?_; refine vo_nil ?_; refine N_seq ?_; refine V_seq ?_; refine V_region (id := 3) ?_; refine vo_step (ok_move rfl rfl rfl) rfl ?_; refine vo_step (ok_assign rfl rfl rfl) rfl ?_; refine vo_nil ?_; refine N_seq ?_; refine V_seq ?_; refine V_seq ?_; refine V_region (id := 4) ?_; refine vo_step (ok_moves' rfl rfl rfl) rfl ?_; refine vo_step (ok_lenV L rfl rfl rfl rfl) rfl ?_; refine vo_step (ok_gtr rfl rfl rfl rfl (decide_eq_false (by omega))) rfl ?_; refine vo_nil ?_; refine N_seq ?_; refine V_false rfl ?_; refine V_skip ?_; refine N_seq ?_; refine V_seq ?_; refine V_region (id := 6) ?_; refine vo_step (ok_move rfl rfl rfl) rfl ?_; refine vo_step (ok_call (φ := NI C0) L rfl rfl (blt_lt rfl) rfl rfl rfl SlV.mono (fun u H hH _ _ => places_ret (c := 58) hC hs hH)) rfl ?_; refine vo_step (ok_move rfl rfl rfl) rfl ?_; refine vo_step (ok_call (φ := NI M0) L rfl rfl (blt_lt rfl) rfl rfl rfl SlV.mono (fun u H hH _ _ => places_ret (c := 35) hN hs hH)) rfl ?_; refine vo_step (ok_assigns' rfl rfl rfl) rfl ?_; refine vo_step (ok_assigns' rfl rfl rfl) rfl ?_; refine vo_nil ?_; refine N_seq ?_; refine V_seq ?_; refine V_seq ?_; refine V_regionD (id := 7) [] mixed (by kernel_rfl) ?_; refine par_step (ok_moves' rfl rfl rfl) rfl ?_; refine par_step (ok_lenV L rfl rfl rfl rfl) rfl ?_; refine par_step (ok_gtr rfl rfl rfl rfl (decide_eq_false (by omega))) rfl ?_; refine par_step (ok_move rfl rfl rfl) rfl ?_; refine par_step (ok_moves' rfl rfl rfl) rfl ?_; refine par_step (ok_lenV L rfl rfl rfl rfl) rfl ?_; refine par_step (ok_neq rfl rfl rfl rfl (decide_eq_false (by omega))) rfl ?_; refine par_step (ok_pick rfl rfl rfl rfl) rfl ?_; refine par_step (ok_move rfl rfl rfl) rfl ?_; refine par_step (ok_moves' rfl rfl rfl) rfl ?_; refine par_step (ok_lenV L rfl rfl rfl rfl) rfl ?_; refine par_step (ok_neq rfl rfl rfl rfl (decide_eq_true (by omega))) rfl ?_; refine par_step (ok_pick rfl rfl rfl rfl) rfl ?_; refine par_step (ok_move rfl rfl rfl) rfl ?_; refine par_step (ok_skip rfl (blt_lt rfl) rfl) rfl ?_; refine par_step (ok_skip rfl (blt_lt rfl) rfl) rfl ?_; refine par_step (ok_skip rfl (blt_lt rfl) rfl) rfl ?_; refine par_step (ok_skip rfl (blt_lt rfl) rfl) rfl ?_; refine par_step (ok_skip rfl (blt_lt rfl) rfl) rfl ?_; refine par_step (ok_skip rfl (blt_lt rfl) rfl) rfl ?_; refine par_step (ok_skip rfl (blt_lt rfl) rfl) rfl ?_; refine par_step (ok_pick rfl rfl rfl rfl) rfl ?_; refine par_nil ?_; refine N_seq ?_; refine V_true rfl ?_; refine V_seq ?_; refine V_region (id := 8) ?_; refine vo_step (ok_build (cs := [_, _, _, _, _, _, _]) rfl rfl pl36 rfl rfl) rfl ?_; refine vo_step (ok_move rfl rfl rfl) rfl ?_; refine vo_step (ok_store L rfl rfl rfl rfl rfl rfl rfl rfl) rfl ?_; refine vo_step (ok_assign rfl rfl rfl) rfl ?_; refine vo_nil ?_; refine N_seq ?_
          refine V_ret L (rs := [.cell 2 36, .tmp 3]) rfl (fun _ _ h => h) Since.refl fun u H hH hle => ?_
          refine resK_cellA (src_own rfl) rfl rfl ?_
          rfl
      · refine V_seq ?_; refine V_region (id := 0) ?_; refine vo_step (ok_alloc L rfl rfl rfl rfl) rfl ?_; refine vo_step (ok_assign rfl rfl rfl) rfl ?_; refine vo_nil ?_; refine N_seq ?_; refine V_seq ?_; refine V_region (id := 1) ?_; refine vo_step (ok_assign rfl rfl rfl) rfl ?_; refine vo_nil ?_; refine N_seq ?_; refine V_seq ?_; refine V_region (id := 2) ?_; refine vo_step (ok_move rfl rfl rfl) rfl ?_; refine vo_step (ok_call (φ := NI []) L rfl rfl (blt_lt rfl) rfl rfl rfl SlV.mono (fun u H hH _ _ => places_ret (c := 64) hA hs hH)) rfl ?_; refine vo_step (ok_assigns' rfl rfl rfl) rfl ?_; refine vo_nil ?_; refine N_seq ?_; refine V_seq ?_; refine V_region (id := 3) ?_; refine vo_step (ok_move rfl rfl rfl) rfl ?_; refine vo_step (ok_assign rfl rfl rfl) rfl ?_; refine vo_nil ?_; refine N_seq ?_; refine V_seq ?_; refine V_seq ?_; refine V_region (id := 4) ?_; refine vo_step (ok_moves' rfl rfl rfl) rfl ?_; refine vo_step (ok_lenV L rfl rfl rfl rfl) rfl ?_; refine vo_step (ok_gtr rfl rfl rfl rfl (decide_eq_false (by omega))) rfl ?_; refine vo_nil ?_; refine N_seq ?_; refine V_false rfl ?_; refine V_skip ?_; refine N_seq ?_; refine V_seq ?_; refine V_region (id := 6) ?_; refine vo_step (ok_move rfl rfl rfl) rfl ?_; refine vo_step (ok_call (φ := NI C0) L rfl rfl (blt_lt rfl) rfl rfl rfl SlV.mono (fun u H hH _ _ => places_ret (c := 58) hC hs hH)) rfl ?_; refine vo_step (ok_move rfl rfl rfl) rfl ?_; refine vo_step (ok_call (φ := NI M0) L rfl rfl (blt_lt rfl) rfl rfl rfl SlV.mono (fun u H hH _ _ => places_ret (c := 35) hN hs hH)) rfl ?_; refine vo_step (ok_assigns' rfl rfl rfl) rfl ?_; refine vo_step (ok_assigns' rfl rfl rfl) rfl ?_; refine vo_nil ?_; refine N_seq ?_; refine V_seq ?_; refine V_seq ?_; refine V_regionD (id := 7) [] mixed (by kernel_rfl) ?_; refine par_step (ok_moves' rfl rfl rfl) rfl ?_; refine par_step (ok_lenV L rfl rfl rfl rfl) rfl ?_; refine par_step (ok_gtr rfl rfl rfl rfl (decide_eq_false (by omega))) rfl ?_; refine par_step (ok_move rfl rfl rfl) rfl ?_; refine par_step (ok_moves' rfl rfl rfl) rfl ?_; refine par_step (ok_lenV L rfl rfl rfl rfl) rfl ?_; refine par_step (ok_neq rfl rfl rfl rfl (decide_eq_true (by omega))) rfl ?_; refine par_step (ok_pick rfl rfl rfl rfl) rfl ?_; refine par_step (ok_move rfl rfl rfl) rfl ?_; refine par_step (ok_skip rfl (blt_lt rfl) rfl) rfl ?_; refine par_step (ok_skip rfl (blt_lt rfl) rfl) rfl ?_; refine par_step (ok_skip rfl (blt_lt rfl) rfl) rfl ?_; refine par_step (ok_pick rfl rfl rfl rfl) rfl ?_; refine par_step (ok_move rfl rfl rfl) rfl ?_; refine par_step (ok_skip rfl (blt_lt rfl) rfl) rfl ?_; refine par_step (ok_skip rfl (blt_lt rfl) rfl) rfl ?_; refine par_step (ok_skip rfl (blt_lt rfl) rfl) rfl ?_; refine par_step (ok_skip rfl (blt_lt rfl) rfl) rfl ?_; refine par_step (ok_skip rfl (blt_lt rfl) rfl) rfl ?_; refine par_step (ok_skip rfl (blt_lt rfl) rfl) rfl ?_; refine par_step (ok_skip rfl (blt_lt rfl) rfl) rfl ?_; refine par_step (ok_pick rfl rfl rfl rfl) rfl ?_; refine par_nil ?_; refine N_seq ?_; refine V_true rfl ?_; refine V_seq ?_; refine V_region (id := 8) ?_; refine vo_step (ok_build (cs := [_, _, _, _, _, _, _]) rfl rfl pl36 rfl rfl) rfl ?_; refine vo_step (ok_move rfl rfl rfl) rfl ?_; refine vo_step (ok_store L rfl rfl rfl rfl rfl rfl rfl rfl) rfl ?_; refine vo_step (ok_assign rfl rfl rfl) rfl ?_; refine vo_nil ?_; refine N_seq ?_
        refine V_ret L (rs := [.cell 2 36, .tmp 3]) rfl (fun _ _ h => h) Since.refl fun u H hH hle => ?_
        refine resK_cellA (src_own rfl) rfl rfl ?_
        rfl
  · have hcut0 : cutA (g ++ ⟨#[64]⟩ ++ us) 64 = (g, us, true) := cutA_mid hg64
    have hls := mid_list g us 64
    have hsz := mid_size g us 64
    have gg : g.size ≤ 1000000 := by omega
    have zu : us.size ≤ 1000000 := by omega
    have xg := ext_pre g us 64
    have xu := ext_suf g us 64
    by_cases hu : noB us 64
    · have hA : plL 64 (g ++ ⟨#[64]⟩ ++ us).data.toList 0 = [g.size] := by rw [hls, plL_mid hg64, plL_no hu, len_toList, Nat.zero_add]
      clear hls hg64
      have ln0 : ([g.size] : List Nat).length = 1 := rfl
      rcases marks_or g with ⟨sp, id, rel, hm⟩ | ⟨hb, hbad⟩
      · obtain ⟨hg, m1, m2, m3, m4, m5, m6⟩ := hm
        have hl1 := mid_list sp (id ++ ⟨#[35]⟩ ++ rel) 58
        have hl2 := mid_list id rel 35
        have k1 := mid_size sp (id ++ ⟨#[35]⟩ ++ rel) 58
        have k2 := mid_size id rel 35
        have y1 := ext_pre sp (id ++ ⟨#[35]⟩ ++ rel) 58
        have y2 : (sp ++ ⟨#[58]⟩ ++ (id ++ ⟨#[35]⟩ ++ rel)).extract (sp.size + 1) (sp.size + 1 + id.size) = id := by
          have := ext_mid (sp ++ ⟨#[58]⟩) id (⟨#[35]⟩ ++ rel) (sp.size + 1) (sp.size + 1 + id.size) (by rw [ByteArray.size_append]; rfl) (by rw [ByteArray.size_append]; rfl)
          conv => rhs; rw [← this]
          congr 1; apply ba_ext'; simp [list_app]
        have y3 : (sp ++ ⟨#[58]⟩ ++ (id ++ ⟨#[35]⟩ ++ rel)).extract (sp.size + 1 + id.size + 1) (sp ++ ⟨#[58]⟩ ++ (id ++ ⟨#[35]⟩ ++ rel)).size = rel := by
          have := ext_mid (sp ++ ⟨#[58]⟩ ++ id ++ ⟨#[35]⟩) rel ⟨#[]⟩ (sp.size + 1 + id.size + 1) (sp ++ ⟨#[58]⟩ ++ (id ++ ⟨#[35]⟩ ++ rel)).size (by simp only [ByteArray.size_append]; rfl) (by simp only [ByteArray.size_append]; rw [show (⟨#[58]⟩ : ByteArray).size = 1 from rfl, show (⟨#[35]⟩ : ByteArray).size = 1 from rfl]; omega)
          conv => rhs; rw [← this]
          congr 1; apply ba_ext'; simp [list_app]
        have hC : plL 58 (sp ++ ⟨#[58]⟩ ++ (id ++ ⟨#[35]⟩ ++ rel)).data.toList 0 = [sp.size] := by
          rw [hl1, plL_mid m1, plL_no, len_toList, Nat.zero_add]
          rw [hl2]; simp only [List.mem_append, List.mem_cons, not_or]; exact ⟨m3, by decide, m5⟩
        have hN : plL 35 (sp ++ ⟨#[58]⟩ ++ (id ++ ⟨#[35]⟩ ++ rel)).data.toList 0 = [sp.size + 1 + id.size] := by
          rw [hl1, hl2, show sp.data.toList ++ 58 :: (id.data.toList ++ 35 :: rel.data.toList) = (sp.data.toList ++ 58 :: id.data.toList) ++ 35 :: rel.data.toList by simp, plL_mid (by simp only [List.mem_append, List.mem_cons, not_or]; exact ⟨m2, by decide, m4⟩), plL_no m6, List.length_append, List.length_cons, len_toList, len_toList]
          congr 1; omega
        have hcc : pfC us sp id rel true true = true := by unfold pfC; rw [hasA_no hu, hasA_no m2, hasA_no m5, hasA_no m6, hasA_no m3]; rfl
        have hcut : cutA (sp ++ ⟨#[58]⟩ ++ (id ++ ⟨#[35]⟩ ++ rel)) 58 = (sp, id ++ ⟨#[35]⟩ ++ rel, true) := cutA_mid m1
        have hcut2 : cutA (id ++ ⟨#[35]⟩ ++ rel) 35 = (id, rel, true) := cutA_mid m4
        subst hg
        unfold pfA relOf at hr
        rw [hcut0] at hr
        dsimp only at hr
        rw [hcut] at hr
        dsimp only at hr
        rw [hcut2] at hr
        dsimp only at hr
        rw [if_pos hcc] at hr
        clear hcut hcut2 hcut0 hcc hl1 hl2
        unfold pfB at hr
        have zs : sp.size ≤ 1000000 := by omega
        have zi : id.size ≤ 1000000 := by omega
        have zr : rel.size ≤ 1000000 := by omega
        have ad1 : IntKind.i64.wrap ((sp.size : Int) + 1) = ((sp.size + 1 : Nat) : Int) := wrap_i64 (by omega) (by omega) |>.trans (by omega)
        have ad2 : IntKind.i64.wrap (((sp.size + 1 + id.size : Nat) : Int) + 1) = ((sp.size + 1 + id.size + 1 : Nat) : Int) := wrap_i64 (by omega) (by omega) |>.trans (by omega)
        have ad3 : IntKind.i64.wrap ((((sp ++ ⟨#[58]⟩ ++ (id ++ ⟨#[35]⟩ ++ rel)).size : Nat) : Int) + 1) = (((sp ++ ⟨#[58]⟩ ++ (id ++ ⟨#[35]⟩ ++ rel)).size + 1 : Nat) : Int) := wrap_i64 (by omega) (by omega) |>.trans (by omega)
        have e1 := fldE_cases sp
        have e2 := fldE_cases id
        have e3 := fldE_cases rel
        generalize hgg : sp ++ ⟨#[58]⟩ ++ (id ++ ⟨#[35]⟩ ++ rel) = g at *
        generalize g ++ ⟨#[64]⟩ ++ us = s at *
        have ln1 : ([sp.size] : List Nat).length = 1 := rfl
        have ln2 : ([sp.size + 1 + id.size] : List Nat).length = 1 := rfl
        refine V_enter Try.func28 rfl Try.ntmps28 (Nat.le_of_ble_eq_true rfl) hB ?_
        by_cases q1 : fldE sp = 0 ∧ fldE id = 0 ∧ fldE rel = 0
        · obtain ⟨q1, q2, q3⟩ := q1
          rw [if_pos q1, if_pos q2, if_pos q3] at hr
          rw [if_pos rfl] at hr
          rw [ps_rp] at hr
          rcases hra : rp1 us with ⟨p1, p2, rel2, has2, e4⟩
          rw [hra] at hr
          dsimp only at hr
          by_cases q4 : e4 = 0
          · rw [if_pos q4] at hr
            dsimp only at hr
            rw [if_pos rfl] at hr
            cases hr
            refine V_seq ?_; refine V_region (id := 0) ?_; refine vo_step (ok_alloc L rfl rfl rfl rfl) rfl ?_; refine vo_step (ok_assign rfl rfl rfl) rfl ?_; refine vo_nil ?_; refine N_seq ?_; refine V_seq ?_; refine V_region (id := 1) ?_; refine vo_step (ok_assign rfl rfl rfl) rfl ?_; refine vo_nil ?_; refine N_seq ?_; refine V_seq ?_; refine V_region (id := 2) ?_; refine vo_step (ok_move rfl rfl rfl) rfl ?_; refine vo_step (ok_call (φ := NI [g.size]) L rfl rfl (blt_lt rfl) rfl rfl rfl SlV.mono (fun u H hH _ _ => places_ret (c := 64) hA hs hH)) rfl ?_; refine vo_step (ok_assigns' rfl rfl rfl) rfl ?_; refine vo_nil ?_; refine N_seq ?_; refine V_seq ?_; refine V_region (id := 3) ?_; refine vo_step (ok_move rfl rfl rfl) rfl ?_; refine vo_step (ok_assign rfl rfl rfl) rfl ?_; refine vo_nil ?_; refine N_seq ?_; refine V_seq ?_; refine V_seq ?_; refine V_region (id := 4) ?_; refine vo_step (ok_moves' rfl rfl rfl) rfl ?_; refine vo_step (ok_lenV L rfl rfl rfl rfl) rfl ?_; refine vo_step (ok_gtr rfl rfl rfl rfl (decide_eq_true (by omega))) rfl ?_; refine vo_nil ?_; refine N_seq ?_; refine V_true rfl ?_; refine V_region (id := 5) ?_; refine vo_step (ok_move rfl rfl rfl) rfl ?_; refine vo_step (ok_moves' rfl rfl rfl) rfl ?_; refine vo_step (ok_indexV L 0 rfl rfl rfl rfl rfl rfl rfl (by first | omega | decide) rfl) rfl ?_; refine vo_step (ok_loadP1 L rfl rfl rfl rfl rfl) rfl ?_; refine vo_step (ok_sliceS L (kl := .i64) (pl := 0) 0 g.size rfl rfl rfl rfl rfl ⟨rfl, rfl⟩ (by omega) (by omega) xg) rfl ?_; refine vo_step (ok_assign rfl rfl rfl) rfl ?_; refine vo_nil ?_; refine N_seq ?_; refine V_seq ?_; refine V_region (id := 6) ?_; refine vo_step (ok_move rfl rfl rfl) rfl ?_; refine vo_step (ok_call (φ := NI [sp.size]) L rfl rfl (blt_lt rfl) rfl rfl rfl SlV.mono (fun u H hH _ _ => places_ret (c := 58) hC gg hH)) rfl ?_; refine vo_step (ok_move rfl rfl rfl) rfl ?_; refine vo_step (ok_call (φ := NI [sp.size + 1 + id.size]) L rfl rfl (blt_lt rfl) rfl rfl rfl SlV.mono (fun u H hH _ _ => places_ret (c := 35) hN gg hH)) rfl ?_; refine vo_step (ok_assigns' rfl rfl rfl) rfl ?_; refine vo_step (ok_assigns' rfl rfl rfl) rfl ?_; refine vo_nil ?_; refine N_seq ?_; refine V_seq ?_; refine V_seq ?_; refine V_regionD (id := 7) [] mixed (by kernel_rfl) ?_; refine par_step (ok_moves' rfl rfl rfl) rfl ?_; refine par_step (ok_lenV L rfl rfl rfl rfl) rfl ?_; refine par_step (ok_gtr rfl rfl rfl rfl (decide_eq_false (by omega))) rfl ?_; refine par_step (ok_move rfl rfl rfl) rfl ?_; refine par_step (ok_moves' rfl rfl rfl) rfl ?_; refine par_step (ok_lenV L rfl rfl rfl rfl) rfl ?_; refine par_step (ok_neq rfl rfl rfl rfl (decide_eq_false (by omega))) rfl ?_; refine par_step (ok_pick rfl rfl rfl rfl) rfl ?_; refine par_step (ok_move rfl rfl rfl) rfl ?_; refine par_step (ok_moves' rfl rfl rfl) rfl ?_; refine par_step (ok_lenV L rfl rfl rfl rfl) rfl ?_; refine par_step (ok_neq rfl rfl rfl rfl (decide_eq_false (by omega))) rfl ?_; refine par_step (ok_pick rfl rfl rfl rfl) rfl ?_; refine par_step (ok_move rfl rfl rfl) rfl ?_; refine par_step (ok_moves' rfl rfl rfl) rfl ?_; refine par_step (ok_indexV L 0 rfl rfl rfl rfl rfl rfl rfl (by first | omega | decide) rfl) rfl ?_; refine par_step (ok_loadP1 L rfl rfl rfl rfl rfl) rfl ?_; refine par_step (ok_moves' rfl rfl rfl) rfl ?_; refine par_step (ok_indexV L 0 rfl rfl rfl rfl rfl rfl rfl (by first | omega | decide) rfl) rfl ?_; refine par_step (ok_loadP1 L rfl rfl rfl rfl rfl) rfl ?_; refine par_step (ok_lss rfl rfl rfl rfl (decide_eq_false (by omega))) rfl ?_; refine par_step (ok_pick rfl rfl rfl rfl) rfl ?_; refine par_nil ?_; refine N_seq ?_; refine V_false rfl ?_; refine V_skip ?_; refine N_seq ?_; refine V_seq ?_; refine V_region (id := 9) ?_; refine vo_step (ok_move rfl rfl rfl) rfl ?_; refine vo_step (ok_moves' rfl rfl rfl) rfl ?_; refine vo_step (ok_indexV L 0 rfl rfl rfl rfl rfl rfl rfl (by first | omega | decide) rfl) rfl ?_; refine vo_step (ok_loadP1 L rfl rfl rfl rfl rfl) rfl ?_; refine vo_step (ok_sliceS L (kl := .i64) (pl := 0) 0 sp.size rfl rfl rfl rfl rfl ⟨rfl, rfl⟩ (by omega) (by omega) y1) rfl ?_; refine vo_step (ok_callx L rfl rfl (blt_lt rfl) rfl rfl rfl (fun u H hH _ _ => part_ret rfl rfl zs hH)) rfl ?_; refine vo_step (ok_move rfl rfl rfl) rfl ?_; refine vo_step (ok_extract rfl rfl rfl rfl) rfl ?_; refine vo_step (ok_extract rfl rfl rfl rfl) rfl ?_; refine vo_step (ok_assign rfl rfl rfl) rfl ?_; refine vo_step (ok_assign rfl rfl rfl) rfl ?_; refine vo_nil ?_; refine N_seq ?_; refine V_seq ?_; refine V_regionD (id := 10) [] mixed (by kernel_rfl) ?_; refine par_step (ok_move rfl rfl rfl) rfl ?_; refine par_step (ok_moves' rfl rfl rfl) rfl ?_; refine par_step (ok_indexV L 0 rfl rfl rfl rfl rfl rfl rfl (by first | omega | decide) rfl) rfl ?_; refine par_step (ok_loadP1 L rfl rfl rfl rfl rfl) rfl ?_; refine par_step (ok_add rfl rfl rfl rfl (by assumption)) rfl ?_; refine par_step (ok_moves' rfl rfl rfl) rfl ?_; refine par_step (ok_indexV L 0 rfl rfl rfl rfl rfl rfl rfl (by first | omega | decide) rfl) rfl ?_; refine par_step (ok_loadP1 L rfl rfl rfl rfl rfl) rfl ?_; refine par_step (ok_sliceS L (sp.size + 1) (sp.size + 1 + id.size) rfl rfl rfl rfl ⟨rfl, rfl⟩ ⟨rfl, rfl⟩ (by omega) (by omega) y2) rfl ?_; refine par_step (ok_callx L rfl rfl (blt_lt rfl) rfl rfl rfl (fun u H hH _ _ => part_ret rfl rfl zi hH)) rfl ?_; refine par_step (ok_move rfl rfl rfl) rfl ?_; refine par_step (ok_extract rfl rfl rfl rfl) rfl ?_; refine par_step (ok_extract rfl rfl rfl rfl) rfl ?_; refine par_step (ok_assign rfl rfl rfl) rfl ?_; refine par_step (ok_assign rfl rfl rfl) rfl ?_; refine par_nil ?_; refine N_seq ?_; refine V_seq ?_; refine V_region (id := 11) ?_; refine vo_step (ok_move rfl rfl rfl) rfl ?_; refine vo_step (ok_moves' rfl rfl rfl) rfl ?_; refine vo_step (ok_indexV L 0 rfl rfl rfl rfl rfl rfl rfl (by first | omega | decide) rfl) rfl ?_; refine vo_step (ok_loadP1 L rfl rfl rfl rfl rfl) rfl ?_; refine vo_step (ok_add rfl rfl rfl rfl (by assumption)) rfl ?_; refine vo_step (ok_sliceS L (kh := .i64) (ph := 0) (sp.size + 1 + id.size + 1) _ rfl rfl rfl rfl ⟨rfl, rfl⟩ rfl (by omega) (by omega) y3) rfl ?_; refine vo_step (ok_callx L rfl rfl (blt_lt rfl) rfl rfl rfl (fun u H hH _ _ => part_ret rfl rfl zr hH)) rfl ?_; refine vo_step (ok_move rfl rfl rfl) rfl ?_; refine vo_step (ok_extract rfl rfl rfl rfl) rfl ?_; refine vo_step (ok_extract rfl rfl rfl rfl) rfl ?_; refine vo_step (ok_assign rfl rfl rfl) rfl ?_; refine vo_step (ok_assign rfl rfl rfl) rfl ?_; refine vo_nil ?_; refine N_seq ?_; refine V_seq ?_; refine V_seq ?_; refine V_region (id := 12) ?_; refine vo_step (ok_move rfl rfl rfl) rfl ?_; refine vo_step (ok_move rfl rfl rfl) rfl ?_; refine vo_step (ok_add rfl rfl rfl rfl (wrap_i64 (by omega) (by omega))) rfl ?_; refine vo_step (ok_move rfl rfl rfl) rfl ?_; refine vo_step (ok_add rfl rfl rfl rfl (wrap_i64 (by omega) (by omega))) rfl ?_; refine vo_step (ok_gtr rfl rfl rfl rfl (decide_eq_false (by omega))) rfl ?_; refine vo_nil ?_; refine N_seq ?_; refine V_false rfl ?_; refine V_skip ?_; refine N_seq ?_; refine V_seq ?_; refine V_region (id := 14) ?_; refine vo_step (ok_move rfl rfl rfl) rfl ?_; refine vo_step (ok_move rfl rfl rfl) rfl ?_; refine vo_step (ok_move rfl rfl rfl) rfl ?_; refine vo_step (ok_build (cs := [_, _, _, _, _, _, _]) rfl rfl pl36 rfl rfl) rfl ?_; refine vo_step (ok_alloc L rfl rfl rfl rfl) rfl ?_; refine vo_step (ok_store L rfl rfl rfl rfl rfl rfl rfl rfl) rfl ?_; refine vo_nil ?_; refine N_seq ?_; refine V_seq ?_; refine V_seq ?_; refine V_region (id := 15) ?_; refine vo_step (ok_moves' rfl rfl rfl) rfl ?_; refine vo_step (ok_lenV L rfl rfl rfl rfl) rfl ?_; refine vo_step (ok_eql rfl rfl rfl rfl (decide_eq_true (by omega))) rfl ?_; refine vo_nil ?_; refine N_seq ?_; refine V_true rfl ?_; refine V_seq ?_; refine V_region (id := 16) ?_; refine vo_step (ok_move rfl rfl rfl) rfl ?_; refine vo_step (ok_moves' rfl rfl rfl) rfl ?_; refine vo_step (ok_indexV L 0 rfl rfl rfl rfl rfl rfl rfl (by first | omega | decide) rfl) rfl ?_; refine vo_step (ok_loadP1 L rfl rfl rfl rfl rfl) rfl ?_; refine vo_step (ok_add rfl rfl rfl rfl (by assumption)) rfl ?_; refine vo_step (ok_sliceS L (kh := .i64) (ph := 0) (g.size + 1) _ rfl rfl rfl rfl ⟨rfl, rfl⟩ rfl (by omega) (by omega) xu) rfl ?_; refine vo_step (ok_callx L rfl rfl (blt_lt rfl) rfl rfl rfl (fun u H hH _ _ => rparse1_ret' hra zu hH)) rfl ?_; refine vo_step (ok_move rfl rfl rfl) rfl ?_; refine vo_step (ok_extract rfl rfl rfl rfl) rfl ?_; refine vo_step (ok_extract rfl rfl rfl rfl) rfl ?_; refine vo_step (ok_extract rfl rfl rfl rfl) rfl ?_; refine vo_step (ok_extract rfl rfl rfl rfl) rfl ?_; refine vo_step (ok_alloc L rfl rfl rfl rfl) rfl ?_; refine vo_step (ok_store L rfl rfl rfl rfl rfl rfl rfl rfl) rfl ?_; refine vo_step (ok_assign rfl rfl rfl) rfl ?_; refine vo_step (ok_assign rfl rfl rfl) rfl ?_; refine vo_step (ok_assign rfl rfl rfl) rfl ?_; refine vo_nil ?_; refine N_seq ?_; refine V_seq ?_; refine V_seq ?_; refine V_region (id := 17) ?_; refine vo_step (ok_move rfl rfl rfl) rfl ?_; refine vo_step (ok_neq rfl rfl rfl rfl (decide_eq_false (by omega))) rfl ?_; refine vo_nil ?_; refine N_seq ?_; refine V_false rfl ?_; refine V_skip ?_; refine N_seq ?_; refine V_seq ?_
            refine V_hold 15 903 rfl fun b => ?_
            refine V_region (id := 19) ?_; refine vo_step (ok_fieldP L rfl rfl rfl rfl) rfl ?_; refine vo_stepS (ok_storeH L (q := 903) rfl rfl rfl rfl rfl rfl rfl rfl rfl) ?_; refine vo_nil ?_; refine N_seq ?_; refine V_region (id := 20) ?_; refine vo_step (ok_loadA L (vs := [_, _]) (src_own rfl) rfl rfl rfl rfl ⟨_, rfl⟩) rfl ?_; refine vo_step (ok_move rfl rfl rfl) rfl ?_; refine vo_step (ok_build (cs := [_, _, _]) rfl rfl pl34 rfl rfl) rfl ?_; refine vo_step (ok_fieldP L rfl rfl rfl rfl) rfl ?_; refine vo_stepS (ok_storeH L (q := 903) rfl rfl rfl rfl rfl rfl rfl rfl rfl) ?_; refine vo_nil ?_; refine N_seq ?_; refine V_seq ?_; refine V_region (id := 21) ?_; refine vo_stepR (ok_loadHA L (q := 903) (vs := [_, _, _, _, _, _, _]) rfl rfl rfl rfl rfl rfl ⟨_, rfl⟩) ?_; refine vo_step (ok_store L rfl rfl rfl rfl rfl rfl rfl rfl) rfl ?_; refine vo_step (ok_assign rfl rfl rfl) rfl ?_; refine vo_nil ?_; refine N_seq ?_
            refine V_ret L (rs := [.cell 2 36, .tmp 3]) rfl (fun _ _ h => h) Since.refl fun u H hH hle => ?_
            refine resK_cellA (src_own rfl) rfl rfl ?_
            rfl
          · rw [if_neg q4] at hr
            dsimp only at hr
            rw [if_neg q4] at hr
            cases hr
            refine V_seq ?_; refine V_region (id := 0) ?_; refine vo_step (ok_alloc L rfl rfl rfl rfl) rfl ?_; refine vo_step (ok_assign rfl rfl rfl) rfl ?_; refine vo_nil ?_; refine N_seq ?_; refine V_seq ?_; refine V_region (id := 1) ?_; refine vo_step (ok_assign rfl rfl rfl) rfl ?_; refine vo_nil ?_; refine N_seq ?_; refine V_seq ?_; refine V_region (id := 2) ?_; refine vo_step (ok_move rfl rfl rfl) rfl ?_; refine vo_step (ok_call (φ := NI [g.size]) L rfl rfl (blt_lt rfl) rfl rfl rfl SlV.mono (fun u H hH _ _ => places_ret (c := 64) hA hs hH)) rfl ?_; refine vo_step (ok_assigns' rfl rfl rfl) rfl ?_; refine vo_nil ?_; refine N_seq ?_; refine V_seq ?_; refine V_region (id := 3) ?_; refine vo_step (ok_move rfl rfl rfl) rfl ?_; refine vo_step (ok_assign rfl rfl rfl) rfl ?_; refine vo_nil ?_; refine N_seq ?_; refine V_seq ?_; refine V_seq ?_; refine V_region (id := 4) ?_; refine vo_step (ok_moves' rfl rfl rfl) rfl ?_; refine vo_step (ok_lenV L rfl rfl rfl rfl) rfl ?_; refine vo_step (ok_gtr rfl rfl rfl rfl (decide_eq_true (by omega))) rfl ?_; refine vo_nil ?_; refine N_seq ?_; refine V_true rfl ?_; refine V_region (id := 5) ?_; refine vo_step (ok_move rfl rfl rfl) rfl ?_; refine vo_step (ok_moves' rfl rfl rfl) rfl ?_; refine vo_step (ok_indexV L 0 rfl rfl rfl rfl rfl rfl rfl (by first | omega | decide) rfl) rfl ?_; refine vo_step (ok_loadP1 L rfl rfl rfl rfl rfl) rfl ?_; refine vo_step (ok_sliceS L (kl := .i64) (pl := 0) 0 g.size rfl rfl rfl rfl rfl ⟨rfl, rfl⟩ (by omega) (by omega) xg) rfl ?_; refine vo_step (ok_assign rfl rfl rfl) rfl ?_; refine vo_nil ?_; refine N_seq ?_; refine V_seq ?_; refine V_region (id := 6) ?_; refine vo_step (ok_move rfl rfl rfl) rfl ?_; refine vo_step (ok_call (φ := NI [sp.size]) L rfl rfl (blt_lt rfl) rfl rfl rfl SlV.mono (fun u H hH _ _ => places_ret (c := 58) hC gg hH)) rfl ?_; refine vo_step (ok_move rfl rfl rfl) rfl ?_; refine vo_step (ok_call (φ := NI [sp.size + 1 + id.size]) L rfl rfl (blt_lt rfl) rfl rfl rfl SlV.mono (fun u H hH _ _ => places_ret (c := 35) hN gg hH)) rfl ?_; refine vo_step (ok_assigns' rfl rfl rfl) rfl ?_; refine vo_step (ok_assigns' rfl rfl rfl) rfl ?_; refine vo_nil ?_; refine N_seq ?_; refine V_seq ?_; refine V_seq ?_; refine V_regionD (id := 7) [] mixed (by kernel_rfl) ?_; refine par_step (ok_moves' rfl rfl rfl) rfl ?_; refine par_step (ok_lenV L rfl rfl rfl rfl) rfl ?_; refine par_step (ok_gtr rfl rfl rfl rfl (decide_eq_false (by omega))) rfl ?_; refine par_step (ok_move rfl rfl rfl) rfl ?_; refine par_step (ok_moves' rfl rfl rfl) rfl ?_; refine par_step (ok_lenV L rfl rfl rfl rfl) rfl ?_; refine par_step (ok_neq rfl rfl rfl rfl (decide_eq_false (by omega))) rfl ?_; refine par_step (ok_pick rfl rfl rfl rfl) rfl ?_; refine par_step (ok_move rfl rfl rfl) rfl ?_; refine par_step (ok_moves' rfl rfl rfl) rfl ?_; refine par_step (ok_lenV L rfl rfl rfl rfl) rfl ?_; refine par_step (ok_neq rfl rfl rfl rfl (decide_eq_false (by omega))) rfl ?_; refine par_step (ok_pick rfl rfl rfl rfl) rfl ?_; refine par_step (ok_move rfl rfl rfl) rfl ?_; refine par_step (ok_moves' rfl rfl rfl) rfl ?_; refine par_step (ok_indexV L 0 rfl rfl rfl rfl rfl rfl rfl (by first | omega | decide) rfl) rfl ?_; refine par_step (ok_loadP1 L rfl rfl rfl rfl rfl) rfl ?_; refine par_step (ok_moves' rfl rfl rfl) rfl ?_; refine par_step (ok_indexV L 0 rfl rfl rfl rfl rfl rfl rfl (by first | omega | decide) rfl) rfl ?_; refine par_step (ok_loadP1 L rfl rfl rfl rfl rfl) rfl ?_; refine par_step (ok_lss rfl rfl rfl rfl (decide_eq_false (by omega))) rfl ?_; refine par_step (ok_pick rfl rfl rfl rfl) rfl ?_; refine par_nil ?_; refine N_seq ?_; refine V_false rfl ?_; refine V_skip ?_; refine N_seq ?_; refine V_seq ?_; refine V_region (id := 9) ?_; refine vo_step (ok_move rfl rfl rfl) rfl ?_; refine vo_step (ok_moves' rfl rfl rfl) rfl ?_; refine vo_step (ok_indexV L 0 rfl rfl rfl rfl rfl rfl rfl (by first | omega | decide) rfl) rfl ?_; refine vo_step (ok_loadP1 L rfl rfl rfl rfl rfl) rfl ?_; refine vo_step (ok_sliceS L (kl := .i64) (pl := 0) 0 sp.size rfl rfl rfl rfl rfl ⟨rfl, rfl⟩ (by omega) (by omega) y1) rfl ?_; refine vo_step (ok_callx L rfl rfl (blt_lt rfl) rfl rfl rfl (fun u H hH _ _ => part_ret rfl rfl zs hH)) rfl ?_; refine vo_step (ok_move rfl rfl rfl) rfl ?_; refine vo_step (ok_extract rfl rfl rfl rfl) rfl ?_; refine vo_step (ok_extract rfl rfl rfl rfl) rfl ?_; refine vo_step (ok_assign rfl rfl rfl) rfl ?_; refine vo_step (ok_assign rfl rfl rfl) rfl ?_; refine vo_nil ?_; refine N_seq ?_; refine V_seq ?_; refine V_regionD (id := 10) [] mixed (by kernel_rfl) ?_; refine par_step (ok_move rfl rfl rfl) rfl ?_; refine par_step (ok_moves' rfl rfl rfl) rfl ?_; refine par_step (ok_indexV L 0 rfl rfl rfl rfl rfl rfl rfl (by first | omega | decide) rfl) rfl ?_; refine par_step (ok_loadP1 L rfl rfl rfl rfl rfl) rfl ?_; refine par_step (ok_add rfl rfl rfl rfl (by assumption)) rfl ?_; refine par_step (ok_moves' rfl rfl rfl) rfl ?_; refine par_step (ok_indexV L 0 rfl rfl rfl rfl rfl rfl rfl (by first | omega | decide) rfl) rfl ?_; refine par_step (ok_loadP1 L rfl rfl rfl rfl rfl) rfl ?_; refine par_step (ok_sliceS L (sp.size + 1) (sp.size + 1 + id.size) rfl rfl rfl rfl ⟨rfl, rfl⟩ ⟨rfl, rfl⟩ (by omega) (by omega) y2) rfl ?_; refine par_step (ok_callx L rfl rfl (blt_lt rfl) rfl rfl rfl (fun u H hH _ _ => part_ret rfl rfl zi hH)) rfl ?_; refine par_step (ok_move rfl rfl rfl) rfl ?_; refine par_step (ok_extract rfl rfl rfl rfl) rfl ?_; refine par_step (ok_extract rfl rfl rfl rfl) rfl ?_; refine par_step (ok_assign rfl rfl rfl) rfl ?_; refine par_step (ok_assign rfl rfl rfl) rfl ?_; refine par_nil ?_; refine N_seq ?_; refine V_seq ?_; refine V_region (id := 11) ?_; refine vo_step (ok_move rfl rfl rfl) rfl ?_; refine vo_step (ok_moves' rfl rfl rfl) rfl ?_; refine vo_step (ok_indexV L 0 rfl rfl rfl rfl rfl rfl rfl (by first | omega | decide) rfl) rfl ?_; refine vo_step (ok_loadP1 L rfl rfl rfl rfl rfl) rfl ?_; refine vo_step (ok_add rfl rfl rfl rfl (by assumption)) rfl ?_; refine vo_step (ok_sliceS L (kh := .i64) (ph := 0) (sp.size + 1 + id.size + 1) _ rfl rfl rfl rfl ⟨rfl, rfl⟩ rfl (by omega) (by omega) y3) rfl ?_; refine vo_step (ok_callx L rfl rfl (blt_lt rfl) rfl rfl rfl (fun u H hH _ _ => part_ret rfl rfl zr hH)) rfl ?_; refine vo_step (ok_move rfl rfl rfl) rfl ?_; refine vo_step (ok_extract rfl rfl rfl rfl) rfl ?_; refine vo_step (ok_extract rfl rfl rfl rfl) rfl ?_; refine vo_step (ok_assign rfl rfl rfl) rfl ?_; refine vo_step (ok_assign rfl rfl rfl) rfl ?_; refine vo_nil ?_; refine N_seq ?_; refine V_seq ?_; refine V_seq ?_; refine V_region (id := 12) ?_; refine vo_step (ok_move rfl rfl rfl) rfl ?_; refine vo_step (ok_move rfl rfl rfl) rfl ?_; refine vo_step (ok_add rfl rfl rfl rfl (wrap_i64 (by omega) (by omega))) rfl ?_; refine vo_step (ok_move rfl rfl rfl) rfl ?_; refine vo_step (ok_add rfl rfl rfl rfl (wrap_i64 (by omega) (by omega))) rfl ?_; refine vo_step (ok_gtr rfl rfl rfl rfl (decide_eq_false (by omega))) rfl ?_; refine vo_nil ?_; refine N_seq ?_; refine V_false rfl ?_; refine V_skip ?_; refine N_seq ?_; refine V_seq ?_; refine V_region (id := 14) ?_; refine vo_step (ok_move rfl rfl rfl) rfl ?_; refine vo_step (ok_move rfl rfl rfl) rfl ?_; refine vo_step (ok_move rfl rfl rfl) rfl ?_; refine vo_step (ok_build (cs := [_, _, _, _, _, _, _]) rfl rfl pl36 rfl rfl) rfl ?_; refine vo_step (ok_alloc L rfl rfl rfl rfl) rfl ?_; refine vo_step (ok_store L rfl rfl rfl rfl rfl rfl rfl rfl) rfl ?_; refine vo_nil ?_; refine N_seq ?_; refine V_seq ?_; refine V_seq ?_; refine V_region (id := 15) ?_; refine vo_step (ok_moves' rfl rfl rfl) rfl ?_; refine vo_step (ok_lenV L rfl rfl rfl rfl) rfl ?_; refine vo_step (ok_eql rfl rfl rfl rfl (decide_eq_true (by omega))) rfl ?_; refine vo_nil ?_; refine N_seq ?_; refine V_true rfl ?_; refine V_seq ?_; refine V_region (id := 16) ?_; refine vo_step (ok_move rfl rfl rfl) rfl ?_; refine vo_step (ok_moves' rfl rfl rfl) rfl ?_; refine vo_step (ok_indexV L 0 rfl rfl rfl rfl rfl rfl rfl (by first | omega | decide) rfl) rfl ?_; refine vo_step (ok_loadP1 L rfl rfl rfl rfl rfl) rfl ?_; refine vo_step (ok_add rfl rfl rfl rfl (by assumption)) rfl ?_; refine vo_step (ok_sliceS L (kh := .i64) (ph := 0) (g.size + 1) _ rfl rfl rfl rfl ⟨rfl, rfl⟩ rfl (by omega) (by omega) xu) rfl ?_; refine vo_step (ok_callx L rfl rfl (blt_lt rfl) rfl rfl rfl (fun u H hH _ _ => rparse1_ret' hra zu hH)) rfl ?_; refine vo_step (ok_move rfl rfl rfl) rfl ?_; refine vo_step (ok_extract rfl rfl rfl rfl) rfl ?_; refine vo_step (ok_extract rfl rfl rfl rfl) rfl ?_; refine vo_step (ok_extract rfl rfl rfl rfl) rfl ?_; refine vo_step (ok_extract rfl rfl rfl rfl) rfl ?_; refine vo_step (ok_alloc L rfl rfl rfl rfl) rfl ?_; refine vo_step (ok_store L rfl rfl rfl rfl rfl rfl rfl rfl) rfl ?_; refine vo_step (ok_assign rfl rfl rfl) rfl ?_; refine vo_step (ok_assign rfl rfl rfl) rfl ?_; refine vo_step (ok_assign rfl rfl rfl) rfl ?_; refine vo_nil ?_; refine N_seq ?_; refine V_seq ?_; refine V_seq ?_; refine V_region (id := 17) ?_; refine vo_step (ok_move rfl rfl rfl) rfl ?_; refine vo_step (ok_neq rfl rfl rfl rfl (decide_eq_true (by omega))) rfl ?_; refine vo_nil ?_; refine N_seq ?_; refine V_true rfl ?_; refine V_seq ?_; refine V_region (id := 18) ?_; refine vo_step (ok_build (cs := [_, _, _, _, _, _, _]) rfl rfl pl36 rfl rfl) rfl ?_; refine vo_step (ok_move rfl rfl rfl) rfl ?_; refine vo_step (ok_store L rfl rfl rfl rfl rfl rfl rfl rfl) rfl ?_; refine vo_step (ok_assign rfl rfl rfl) rfl ?_; refine vo_nil ?_; refine N_seq ?_
            refine V_ret L (rs := [.cell 2 36, .tmp 3]) rfl (fun _ _ h => h) Since.refl fun u H hH hle => ?_
            refine resK_cellA (src_own rfl) rfl rfl ?_
            rfl
        · have h6 : (x, e) = (nF, 6) := by
            rw [← hr]
            by_cases q2 : fldE sp = 0
            · rw [if_pos q2]
              by_cases q3 : fldE id = 0
              · rw [if_pos q3, if_neg fun h => q1 ⟨q2, q3, h⟩, show fldE rel = 6 from e3.resolve_left fun h => q1 ⟨q2, q3, h⟩]
              · rw [if_neg q3, show fldE id = 6 from e2.resolve_left q3]
            · rw [if_neg q2, show fldE sp = 6 from e1.resolve_left q2]
          cases h6
          clear hr
          have hpos : 0 < fldE sp + fldE id + fldE rel := by
            rcases e1 with e1 | e1
            · rcases e2 with e2 | e2
              · rcases e3 with e3 | e3
                · exact absurd ⟨e1, e2, e3⟩ q1
                · omega
              · omega
            · omega
          refine V_seq ?_; refine V_region (id := 0) ?_; refine vo_step (ok_alloc L rfl rfl rfl rfl) rfl ?_; refine vo_step (ok_assign rfl rfl rfl) rfl ?_; refine vo_nil ?_; refine N_seq ?_; refine V_seq ?_; refine V_region (id := 1) ?_; refine vo_step (ok_assign rfl rfl rfl) rfl ?_; refine vo_nil ?_; refine N_seq ?_; refine V_seq ?_; refine V_region (id := 2) ?_; refine vo_step (ok_move rfl rfl rfl) rfl ?_; refine vo_step (ok_call (φ := NI [g.size]) L rfl rfl (blt_lt rfl) rfl rfl rfl SlV.mono (fun u H hH _ _ => places_ret (c := 64) hA hs hH)) rfl ?_; refine vo_step (ok_assigns' rfl rfl rfl) rfl ?_; refine vo_nil ?_; refine N_seq ?_; refine V_seq ?_; refine V_region (id := 3) ?_; refine vo_step (ok_move rfl rfl rfl) rfl ?_; refine vo_step (ok_assign rfl rfl rfl) rfl ?_; refine vo_nil ?_; refine N_seq ?_; refine V_seq ?_; refine V_seq ?_; refine V_region (id := 4) ?_; refine vo_step (ok_moves' rfl rfl rfl) rfl ?_; refine vo_step (ok_lenV L rfl rfl rfl rfl) rfl ?_; refine vo_step (ok_gtr rfl rfl rfl rfl (decide_eq_true (by omega))) rfl ?_; refine vo_nil ?_; refine N_seq ?_; refine V_true rfl ?_; refine V_region (id := 5) ?_; refine vo_step (ok_move rfl rfl rfl) rfl ?_; refine vo_step (ok_moves' rfl rfl rfl) rfl ?_; refine vo_step (ok_indexV L 0 rfl rfl rfl rfl rfl rfl rfl (by first | omega | decide) rfl) rfl ?_; refine vo_step (ok_loadP1 L rfl rfl rfl rfl rfl) rfl ?_; refine vo_step (ok_sliceS L (kl := .i64) (pl := 0) 0 g.size rfl rfl rfl rfl rfl ⟨rfl, rfl⟩ (by omega) (by omega) xg) rfl ?_; refine vo_step (ok_assign rfl rfl rfl) rfl ?_; refine vo_nil ?_; refine N_seq ?_; refine V_seq ?_; refine V_region (id := 6) ?_; refine vo_step (ok_move rfl rfl rfl) rfl ?_; refine vo_step (ok_call (φ := NI [sp.size]) L rfl rfl (blt_lt rfl) rfl rfl rfl SlV.mono (fun u H hH _ _ => places_ret (c := 58) hC gg hH)) rfl ?_; refine vo_step (ok_move rfl rfl rfl) rfl ?_; refine vo_step (ok_call (φ := NI [sp.size + 1 + id.size]) L rfl rfl (blt_lt rfl) rfl rfl rfl SlV.mono (fun u H hH _ _ => places_ret (c := 35) hN gg hH)) rfl ?_; refine vo_step (ok_assigns' rfl rfl rfl) rfl ?_; refine vo_step (ok_assigns' rfl rfl rfl) rfl ?_; refine vo_nil ?_; refine N_seq ?_; refine V_seq ?_; refine V_seq ?_; refine V_regionD (id := 7) [] mixed (by kernel_rfl) ?_; refine par_step (ok_moves' rfl rfl rfl) rfl ?_; refine par_step (ok_lenV L rfl rfl rfl rfl) rfl ?_; refine par_step (ok_gtr rfl rfl rfl rfl (decide_eq_false (by omega))) rfl ?_; refine par_step (ok_move rfl rfl rfl) rfl ?_; refine par_step (ok_moves' rfl rfl rfl) rfl ?_; refine par_step (ok_lenV L rfl rfl rfl rfl) rfl ?_; refine par_step (ok_neq rfl rfl rfl rfl (decide_eq_false (by omega))) rfl ?_; refine par_step (ok_pick rfl rfl rfl rfl) rfl ?_; refine par_step (ok_move rfl rfl rfl) rfl ?_; refine par_step (ok_moves' rfl rfl rfl) rfl ?_; refine par_step (ok_lenV L rfl rfl rfl rfl) rfl ?_; refine par_step (ok_neq rfl rfl rfl rfl (decide_eq_false (by omega))) rfl ?_; refine par_step (ok_pick rfl rfl rfl rfl) rfl ?_; refine par_step (ok_move rfl rfl rfl) rfl ?_; refine par_step (ok_moves' rfl rfl rfl) rfl ?_; refine par_step (ok_indexV L 0 rfl rfl rfl rfl rfl rfl rfl (by first | omega | decide) rfl) rfl ?_; refine par_step (ok_loadP1 L rfl rfl rfl rfl rfl) rfl ?_; refine par_step (ok_moves' rfl rfl rfl) rfl ?_; refine par_step (ok_indexV L 0 rfl rfl rfl rfl rfl rfl rfl (by first | omega | decide) rfl) rfl ?_; refine par_step (ok_loadP1 L rfl rfl rfl rfl rfl) rfl ?_; refine par_step (ok_lss rfl rfl rfl rfl (decide_eq_false (by omega))) rfl ?_; refine par_step (ok_pick rfl rfl rfl rfl) rfl ?_; refine par_nil ?_; refine N_seq ?_; refine V_false rfl ?_; refine V_skip ?_; refine N_seq ?_; refine V_seq ?_; refine V_region (id := 9) ?_; refine vo_step (ok_move rfl rfl rfl) rfl ?_; refine vo_step (ok_moves' rfl rfl rfl) rfl ?_; refine vo_step (ok_indexV L 0 rfl rfl rfl rfl rfl rfl rfl (by first | omega | decide) rfl) rfl ?_; refine vo_step (ok_loadP1 L rfl rfl rfl rfl rfl) rfl ?_; refine vo_step (ok_sliceS L (kl := .i64) (pl := 0) 0 sp.size rfl rfl rfl rfl rfl ⟨rfl, rfl⟩ (by omega) (by omega) y1) rfl ?_; refine vo_step (ok_callx L rfl rfl (blt_lt rfl) rfl rfl rfl (fun u H hH _ _ => part_ret rfl rfl zs hH)) rfl ?_; refine vo_step (ok_move rfl rfl rfl) rfl ?_; refine vo_step (ok_extract rfl rfl rfl rfl) rfl ?_; refine vo_step (ok_extract rfl rfl rfl rfl) rfl ?_; refine vo_step (ok_assign rfl rfl rfl) rfl ?_; refine vo_step (ok_assign rfl rfl rfl) rfl ?_; refine vo_nil ?_; refine N_seq ?_; refine V_seq ?_; refine V_regionD (id := 10) [] mixed (by kernel_rfl) ?_; refine par_step (ok_move rfl rfl rfl) rfl ?_; refine par_step (ok_moves' rfl rfl rfl) rfl ?_; refine par_step (ok_indexV L 0 rfl rfl rfl rfl rfl rfl rfl (by first | omega | decide) rfl) rfl ?_; refine par_step (ok_loadP1 L rfl rfl rfl rfl rfl) rfl ?_; refine par_step (ok_add rfl rfl rfl rfl (by assumption)) rfl ?_; refine par_step (ok_moves' rfl rfl rfl) rfl ?_; refine par_step (ok_indexV L 0 rfl rfl rfl rfl rfl rfl rfl (by first | omega | decide) rfl) rfl ?_; refine par_step (ok_loadP1 L rfl rfl rfl rfl rfl) rfl ?_; refine par_step (ok_sliceS L (sp.size + 1) (sp.size + 1 + id.size) rfl rfl rfl rfl ⟨rfl, rfl⟩ ⟨rfl, rfl⟩ (by omega) (by omega) y2) rfl ?_; refine par_step (ok_callx L rfl rfl (blt_lt rfl) rfl rfl rfl (fun u H hH _ _ => part_ret rfl rfl zi hH)) rfl ?_; refine par_step (ok_move rfl rfl rfl) rfl ?_; refine par_step (ok_extract rfl rfl rfl rfl) rfl ?_; refine par_step (ok_extract rfl rfl rfl rfl) rfl ?_; refine par_step (ok_assign rfl rfl rfl) rfl ?_; refine par_step (ok_assign rfl rfl rfl) rfl ?_; refine par_nil ?_; refine N_seq ?_; refine V_seq ?_; refine V_region (id := 11) ?_; refine vo_step (ok_move rfl rfl rfl) rfl ?_; refine vo_step (ok_moves' rfl rfl rfl) rfl ?_; refine vo_step (ok_indexV L 0 rfl rfl rfl rfl rfl rfl rfl (by first | omega | decide) rfl) rfl ?_; refine vo_step (ok_loadP1 L rfl rfl rfl rfl rfl) rfl ?_; refine vo_step (ok_add rfl rfl rfl rfl (by assumption)) rfl ?_; refine vo_step (ok_sliceS L (kh := .i64) (ph := 0) (sp.size + 1 + id.size + 1) _ rfl rfl rfl rfl ⟨rfl, rfl⟩ rfl (by omega) (by omega) y3) rfl ?_; refine vo_step (ok_callx L rfl rfl (blt_lt rfl) rfl rfl rfl (fun u H hH _ _ => part_ret rfl rfl zr hH)) rfl ?_; refine vo_step (ok_move rfl rfl rfl) rfl ?_; refine vo_step (ok_extract rfl rfl rfl rfl) rfl ?_; refine vo_step (ok_extract rfl rfl rfl rfl) rfl ?_; refine vo_step (ok_assign rfl rfl rfl) rfl ?_; refine vo_step (ok_assign rfl rfl rfl) rfl ?_; refine vo_nil ?_; refine N_seq ?_; refine V_seq ?_; refine V_seq ?_; refine V_region (id := 12) ?_; refine vo_step (ok_move rfl rfl rfl) rfl ?_; refine vo_step (ok_move rfl rfl rfl) rfl ?_; refine vo_step (ok_add rfl rfl rfl rfl (wrap_i64 (by omega) (by omega))) rfl ?_; refine vo_step (ok_move rfl rfl rfl) rfl ?_; refine vo_step (ok_add rfl rfl rfl rfl (wrap_i64 (by omega) (by omega))) rfl ?_; refine vo_step (ok_gtr rfl rfl rfl rfl (decide_eq_true (by omega))) rfl ?_; refine vo_nil ?_; refine N_seq ?_; refine V_true rfl ?_; refine V_seq ?_; refine V_region (id := 13) ?_; refine vo_step (ok_build (cs := [_, _, _, _, _, _, _]) rfl rfl pl36 rfl rfl) rfl ?_; refine vo_step (ok_store L rfl rfl rfl rfl rfl rfl rfl rfl) rfl ?_; refine vo_step (ok_assign rfl rfl rfl) rfl ?_; refine vo_nil ?_; refine N_seq ?_
          refine V_ret L (rs := [.cell 2 36, .tmp 3]) rfl (fun _ _ h => h) Since.refl fun u H hH hle => ?_
          refine resK_cellA (src_own rfl) rfl rfl ?_
          rfl
      · have hpf : x = nF ∧ e = 5 := by
          refine pf_form hr ?_
          unfold relOf
          rw [hcut0]
          dsimp only
          rw [pfC_us (hasA_no hu)]; exact hb
        obtain ⟨rfl, rfl⟩ := hpf
        clear hr hb hcut0
        obtain ⟨C0, hC⟩ : ∃ C0, plL 58 g.data.toList 0 = C0 := ⟨_, rfl⟩
        obtain ⟨M0, hN⟩ : ∃ M0, plL 35 g.data.toList 0 = M0 := ⟨_, rfl⟩
        rw [hC, hN] at hbad
        generalize g ++ ⟨#[64]⟩ ++ us = s at *
        refine V_enter Try.func28 rfl Try.ntmps28 (Nat.le_of_ble_eq_true rfl) hB ?_
        by_cases n1 : C0.length = 1
        · by_cases n2 : M0.length = 1
          · obtain ⟨m, c, rfl, rfl, hlt⟩ := (hbad.resolve_left fun h => h n1).resolve_left fun h => h n2
            have ln1 : ([c] : List Nat).length = 1 := rfl
            have ln2 : ([m] : List Nat).length = 1 := rfl
            refine V_seq ?_; refine V_region (id := 0) ?_; refine vo_step (ok_alloc L rfl rfl rfl rfl) rfl ?_; refine vo_step (ok_assign rfl rfl rfl) rfl ?_; refine vo_nil ?_; refine N_seq ?_; refine V_seq ?_; refine V_region (id := 1) ?_; refine vo_step (ok_assign rfl rfl rfl) rfl ?_; refine vo_nil ?_; refine N_seq ?_; refine V_seq ?_; refine V_region (id := 2) ?_; refine vo_step (ok_move rfl rfl rfl) rfl ?_; refine vo_step (ok_call (φ := NI [g.size]) L rfl rfl (blt_lt rfl) rfl rfl rfl SlV.mono (fun u H hH _ _ => places_ret (c := 64) hA hs hH)) rfl ?_; refine vo_step (ok_assigns' rfl rfl rfl) rfl ?_; refine vo_nil ?_; refine N_seq ?_; refine V_seq ?_; refine V_region (id := 3) ?_; refine vo_step (ok_move rfl rfl rfl) rfl ?_; refine vo_step (ok_assign rfl rfl rfl) rfl ?_; refine vo_nil ?_; refine N_seq ?_; refine V_seq ?_; refine V_seq ?_; refine V_region (id := 4) ?_; refine vo_step (ok_moves' rfl rfl rfl) rfl ?_; refine vo_step (ok_lenV L rfl rfl rfl rfl) rfl ?_; refine vo_step (ok_gtr rfl rfl rfl rfl (decide_eq_true (by omega))) rfl ?_; refine vo_nil ?_; refine N_seq ?_; refine V_true rfl ?_; refine V_region (id := 5) ?_; refine vo_step (ok_move rfl rfl rfl) rfl ?_; refine vo_step (ok_moves' rfl rfl rfl) rfl ?_; refine vo_step (ok_indexV L 0 rfl rfl rfl rfl rfl rfl rfl (by first | omega | decide) rfl) rfl ?_; refine vo_step (ok_loadP1 L rfl rfl rfl rfl rfl) rfl ?_; refine vo_step (ok_sliceS L (kl := .i64) (pl := 0) 0 g.size rfl rfl rfl rfl rfl ⟨rfl, rfl⟩ (by omega) (by omega) xg) rfl ?_; refine vo_step (ok_assign rfl rfl rfl) rfl ?_; refine vo_nil ?_; refine N_seq ?_; refine V_seq ?_; refine V_region (id := 6) ?_; refine vo_step (ok_move rfl rfl rfl) rfl ?_; refine vo_step (ok_call (φ := NI [c]) L rfl rfl (blt_lt rfl) rfl rfl rfl SlV.mono (fun u H hH _ _ => places_ret (c := 58) hC gg hH)) rfl ?_; refine vo_step (ok_move rfl rfl rfl) rfl ?_; refine vo_step (ok_call (φ := NI [m]) L rfl rfl (blt_lt rfl) rfl rfl rfl SlV.mono (fun u H hH _ _ => places_ret (c := 35) hN gg hH)) rfl ?_; refine vo_step (ok_assigns' rfl rfl rfl) rfl ?_; refine vo_step (ok_assigns' rfl rfl rfl) rfl ?_; refine vo_nil ?_; refine N_seq ?_; refine V_seq ?_; refine V_seq ?_; refine V_regionD (id := 7) [] mixed (by kernel_rfl) ?_; refine par_step (ok_moves' rfl rfl rfl) rfl ?_; refine par_step (ok_lenV L rfl rfl rfl rfl) rfl ?_; refine par_step (ok_gtr rfl rfl rfl rfl (decide_eq_false (by omega))) rfl ?_; refine par_step (ok_move rfl rfl rfl) rfl ?_; refine par_step (ok_moves' rfl rfl rfl) rfl ?_; refine par_step (ok_lenV L rfl rfl rfl rfl) rfl ?_; refine par_step (ok_neq rfl rfl rfl rfl (decide_eq_false (by omega))) rfl ?_; refine par_step (ok_pick rfl rfl rfl rfl) rfl ?_; refine par_step (ok_move rfl rfl rfl) rfl ?_; refine par_step (ok_moves' rfl rfl rfl) rfl ?_; refine par_step (ok_lenV L rfl rfl rfl rfl) rfl ?_; refine par_step (ok_neq rfl rfl rfl rfl (decide_eq_false (by omega))) rfl ?_; refine par_step (ok_pick rfl rfl rfl rfl) rfl ?_; refine par_step (ok_move rfl rfl rfl) rfl ?_; refine par_step (ok_moves' rfl rfl rfl) rfl ?_; refine par_step (ok_indexV L 0 rfl rfl rfl rfl rfl rfl rfl (by first | omega | decide) rfl) rfl ?_; refine par_step (ok_loadP1 L rfl rfl rfl rfl rfl) rfl ?_; refine par_step (ok_moves' rfl rfl rfl) rfl ?_; refine par_step (ok_indexV L 0 rfl rfl rfl rfl rfl rfl rfl (by first | omega | decide) rfl) rfl ?_; refine par_step (ok_loadP1 L rfl rfl rfl rfl rfl) rfl ?_; refine par_step (ok_lss rfl rfl rfl rfl (decide_eq_true (by omega))) rfl ?_; refine par_step (ok_pick rfl rfl rfl rfl) rfl ?_; refine par_nil ?_; refine N_seq ?_; refine V_true rfl ?_; refine V_seq ?_; refine V_region (id := 8) ?_; refine vo_step (ok_build (cs := [_, _, _, _, _, _, _]) rfl rfl pl36 rfl rfl) rfl ?_; refine vo_step (ok_move rfl rfl rfl) rfl ?_; refine vo_step (ok_store L rfl rfl rfl rfl rfl rfl rfl rfl) rfl ?_; refine vo_step (ok_assign rfl rfl rfl) rfl ?_; refine vo_nil ?_; refine N_seq ?_
            refine V_ret L (rs := [.cell 2 36, .tmp 3]) rfl (fun _ _ h => h) Since.refl fun u H hH hle => ?_
            refine resK_cellA (src_own rfl) rfl rfl ?_
            rfl
          · refine V_seq ?_; refine V_region (id := 0) ?_; refine vo_step (ok_alloc L rfl rfl rfl rfl) rfl ?_; refine vo_step (ok_assign rfl rfl rfl) rfl ?_; refine vo_nil ?_; refine N_seq ?_; refine V_seq ?_; refine V_region (id := 1) ?_; refine vo_step (ok_assign rfl rfl rfl) rfl ?_; refine vo_nil ?_; refine N_seq ?_; refine V_seq ?_; refine V_region (id := 2) ?_; refine vo_step (ok_move rfl rfl rfl) rfl ?_; refine vo_step (ok_call (φ := NI [g.size]) L rfl rfl (blt_lt rfl) rfl rfl rfl SlV.mono (fun u H hH _ _ => places_ret (c := 64) hA hs hH)) rfl ?_; refine vo_step (ok_assigns' rfl rfl rfl) rfl ?_; refine vo_nil ?_; refine N_seq ?_; refine V_seq ?_; refine V_region (id := 3) ?_; refine vo_step (ok_move rfl rfl rfl) rfl ?_; refine vo_step (ok_assign rfl rfl rfl) rfl ?_; refine vo_nil ?_; refine N_seq ?_; refine V_seq ?_; refine V_seq ?_; refine V_region (id := 4) ?_; refine vo_step (ok_moves' rfl rfl rfl) rfl ?_; refine vo_step (ok_lenV L rfl rfl rfl rfl) rfl ?_; refine vo_step (ok_gtr rfl rfl rfl rfl (decide_eq_true (by omega))) rfl ?_; refine vo_nil ?_; refine N_seq ?_; refine V_true rfl ?_; refine V_region (id := 5) ?_; refine vo_step (ok_move rfl rfl rfl) rfl ?_; refine vo_step (ok_moves' rfl rfl rfl) rfl ?_; refine vo_step (ok_indexV L 0 rfl rfl rfl rfl rfl rfl rfl (by first | omega | decide) rfl) rfl ?_; refine vo_step (ok_loadP1 L rfl rfl rfl rfl rfl) rfl ?_; refine vo_step (ok_sliceS L (kl := .i64) (pl := 0) 0 g.size rfl rfl rfl rfl rfl ⟨rfl, rfl⟩ (by omega) (by omega) xg) rfl ?_; refine vo_step (ok_assign rfl rfl rfl) rfl ?_; refine vo_nil ?_; refine N_seq ?_; refine V_seq ?_; refine V_region (id := 6) ?_; refine vo_step (ok_move rfl rfl rfl) rfl ?_; refine vo_step (ok_call (φ := NI C0) L rfl rfl (blt_lt rfl) rfl rfl rfl SlV.mono (fun u H hH _ _ => places_ret (c := 58) hC gg hH)) rfl ?_; refine vo_step (ok_move rfl rfl rfl) rfl ?_; refine vo_step (ok_call (φ := NI M0) L rfl rfl (blt_lt rfl) rfl rfl rfl SlV.mono (fun u H hH _ _ => places_ret (c := 35) hN gg hH)) rfl ?_; refine vo_step (ok_assigns' rfl rfl rfl) rfl ?_; refine vo_step (ok_assigns' rfl rfl rfl) rfl ?_; refine vo_nil ?_; refine N_seq ?_; refine V_seq ?_; refine V_seq ?_; refine V_regionD (id := 7) [] mixed (by kernel_rfl) ?_; refine par_step (ok_moves' rfl rfl rfl) rfl ?_; refine par_step (ok_lenV L rfl rfl rfl rfl) rfl ?_; refine par_step (ok_gtr rfl rfl rfl rfl (decide_eq_false (by omega))) rfl ?_; refine par_step (ok_move rfl rfl rfl) rfl ?_; refine par_step (ok_moves' rfl rfl rfl) rfl ?_; refine par_step (ok_lenV L rfl rfl rfl rfl) rfl ?_; refine par_step (ok_neq rfl rfl rfl rfl (decide_eq_false (by omega))) rfl ?_; refine par_step (ok_pick rfl rfl rfl rfl) rfl ?_; refine par_step (ok_move rfl rfl rfl) rfl ?_; refine par_step (ok_moves' rfl rfl rfl) rfl ?_; refine par_step (ok_lenV L rfl rfl rfl rfl) rfl ?_; refine par_step (ok_neq rfl rfl rfl rfl (decide_eq_true (by omega))) rfl ?_; refine par_step (ok_pick rfl rfl rfl rfl) rfl ?_; refine par_step (ok_move rfl rfl rfl) rfl ?_; refine par_step (ok_skip rfl (blt_lt rfl) rfl) rfl ?_; refine par_step (ok_skip rfl (blt_lt rfl) rfl) rfl ?_; refine par_step (ok_skip rfl (blt_lt rfl) rfl) rfl ?_; refine par_step (ok_skip rfl (blt_lt rfl) rfl) rfl ?_; refine par_step (ok_skip rfl (blt_lt rfl) rfl) rfl ?_; refine par_step (ok_skip rfl (blt_lt rfl) rfl) rfl ?_; refine par_step (ok_skip rfl (blt_lt rfl) rfl) rfl ?_; refine par_step (ok_pick rfl rfl rfl rfl) rfl ?_; refine par_nil ?_; refine N_seq ?_; refine V_true rfl ?_; refine V_seq ?_; refine V_region (id := 8) ?_; refine vo_step (ok_build (cs := [_, _, _, _, _, _, _]) rfl rfl pl36 rfl rfl) rfl ?_; refine vo_step (ok_move rfl rfl rfl) rfl ?_; refine vo_step (ok_store L rfl rfl rfl rfl rfl rfl rfl rfl) rfl ?_; refine vo_step (ok_assign rfl rfl rfl) rfl ?_; refine vo_nil ?_; refine N_seq ?_
            refine V_ret L (rs := [.cell 2 36, .tmp 3]) rfl (fun _ _ h => h) Since.refl fun u H hH hle => ?_
            refine resK_cellA (src_own rfl) rfl rfl ?_
            rfl
        · refine V_seq ?_; refine V_region (id := 0) ?_; refine vo_step (ok_alloc L rfl rfl rfl rfl) rfl ?_; refine vo_step (ok_assign rfl rfl rfl) rfl ?_; refine vo_nil ?_; refine N_seq ?_; refine V_seq ?_; refine V_region (id := 1) ?_; refine vo_step (ok_assign rfl rfl rfl) rfl ?_; refine vo_nil ?_; refine N_seq ?_; refine V_seq ?_; refine V_region (id := 2) ?_; refine vo_step (ok_move rfl rfl rfl) rfl ?_; refine vo_step (ok_call (φ := NI [g.size]) L rfl rfl (blt_lt rfl) rfl rfl rfl SlV.mono (fun u H hH _ _ => places_ret (c := 64) hA hs hH)) rfl ?_; refine vo_step (ok_assigns' rfl rfl rfl) rfl ?_; refine vo_nil ?_; refine N_seq ?_; refine V_seq ?_; refine V_region (id := 3) ?_; refine vo_step (ok_move rfl rfl rfl) rfl ?_; refine vo_step (ok_assign rfl rfl rfl) rfl ?_; refine vo_nil ?_; refine N_seq ?_; refine V_seq ?_; refine V_seq ?_; refine V_region (id := 4) ?_; refine vo_step (ok_moves' rfl rfl rfl) rfl ?_; refine vo_step (ok_lenV L rfl rfl rfl rfl) rfl ?_; refine vo_step (ok_gtr rfl rfl rfl rfl (decide_eq_true (by omega))) rfl ?_; refine vo_nil ?_; refine N_seq ?_; refine V_true rfl ?_; refine V_region (id := 5) ?_; refine vo_step (ok_move rfl rfl rfl) rfl ?_; refine vo_step (ok_moves' rfl rfl rfl) rfl ?_; refine vo_step (ok_indexV L 0 rfl rfl rfl rfl rfl rfl rfl (by first | omega | decide) rfl) rfl ?_; refine vo_step (ok_loadP1 L rfl rfl rfl rfl rfl) rfl ?_; refine vo_step (ok_sliceS L (kl := .i64) (pl := 0) 0 g.size rfl rfl rfl rfl rfl ⟨rfl, rfl⟩ (by omega) (by omega) xg) rfl ?_; refine vo_step (ok_assign rfl rfl rfl) rfl ?_; refine vo_nil ?_; refine N_seq ?_; refine V_seq ?_; refine V_region (id := 6) ?_; refine vo_step (ok_move rfl rfl rfl) rfl ?_; refine vo_step (ok_call (φ := NI C0) L rfl rfl (blt_lt rfl) rfl rfl rfl SlV.mono (fun u H hH _ _ => places_ret (c := 58) hC gg hH)) rfl ?_; refine vo_step (ok_move rfl rfl rfl) rfl ?_; refine vo_step (ok_call (φ := NI M0) L rfl rfl (blt_lt rfl) rfl rfl rfl SlV.mono (fun u H hH _ _ => places_ret (c := 35) hN gg hH)) rfl ?_; refine vo_step (ok_assigns' rfl rfl rfl) rfl ?_; refine vo_step (ok_assigns' rfl rfl rfl) rfl ?_; refine vo_nil ?_; refine N_seq ?_; refine V_seq ?_; refine V_seq ?_; refine V_regionD (id := 7) [] mixed (by kernel_rfl) ?_; refine par_step (ok_moves' rfl rfl rfl) rfl ?_; refine par_step (ok_lenV L rfl rfl rfl rfl) rfl ?_; refine par_step (ok_gtr rfl rfl rfl rfl (decide_eq_false (by omega))) rfl ?_; refine par_step (ok_move rfl rfl rfl) rfl ?_; refine par_step (ok_moves' rfl rfl rfl) rfl ?_; refine par_step (ok_lenV L rfl rfl rfl rfl) rfl ?_; refine par_step (ok_neq rfl rfl rfl rfl (decide_eq_true (by omega))) rfl ?_; refine par_step (ok_pick rfl rfl rfl rfl) rfl ?_; refine par_step (ok_move rfl rfl rfl) rfl ?_; refine par_step (ok_skip rfl (blt_lt rfl) rfl) rfl ?_; refine par_step (ok_skip rfl (blt_lt rfl) rfl) rfl ?_; refine par_step (ok_skip rfl (blt_lt rfl) rfl) rfl ?_; refine par_step (ok_pick rfl rfl rfl rfl) rfl ?_; refine par_step (ok_move rfl rfl rfl) rfl ?_; refine par_step (ok_skip rfl (blt_lt rfl) rfl) rfl ?_; refine par_step (ok_skip rfl (blt_lt rfl) rfl) rfl ?_; refine par_step (ok_skip rfl (blt_lt rfl) rfl) rfl ?_; refine par_step (ok_skip rfl (blt_lt rfl) rfl) rfl ?_; refine par_step (ok_skip rfl (blt_lt rfl) rfl) rfl ?_; refine par_step (ok_skip rfl (blt_lt rfl) rfl) rfl ?_; refine par_step (ok_skip rfl (blt_lt rfl) rfl) rfl ?_; refine par_step (ok_pick rfl rfl rfl rfl) rfl ?_; refine par_nil ?_; refine N_seq ?_; refine V_true rfl ?_; refine V_seq ?_; refine V_region (id := 8) ?_; refine vo_step (ok_build (cs := [_, _, _, _, _, _, _]) rfl rfl pl36 rfl rfl) rfl ?_; refine vo_step (ok_move rfl rfl rfl) rfl ?_; refine vo_step (ok_store L rfl rfl rfl rfl rfl rfl rfl rfl) rfl ?_; refine vo_step (ok_assign rfl rfl rfl) rfl ?_; refine vo_nil ?_; refine N_seq ?_
          refine V_ret L (rs := [.cell 2 36, .tmp 3]) rfl (fun _ _ h => h) Since.refl fun u H hH hle => ?_
          refine resK_cellA (src_own rfl) rfl rfl ?_
          rfl
    · obtain ⟨A0, hA⟩ : ∃ A0, plL 64 (g ++ ⟨#[64]⟩ ++ us).data.toList 0 = g.size :: A0 := ⟨_, by rw [hls, plL_mid hg64, len_toList, Nat.zero_add]⟩
      have hA2 : 1 ≤ A0.length := by
        have h1 := plL_length 64 (g ++ ⟨#[64]⟩ ++ us).data.toList 0
        rw [hA, hls, List.count_append, List.count_cons_self, List.length_cons] at h1
        have := count_pos hu; omega
      have hl : (g.size :: A0).length = A0.length + 1 := rfl
      have hpf : x = nF ∧ e = 5 := by
        refine pf_form hr ?_
        rw [hcut0]
        unfold pfC; rw [hasA_yes hu]; simp
      obtain ⟨rfl, rfl⟩ := hpf
      clear hr hcut0
      obtain ⟨C0, hC⟩ : ∃ C0, plL 58 g.data.toList 0 = C0 := ⟨_, rfl⟩
      obtain ⟨M0, hN⟩ : ∃ M0, plL 35 g.data.toList 0 = M0 := ⟨_, rfl⟩
      generalize g ++ ⟨#[64]⟩ ++ us = s at *
      refine V_enter Try.func28 rfl Try.ntmps28 (Nat.le_of_ble_eq_true rfl) hB ?_
      refine V_seq ?_; refine V_region (id := 0) ?_; refine vo_step (ok_alloc L rfl rfl rfl rfl) rfl ?_; refine vo_step (ok_assign rfl rfl rfl) rfl ?_; refine vo_nil ?_; refine N_seq ?_; refine V_seq ?_; refine V_region (id := 1) ?_; refine vo_step (ok_assign rfl rfl rfl) rfl ?_; refine vo_nil ?_; refine N_seq ?_; refine V_seq ?_; refine V_region (id := 2) ?_; refine vo_step (ok_move rfl rfl rfl) rfl ?_; refine vo_step (ok_call (φ := NI (g.size :: A0)) L rfl rfl (blt_lt rfl) rfl rfl rfl SlV.mono (fun u H hH _ _ => places_ret (c := 64) hA hs hH)) rfl ?_; refine vo_step (ok_assigns' rfl rfl rfl) rfl ?_; refine vo_nil ?_; refine N_seq ?_; refine V_seq ?_; refine V_region (id := 3) ?_; refine vo_step (ok_move rfl rfl rfl) rfl ?_; refine vo_step (ok_assign rfl rfl rfl) rfl ?_; refine vo_nil ?_; refine N_seq ?_; refine V_seq ?_; refine V_seq ?_; refine V_region (id := 4) ?_; refine vo_step (ok_moves' rfl rfl rfl) rfl ?_; refine vo_step (ok_lenV L rfl rfl rfl rfl) rfl ?_; refine vo_step (ok_gtr rfl rfl rfl rfl (decide_eq_true (by omega))) rfl ?_; refine vo_nil ?_; refine N_seq ?_; refine V_true rfl ?_; refine V_region (id := 5) ?_; refine vo_step (ok_move rfl rfl rfl) rfl ?_; refine vo_step (ok_moves' rfl rfl rfl) rfl ?_; refine vo_step (ok_indexV L 0 rfl rfl rfl rfl rfl rfl rfl (by first | omega | decide) rfl) rfl ?_; refine vo_step (ok_loadP1 L rfl rfl rfl rfl rfl) rfl ?_; refine vo_step (ok_sliceS L (kl := .i64) (pl := 0) 0 g.size rfl rfl rfl rfl rfl ⟨rfl, rfl⟩ (by omega) (by omega) xg) rfl ?_; refine vo_step (ok_assign rfl rfl rfl) rfl ?_; refine vo_nil ?_; refine N_seq ?_; refine V_seq ?_; refine V_region (id := 6) ?_; refine vo_step (ok_move rfl rfl rfl) rfl ?_; refine vo_step (ok_call (φ := NI C0) L rfl rfl (blt_lt rfl) rfl rfl rfl SlV.mono (fun u H hH _ _ => places_ret (c := 58) hC gg hH)) rfl ?_; refine vo_step (ok_move rfl rfl rfl) rfl ?_; refine vo_step (ok_call (φ := NI M0) L rfl rfl (blt_lt rfl) rfl rfl rfl SlV.mono (fun u H hH _ _ => places_ret (c := 35) hN gg hH)) rfl ?_; refine vo_step (ok_assigns' rfl rfl rfl) rfl ?_; refine vo_step (ok_assigns' rfl rfl rfl) rfl ?_; refine vo_nil ?_; refine N_seq ?_; refine V_seq ?_; refine V_seq ?_; refine V_regionD (id := 7) [] mixed (by kernel_rfl) ?_; refine par_step (ok_moves' rfl rfl rfl) rfl ?_; refine par_step (ok_lenV L rfl rfl rfl rfl) rfl ?_; refine par_step (ok_gtr rfl rfl rfl rfl (decide_eq_true (by omega))) rfl ?_; refine par_step (ok_move rfl rfl rfl) rfl ?_; refine par_step (ok_skip rfl (blt_lt rfl) rfl) rfl ?_; refine par_step (ok_skip rfl (blt_lt rfl) rfl) rfl ?_; refine par_step (ok_skip rfl (blt_lt rfl) rfl) rfl ?_; refine par_step (ok_pick rfl rfl rfl rfl) rfl ?_; refine par_step (ok_move rfl rfl rfl) rfl ?_; refine par_step (ok_skip rfl (blt_lt rfl) rfl) rfl ?_; refine par_step (ok_skip rfl (blt_lt rfl) rfl) rfl ?_; refine par_step (ok_skip rfl (blt_lt rfl) rfl) rfl ?_; refine par_step (ok_pick rfl rfl rfl rfl) rfl ?_; refine par_step (ok_move rfl rfl rfl) rfl ?_; refine par_step (ok_skip rfl (blt_lt rfl) rfl) rfl ?_; refine par_step (ok_skip rfl (blt_lt rfl) rfl) rfl ?_; refine par_step (ok_skip rfl (blt_lt rfl) rfl) rfl ?_; refine par_step (ok_skip rfl (blt_lt rfl) rfl) rfl ?_; refine par_step (ok_skip rfl (blt_lt rfl) rfl) rfl ?_; refine par_step (ok_skip rfl (blt_lt rfl) rfl) rfl ?_; refine par_step (ok_skip rfl (blt_lt rfl) rfl) rfl ?_; refine par_step (ok_pick rfl rfl rfl rfl) rfl ?_; refine par_nil ?_; refine N_seq ?_; refine V_true rfl ?_; refine V_seq ?_; refine V_region (id := 8) ?_; refine vo_step (ok_build (cs := [_, _, _, _, _, _, _]) rfl rfl pl36 rfl rfl) rfl ?_; refine vo_step (ok_move rfl rfl rfl) rfl ?_; refine vo_step (ok_store L rfl rfl rfl rfl rfl rfl rfl rfl) rfl ?_; refine vo_step (ok_assign rfl rfl rfl) rfl ?_; refine vo_nil ?_; refine N_seq ?_
      refine V_ret L (rs := [.cell 2 36, .tmp 3]) rfl (fun _ _ h => h) Since.refl fun u H hH hle => ?_
      refine resK_cellA (src_own rfl) rfl rfl ?_
      rfl
end Go.V.L3
/- The goals and tuples of the statements (chapters 2, 23): plain words. -/
namespace Go.V
open Go.Proofs Go.RowKit
end Go.V
/- The walks of the goals of the statements (chapters 2, 23). -/
namespace Go.V
open Go.Proofs Go.RowKit
attribute [local irreducible] V N X VO Par StepOK Has Ret RetL Src
end Go.V
/- The walks of the statements' helpers on tuples (chapter 2): what is handed in. -/
namespace Go.V.L2
open Go.Proofs Go.RowKit Go.V
attribute [local irreducible] V N X VO Par StepOK Has Ret RetL Src
end Go.V.L2
/- The kit's floor of bits. -/
namespace Go.V
open Go.Proofs Go.RowKit
section
variable {P : Program} {F : Fr} {B : Heap} {O : Boxes} {n : Nat} {ops : Array Oper} {κ : Kap} {d : Nat} {ty : TypeId} {pos : String} {aft : Array Edge} {g : Option (Nat × Bool)}
end
end Go.V
/- The walks of the statements' helpers on filters (chapter 3): what is handed in. -/
namespace Go.V.L3
open Go.Proofs Go.RowKit Go.V Go.V.L2
attribute [local irreducible] V N X VO Par StepOK Has Ret RetL RetO RetT Src
theorem read03_ret {s : ByteArray} {f : FT} {e : Int} (hr : pfA s = (f, e)) (hs : s.size ≤ 1000000) {w : World} {B : Heap} (hB : B.Le (hp w)) :
    Ret Try.prog 53 [.string s] w B (fun v _ => v = fv f) := by
  refine V_enter Try.func53 rfl Try.ntmps53 (Nat.le_of_ble_eq_true rfl) hB ?_
  refine V_seq ?_; refine V_region (id := 0) ?_; refine vo_step (ok_alloc L rfl rfl rfl rfl) rfl ?_; refine vo_nil ?_; refine N_seq ?_; refine V_seq ?_; refine V_region (id := 1) ?_; refine vo_step (ok_move rfl rfl rfl) rfl ?_; refine vo_step (ok_callx L rfl rfl (blt_lt rfl) rfl rfl rfl (fun u H hH _ _ => rfparse_ret hr hs hH)) rfl ?_; refine vo_step (ok_move rfl rfl rfl) rfl ?_; refine vo_step (ok_extract rfl rfl rfl rfl) rfl ?_; refine vo_step (ok_extract rfl rfl rfl rfl) rfl ?_; refine vo_step (ok_alloc L rfl rfl rfl rfl) rfl ?_; refine vo_step (ok_store L rfl rfl rfl rfl rfl rfl rfl rfl) rfl ?_; refine vo_step (ok_assign rfl rfl rfl) rfl ?_; refine vo_nil ?_; refine N_seq ?_; refine V_seq ?_; refine V_region (id := 2) ?_; refine vo_step (ok_loadA L (vs := [_, _, _, _, _, _, _]) (src_own rfl) rfl rfl rfl rfl ⟨_, rfl⟩) rfl ?_; refine vo_step (ok_store L rfl rfl rfl rfl rfl rfl rfl rfl) rfl ?_; refine vo_nil ?_; refine N_seq ?_
  refine V_ret L (rs := [.cell 2 36]) rfl (fun _ _ h => h) Since.refl fun u H hH hle => ?_
  refine resK_cellA (src_own rfl) rfl rfl ?_
  rfl
end Go.V.L3
/- strings.ContainsAny at the two marks. -/
namespace Go.V.L3
open Go.Proofs Go.RowKit Go.V Go.V.L2
theorem iany_has : ∀ l : List UInt8, decide (0 ≤ Lib.indexAny l [58, 35]) = (decide (0 ≤ Lib.indexByte l 58) || decide (0 ≤ Lib.indexByte l 35))
  | [] => rfl
  | b :: l => by
    have ih := iany_has l
    have g1 := Lib.indexAny_ge [58, 35] l
    have g2 := Lib.indexByte_ge l 58
    have g3 := Lib.indexByte_ge l 35
    rw [Lib.indexAny, Lib.indexByte, Lib.indexByte]
    by_cases h : b = 58
    · subst h; simp
    · by_cases h2 : b = 35
      · subst h2; simp
      · have hc : ([58, 35] : List UInt8).contains b = false := by simp [h, h2]
        have hb1 : (b == 58) = false := by simpa using h
        have hb2 : (b == 35) = false := by simpa using h2
        rw [hc, hb1, hb2]
        simp only [Bool.false_eq_true, if_false, beq_iff_eq]
        rw [Bool.eq_iff_iff] at ih ⊢
        simp only [Bool.or_eq_true, decide_eq_true_eq] at ih ⊢
        generalize Lib.indexAny l [58, 35] = a at ih g1 ⊢
        generalize Lib.indexByte l 58 = c at ih g2 ⊢
        generalize Lib.indexByte l 35 = d at ih g3 ⊢
        split <;> split <;> split <;> omega
theorem Ret.of_grow {P : Program} {f : FuncId} {args : List Value} {w : World} {v : Value} {B : Heap} (hB : B.Le (hp w)) (h : Calls P f args.toArray w fun e w' => e = .returned v ∧ Below w.heap.size w w' ∧ w.drawn ≤ w'.drawn) : Ret P f args w B (fun x _ => x = v) :=
  Calls.mono h fun _ w' ⟨he, hw, hd⟩ => ⟨v, he, B, ⟨Keep.of_below hw hd, fun i o ho => by
    have h1 : w.heap[i]? = some o := hB i o ho
    have h2 : i < w.heap.size := by
      rcases Nat.lt_or_ge i w.heap.size with h | h
      · exact h
      · rw [Array.getElem?_eq_none h] at h1; cases h1
    show w'.heap[i]? = some o
    obtain ⟨_, _, _, _, hk⟩ := hw
    rw [hk i h2]; exact h1, Heap.Le.refl _, fun _ _ _ => rfl⟩, rfl⟩
attribute [local irreducible] V N X VO Par StepOK Has Ret RetL RetO RetT Src
def asciiB (r : ByteArray) : Bool := r.data.toList.all fun b => decide (b.toNat < 128)
theorem iany_ret {r : ByteArray} (hs : r.size ≤ 1000000) (ha : r.size ≤ 8 → asciiB r = true) {w : World} {B : Heap} (hB : B.Le (hp w)) :
    Ret Try.prog 97 [.string r, .string ⟨#[58, 35]⟩] w B (fun v _ => v = .int .i64 (Lib.indexAny r.data.toList [58, 35])) := by
  have hc : ∀ (j : Nat) b, (ByteArray.mk #[58, 35]).data.toList[j]? = some b → b.toNat < 128 := by
    intro j b h
    have h2 : ([58, 35] : List UInt8)[j]? = some b := h
    have := List.mem_of_getElem? h2
    simp at this
    rcases this with rfl | rfl <;> decide
  by_cases h8 : r.size ≤ 8
  · have hall : ∀ (j : Nat) b, r.data.toList[j]? = some b → b.toNat < 128 := fun j b h => by
      have h1 := ha h8
      unfold asciiB at h1
      simpa using List.all_eq_true.1 h1 b (List.mem_of_getElem? h)
    refine Ret.of_grow hB ((Any.strings_IndexAny_short Try.lays153 r ⟨#[58, 35]⟩ w (by decide) h8 hall).mono fun e w' ⟨h1, pos, h2⟩ => ⟨h1, ?_⟩)
    rw [h2]
    exact ⟨(Below.refl _ _).alloc (Nat.le_refl _) _, Nat.le_refl _⟩
  · refine Ret.of_grow hB ((Any.strings_IndexAny_long Try.lays153 (zero_of_info (n := 256) (by kernel_rfl)).1 (by kernel_rfl) r ⟨#[58, 35]⟩ w (by decide) (by omega) (by omega) (by decide) hc).mono fun e w' ⟨h1, h2⟩ => ⟨h1, ?_⟩)
    rw [h2]
    exact ⟨((Below.refl _ _).alloc (Nat.le_refl _) _).alloc (by simp) _, Nat.le_refl _⟩
theorem cany_ret {r : ByteArray} (hs : r.size ≤ 1000000) (ha : r.size ≤ 8 → asciiB r = true) {w : World} {B : Heap} (hB : B.Le (hp w)) :
    Ret Try.prog 64 [.string r, .string ⟨#[58, 35]⟩] w B (fun v _ => v = .bool (hasA r 58 || hasA r 35)) := by
  have e : decide (0 ≤ Lib.indexAny r.data.toList [58, 35]) = (hasA r 58 || hasA r 35) := iany_has _
  rw [← e]
  refine V_enter Try.func64 rfl Try.ntmps64 (Nat.le_of_ble_eq_true rfl) hB ?_
  refine V_seq ?_; refine V_region (id := 0) ?_; refine vo_step (ok_assign rfl rfl rfl) rfl ?_; refine vo_nil ?_; refine N_seq ?_; refine V_seq ?_; refine V_region (id := 1) ?_; refine vo_step (ok_move rfl rfl rfl) rfl ?_; refine vo_step (ok_move rfl rfl rfl) rfl ?_; refine vo_step (ok_callx L rfl rfl (blt_lt rfl) rfl rfl rfl (fun u H hH _ _ => iany_ret hs ha hH)) rfl ?_; refine vo_step (ok_geq rfl rfl rfl rfl rfl) rfl ?_; refine vo_step (ok_assign rfl rfl rfl) rfl ?_; refine vo_nil ?_; refine N_seq ?_
  refine V_ret L (rs := [.tmp 4]) rfl (fun _ _ h => h) Since.refl fun u H hH hle => ?_
  rfl
end Go.V.L3
/- The walk of the definition of filters (chapter 3): the text of a filter. -/
namespace Go.V.L3
open Go.Proofs Go.RowKit Go.V Go.V.L2
attribute [local irreducible] V N X VO Par StepOK Has Ret RetL RetO RetT Src
set_option maxHeartbeats 2000000 in
theorem rftext_ret {f : FT} {r : ByteArray} (hz : FZ f) (hr : txF f = r) {w : World} {B : Heap} (hB : B.Le (hp w)) : Ret Try.prog 26 [fv f] w B (fun v _ => v = .string r) := by
  subst hr
  obtain ⟨f1, s1, ex⟩ := f
  obtain ⟨⟨z1, z2, z3⟩, z4, z5, z6⟩ := hz
  dsimp only at z1 z2 z3 z4 z5 z6
  have y1 := orB_size f1.1.1
  have y2 := orB_size f1.1.2
  have y3 := orB_size f1.2
  have c1 := size_sCol
  have c2 := size_sHash
  have c3 : sAt.size = 1 := rfl
  have sj := subjT_size s1.1.1 s1.1.2 s1.2
  have q1 : (orB f1.1.1 sStar).size + sCol.size ≤ 9223372036854775807 := by omega
  have q2 : (orB f1.1.1 sStar ++ sCol).size + (orB f1.1.2 sStar).size ≤ 9223372036854775807 := by rw [ByteArray.size_append]; omega
  have q3 : (orB f1.1.1 sStar ++ sCol ++ orB f1.1.2 sStar).size + sHash.size ≤ 9223372036854775807 := by rw [ByteArray.size_append, ByteArray.size_append]; omega
  have q4 : (orB f1.1.1 sStar ++ sCol ++ orB f1.1.2 sStar ++ sHash).size + (orB f1.2 sStar).size ≤ 9223372036854775807 := by rw [ByteArray.size_append, ByteArray.size_append, ByteArray.size_append]; omega
  have q5 : (orB f1.1.1 sStar ++ sCol ++ orB f1.1.2 sStar ++ sHash ++ orB f1.2 sStar).size + sAt.size ≤ 9223372036854775807 := by simp only [ByteArray.size_append]; omega
  have q6 : (orB f1.1.1 sStar ++ sCol ++ orB f1.1.2 sStar ++ sHash ++ orB f1.2 sStar ++ sAt).size + (subjT s1.1.1 s1.1.2 s1.2).size ≤ 9223372036854775807 := by simp only [ByteArray.size_append]; omega
  refine V_enter Try.func26 rfl Try.ntmps26 (Nat.le_of_ble_eq_true rfl) hB ?_
  cases ex
  · refine V_seq ?_; refine V_region (id := 0) ?_; refine vo_step (ok_box rfl rfl rfl rfl) rfl ?_; refine vo_step (ok_assign rfl rfl rfl) rfl ?_; refine vo_nil ?_; refine N_seq ?_; refine V_seq ?_; refine V_regionD (id := 1) [] mixed (by kernel_rfl) ?_; refine par_step (ok_fieldAt L rfl rfl rfl rfl) rfl ?_; refine par_step (ok_load1 L (src_at rfl) rfl rfl rfl rfl) rfl ?_; refine par_step (ok_callx L rfl rfl (blt_lt rfl) rfl rfl rfl (fun u H hH _ _ => field_ret hH)) rfl ?_; refine par_step (ok_sadd rfl rfl rfl rfl (by assumption) rfl) rfl ?_; refine par_step (ok_fieldAt L rfl rfl rfl rfl) rfl ?_; refine par_step (ok_load1 L (src_at rfl) rfl rfl rfl rfl) rfl ?_; refine par_step (ok_callx L rfl rfl (blt_lt rfl) rfl rfl rfl (fun u H hH _ _ => field_ret hH)) rfl ?_; refine par_step (ok_sadd rfl rfl rfl rfl (by assumption) rfl) rfl ?_; refine par_step (ok_sadd rfl rfl rfl rfl (by assumption) rfl) rfl ?_; refine par_step (ok_fieldAt L rfl rfl rfl rfl) rfl ?_; refine par_step (ok_load1 L (src_at rfl) rfl rfl rfl rfl) rfl ?_; refine par_step (ok_callx L rfl rfl (blt_lt rfl) rfl rfl rfl (fun u H hH _ _ => field_ret hH)) rfl ?_; refine par_step (ok_sadd rfl rfl rfl rfl (by assumption) rfl) rfl ?_; refine par_step (ok_assign rfl rfl rfl) rfl ?_; refine par_nil ?_; refine N_seq ?_; refine V_seq ?_; refine V_seq ?_; refine V_region (id := 2) ?_; refine vo_step (ok_fieldAt L rfl rfl rfl rfl) rfl ?_; refine vo_step (ok_load1 L (src_at rfl) rfl rfl rfl rfl) rfl ?_; refine vo_nil ?_; refine N_seq ?_; refine V_false rfl ?_; refine V_skip ?_; refine N_seq ?_; refine V_seq ?_; refine V_region (id := 4) ?_; refine vo_step (ok_move rfl rfl rfl) rfl ?_; refine vo_step (ok_assign rfl rfl rfl) rfl ?_; refine vo_nil ?_; refine N_seq ?_
    refine V_ret L (rs := [.tmp 2]) rfl (fun _ _ h => h) Since.refl fun u H hH hle => ?_
    rfl
  · refine V_seq ?_; refine V_region (id := 0) ?_; refine vo_step (ok_box rfl rfl rfl rfl) rfl ?_; refine vo_step (ok_assign rfl rfl rfl) rfl ?_; refine vo_nil ?_; refine N_seq ?_; refine V_seq ?_; refine V_regionD (id := 1) [] mixed (by kernel_rfl) ?_; refine par_step (ok_fieldAt L rfl rfl rfl rfl) rfl ?_; refine par_step (ok_load1 L (src_at rfl) rfl rfl rfl rfl) rfl ?_; refine par_step (ok_callx L rfl rfl (blt_lt rfl) rfl rfl rfl (fun u H hH _ _ => field_ret hH)) rfl ?_; refine par_step (ok_sadd rfl rfl rfl rfl (by assumption) rfl) rfl ?_; refine par_step (ok_fieldAt L rfl rfl rfl rfl) rfl ?_; refine par_step (ok_load1 L (src_at rfl) rfl rfl rfl rfl) rfl ?_; refine par_step (ok_callx L rfl rfl (blt_lt rfl) rfl rfl rfl (fun u H hH _ _ => field_ret hH)) rfl ?_; refine par_step (ok_sadd rfl rfl rfl rfl (by assumption) rfl) rfl ?_; refine par_step (ok_sadd rfl rfl rfl rfl (by assumption) rfl) rfl ?_; refine par_step (ok_fieldAt L rfl rfl rfl rfl) rfl ?_; refine par_step (ok_load1 L (src_at rfl) rfl rfl rfl rfl) rfl ?_; refine par_step (ok_callx L rfl rfl (blt_lt rfl) rfl rfl rfl (fun u H hH _ _ => field_ret hH)) rfl ?_; refine par_step (ok_sadd rfl rfl rfl rfl (by assumption) rfl) rfl ?_; refine par_step (ok_assign rfl rfl rfl) rfl ?_; refine par_nil ?_; refine N_seq ?_; refine V_seq ?_; refine V_seq ?_; refine V_region (id := 2) ?_; refine vo_step (ok_fieldAt L rfl rfl rfl rfl) rfl ?_; refine vo_step (ok_load1 L (src_at rfl) rfl rfl rfl rfl) rfl ?_; refine vo_nil ?_; refine N_seq ?_; refine V_true rfl ?_; refine V_seq ?_; refine V_region (id := 3) ?_; refine vo_step (ok_move rfl rfl rfl) rfl ?_; refine vo_step (ok_sadd rfl rfl rfl rfl (by assumption) rfl) rfl ?_; refine vo_step (ok_fieldAt L rfl rfl rfl rfl) rfl ?_; refine vo_step (ok_loadA L (vs := [_, _, _]) (src_at rfl) rfl rfl rfl rfl ⟨_, rfl⟩) rfl ?_; refine vo_step (ok_callx L rfl rfl (blt_lt rfl) rfl rfl rfl (fun u H hH _ _ => rsubjText_ret z4 z5 z6 hH)) rfl ?_; refine vo_step (ok_sadd rfl rfl rfl rfl (by assumption) rfl) rfl ?_; refine vo_step (ok_assign rfl rfl rfl) rfl ?_; refine vo_nil ?_; refine N_seq ?_
    refine V_ret L (rs := [.tmp 2]) rfl (fun _ _ h => h) Since.refl fun u H hH hle => ?_
    exact congrArg Value.string (show _ = txF (f1, s1, true) from by unfold txF; rw [if_pos rfl]; exact ByteArray.append_assoc)
end Go.V.L3
/- The walks of the definition of filters (chapter 3): first fields, spans, what is selected. -/
namespace Go.V.L3
open Go.Proofs Go.RowKit Go.V Go.V.L2
attribute [local irreducible] V N X VO Par StepOK Has Ret RetL RetO RetT Src
end Go.V.L3
/- The examples of chapter 3. -/
namespace Go.V.L3
open Go.Proofs Go.RowKit Go.V Go.V.L2
abbrev tA : U := (((⟨#[97]⟩, ⟨#[120]⟩), ⟨#[114]⟩), ((⟨#[117]⟩, ⟨#[97]⟩), ⟨#[]⟩))
abbrev tB : U := (((⟨#[97]⟩, ⟨#[120]⟩), ⟨#[114]⟩), ((⟨#[117]⟩, ⟨#[98]⟩), ⟨#[]⟩))
abbrev tC : U := (((⟨#[98]⟩, ⟨#[120]⟩), ⟨#[114]⟩), ((⟨#[117]⟩, ⟨#[97]⟩), ⟨#[]⟩))
abbrev tS : U := (((⟨#[97]⟩, ⟨#[121]⟩), ⟨#[115]⟩), ((⟨#[117]⟩, ⟨#[97]⟩), ⟨#[]⟩))
def smL : List U := [tA, tB, tS, tC]
def smS : List ByteArray := [⟨#[97, 58, 120, 35, 114, 64, 117, 58, 97]⟩, ⟨#[97, 58, 120, 35, 114, 64, 117, 58, 98]⟩, ⟨#[97, 58, 121, 35, 115, 64, 117, 58, 97]⟩, ⟨#[98, 58, 120, 35, 114, 64, 117, 58, 97]⟩]
theorem sm_at {i : Nat} (h : i < 4) : ∃ s t, smS[i]? = some s ∧ smL[i]? = some t ∧ ptA s = (t, 0) ∧ s.size ≤ 1000000 := by
  have p0 : ptA ⟨#[97, 58, 120, 35, 114, 64, 117, 58, 97]⟩ = (tA, 0) := by decide +kernel
  have p1 : ptA ⟨#[97, 58, 120, 35, 114, 64, 117, 58, 98]⟩ = (tB, 0) := by decide +kernel
  have p2 : ptA ⟨#[97, 58, 121, 35, 115, 64, 117, 58, 97]⟩ = (tS, 0) := by decide +kernel
  have p3 : ptA ⟨#[98, 58, 120, 35, 114, 64, 117, 58, 97]⟩ = (tC, 0) := by decide +kernel
  rcases i with _ | _ | _ | _ | i
  · exact ⟨_, _, rfl, rfl, p0, by decide⟩
  · exact ⟨_, _, rfl, rfl, p1, by decide⟩
  · exact ⟨_, _, rfl, rfl, p2, by decide⟩
  · exact ⟨_, _, rfl, rfl, p3, by decide⟩
  · omega
theorem relOf_size (s : ByteArray) : (relOf s).size ≤ s.size := by
  unfold relOf
  have h1 := cutA_size s 64
  have h2 := cutA_size (cutA s 64).1 58
  have h3 := cutA_size (cutA (cutA s 64).1 58).2.1 35
  omega
attribute [local irreducible] V N X VO Par StepOK Has Ret RetL RetO RetT Src
theorem rtparse_x {s : ByteArray} {t : U} {e : Int} (hr : ptA s = (t, e)) (hs : s.size ≤ 1000000) {w : World} {B : Heap} (hB : B.Le (hp w)) :
    Ret Try.prog 69 [.string s] w B (fun v _ => v = .tuple #[uv t, .int .i64 e]) := rtparse_ret hr hs hB
/-- A text of which the relation's part is ASCII. -/
theorem fparse_asc {s : ByteArray} {x : FT} {e : Int} (hr : pfA s = (x, e)) (hs : s.size ≤ 1000000) (ha : asciiB (relOf s) = true) {w : World} {B : Heap} (hB : B.Le (hp w)) (hM : GlobM B) :
    Ret Try.prog 27 [.string s] w B (fun v _ => v = .tuple #[fv x, .int .i64 e]) :=
  fparse_ret hr hs (fun w B h => cany_ret (Nat.le_trans (relOf_size s) hs) (fun _ => ha) h) hB hM
set_option maxHeartbeats 1000000 in
theorem small_ret {w : World} {B : Heap} (hB : B.Le (hp w)) : Ret Try.prog 30 [] w B (US smL false) := by
  have hll : smL.length = 4 := rfl
  refine V_enter Try.func30 rfl Try.ntmps30 (Nat.le_of_ble_eq_true rfl) hB ?_
  refine V_seq ?_; refine V_region (id := 0) ?_; refine vo_step (ok_assign rfl rfl rfl) rfl ?_; refine vo_nil ?_; refine N_seq ?_; refine V_seq ?_; refine V_region (id := 1) ?_; refine vo_step (ok_assign rfl rfl rfl) rfl ?_; refine vo_nil ?_; refine N_seq ?_; refine V_seq ?_
  refine V_nilR 1 tyU 6 rfl ?_
  refine V_region (id := 2) ?_; refine vo_step (ok_buildSlice L rfl rfl rfl rfl rfl rfl rfl rfl rfl) rfl ?_; refine vo_step (ok_assigns' rfl rfl rfl) rfl ?_; refine vo_nil ?_; refine N_seq ?_; refine V_seq ?_; refine V_seq ?_; refine V_region (id := 3) ?_; refine vo_step (ok_assign rfl rfl rfl) rfl ?_; refine vo_nil ?_; refine N_seq ?_; refine V_block ?_
  refine V_imp 2 (SlB (smS.map Value.string) 9 4) rfl SlB.mono (fun _ _ h => by unfold smS; exact h) ?_
  refine V_loop (fun i : Nat => [(1, .own (SlR tyU 6 (smL.take i).length ((smL.take i).flatMap ucs))), (2, .sat (SlB (smS.map Value.string) 9 4)), (3, .is (.int .i64 i))]) (fun i => i ≤ 4) (fun i => 4 - i) 0 (Nat.zero_le _) ⟨rfl, rfl, rfl, trivial⟩ ?_
  rintro i hi
  have hli := List.length_take (i := i) (l := smL)
  by_cases hlt : i < 4
  · obtain ⟨s, t, g1, g2, g3, g4⟩ := sm_at hlt
    have hcs : (smS.map Value.string)[i * 1]? = some (.string s) := by simp [g1]
    refine V_seq ?_; refine V_seq ?_; refine V_region (id := 4) ?_; refine vo_step (ok_move rfl rfl rfl) rfl ?_; refine vo_step (ok_lss rfl rfl rfl rfl (decide_eq_true (by omega))) rfl ?_; refine vo_nil ?_; refine N_seq ?_; refine V_true rfl ?_; refine V_skip ?_; refine N_seq ?_; refine V_seq ?_; refine V_block ?_; refine V_seq ?_; refine V_region (id := 6) ?_; refine vo_step (ok_moves' rfl rfl rfl) rfl ?_; refine vo_step (ok_move rfl rfl rfl) rfl ?_; refine vo_step (ok_indexSl L _ rfl rfl rfl rfl rfl rfl rfl (by omega)) rfl ?_; refine vo_step (ok_load1c L (src_at rfl) rfl rfl rfl (by assumption)) rfl ?_; refine vo_step (ok_callx L rfl rfl (blt_lt rfl) rfl rfl rfl (fun u H hH _ _ => rtparse_x g3 g4 hH)) rfl ?_; refine vo_step (ok_move rfl rfl rfl) rfl ?_; refine vo_step (ok_extract rfl rfl rfl rfl) rfl ?_; refine vo_step (ok_extract rfl rfl rfl rfl) rfl ?_; refine vo_step (ok_alloc L rfl rfl rfl rfl) rfl ?_; refine vo_step (ok_store L rfl rfl rfl rfl rfl rfl rfl rfl) rfl ?_; refine vo_step (ok_assign rfl rfl rfl) rfl ?_; refine vo_nil ?_; refine N_seq ?_; refine V_region (id := 7) ?_; refine vo_step2 (ok_moveO (.inl rfl) rfl rfl rfl rfl) ?_; refine vo_step (ok_loadA L (vs := [_, _, _, _, _, _]) (src_own rfl) rfl rfl rfl rfl ⟨_, rfl⟩) rfl ?_; refine vo_step (ok_buildSlice L rfl rfl rfl rfl rfl rfl rfl rfl rfl) rfl ?_; refine vo_step2 (ok_append L rfl rfl rfl (apd_B rfl) rfl el51 rfl rfl (by omega) (by omega)) ?_; refine vo_step2 (ok_moveO (.inr rfl) rfl rfl rfl rfl) ?_; refine vo_nil ?_; refine N_block ?_; refine N_seq ?_; refine V_region (id := 5) ?_; refine vo_step (ok_move rfl rfl rfl) rfl ?_; refine vo_step (ok_add rfl rfl rfl rfl (wrap_i64 (by omega) (by omega))) rfl ?_; refine vo_step (ok_assign rfl rfl rfl) rfl ?_; refine vo_nil ?_
    exact N_round (x := i) (i + 1) (by omega) (by omega) ⟨by rw [take_s g2]; exact ups_snoc rfl, rfl, rfl, trivial⟩
  · obtain rfl : i = 4 := by omega
    have e4 : smL.take 4 = smL := rfl
    rw [e4]
    refine V_seq ?_; refine V_seq ?_; refine V_region (id := 4) ?_; refine vo_step (ok_move rfl rfl rfl) rfl ?_; refine vo_step (ok_lss rfl rfl rfl rfl (decide_eq_false (by omega))) rfl ?_; refine vo_nil ?_; refine N_seq ?_; refine V_false rfl ?_; refine V_exit ?_; refine X_then ?_; refine X_then ?_; refine X_here ?_; refine N_seq ?_; refine V_seq ?_; refine V_region (id := 8) ?_; refine vo_step2 (ok_moveO (.inl rfl) rfl rfl rfl rfl) ?_; refine vo_step2 (ok_moveO (.inr rfl) rfl rfl rfl rfl) ?_; refine vo_nil ?_; refine N_seq ?_
    refine V_pubR 0 rfl ?_
    refine V_ret L (rs := [.tmp 0]) rfl (fun _ _ h => h) Since.refl fun u H hH hle => ?_
    exact fun v hv => hv
def fmB (f : FT) : Bool := decide (f.1.1.1.size ≤ 1000) && decide (f.1.1.2.size ≤ 1000) && decide (f.1.2.size ≤ 1000) && decide (f.2.1.1.1.size ≤ 1000) && decide (f.2.1.1.2.size ≤ 1000) && decide (f.2.1.2.size ≤ 1000)
theorem fm_of {f : FT} (h : fmB f = true) : FM f := by
  unfold fmB at h
  simp only [Bool.and_eq_true, decide_eq_true_eq] at h
  unfold FM; omega
theorem fz_of {f : FT} (h : fmB f = true) : FZ f := by
  unfold fmB at h
  simp only [Bool.and_eq_true, decide_eq_true_eq] at h
  unfold FZ; omega
abbrev xf1 : FT := (((⟨#[97]⟩, ⟨#[120]⟩), ⟨#[]⟩), n3, false)
abbrev xf2 : FT := (((⟨#[]⟩, ⟨#[120]⟩), ⟨#[114]⟩), ((⟨#[117]⟩, ⟨#[97]⟩), ⟨#[]⟩), true)
abbrev xf3 : FT := (((⟨#[97]⟩, ⟨#[120, 50]⟩), ⟨#[]⟩), n3, false)
abbrev xf4 : FT := (((⟨#[]⟩, ⟨#[121]⟩), ⟨#[]⟩), n3, false)
abbrev xf5 : FT := (((⟨#[97]⟩, ⟨#[]⟩), ⟨#[114]⟩), ((⟨#[117]⟩, ⟨#[97]⟩), ⟨#[]⟩), true)
abbrev xf6 : FT := (((⟨#[97]⟩, ⟨#[]⟩), ⟨#[114]⟩), n3, false)
abbrev xf7 : FT := (((⟨#[]⟩, ⟨#[120]⟩), ⟨#[]⟩), ((⟨#[117]⟩, ⟨#[97]⟩), ⟨#[]⟩), true)
abbrev xf8 : FT := (((⟨#[98]⟩, ⟨#[]⟩), ⟨#[]⟩), n3, false)
abbrev xfm : FT := (((⟨#[97]⟩, ⟨#[120]⟩), ⟨#[114]⟩), ((⟨#[117]⟩, ⟨#[97]⟩), ⟨#[]⟩), true)
set_option maxHeartbeats 8000000 in
set_option maxRecDepth 10000 in
theorem lives03_ret {w : World} {B : Heap} (hB : B.Le (hp w)) (hM : GlobM B) : Ret Try.prog 21 [] w B (fun v _ => v = .bool true) := by
  have p1 : pfA ⟨#[97, 58, 120, 35, 42]⟩ = (xf1, 0) := by decide +kernel
  have m1 : FM xf1 := fm_of (by decide)
  have p2 : pfA ⟨#[42, 58, 120, 35, 114, 64, 117, 58, 97]⟩ = (xf2, 0) := by decide +kernel
  have m2 : FM xf2 := fm_of (by decide)
  have p3 : pfA ⟨#[97, 58, 120, 50, 35, 42]⟩ = (xf3, 0) := by decide +kernel
  have m3 : FM xf3 := fm_of (by decide)
  have p4 : pfA ⟨#[42, 58, 121, 35, 42]⟩ = (xf4, 0) := by decide +kernel
  have m4 : FM xf4 := fm_of (by decide)
  have p5 : pfA ⟨#[97, 58, 42, 35, 114, 64, 117, 58, 97]⟩ = (xf5, 0) := by decide +kernel
  have m5 : FM xf5 := fm_of (by decide)
  have p6 : pfA ⟨#[97, 58, 42, 35, 114]⟩ = (xf6, 0) := by decide +kernel
  have m6 : FM xf6 := fm_of (by decide)
  have p7 : pfA ⟨#[42, 58, 120, 35, 42, 64, 117, 58, 97]⟩ = (xf7, 0) := by decide +kernel
  have m7 : FM xf7 := fm_of (by decide)
  have p8 : pfA ⟨#[98, 58, 42, 35, 42]⟩ = (xf8, 0) := by decide +kernel
  have m8 : FM xf8 := fm_of (by decide)
  have q1 : pfA ⟨#[97, 58, 120]⟩ = (nF, 5) := by decide +kernel
  have q2 : pfA ⟨#[97, 58, 42, 35, 65]⟩ = (nF, 6) := by decide +kernel
  have q3 : pfA ⟨#[97, 58, 120, 35, 114, 64, 117]⟩ = (nF, 5) := by decide +kernel
  have a1 : asciiB (relOf ⟨#[97, 58, 120, 35, 42]⟩) = true := by decide +kernel
  have b1 : asciiB (relOf ⟨#[97, 58, 120]⟩) = true := by decide +kernel
  have b2 : asciiB (relOf ⟨#[97, 58, 42, 35, 65]⟩) = true := by decide +kernel
  have b3 : asciiB (relOf ⟨#[97, 58, 120, 35, 114, 64, 117]⟩) = true := by decide +kernel
  have r1 : spanR xf1 smL = (0, 2, 0) := by decide +kernel
  have r2 : selR xf2 smL = ([tA, tC], 0) := by decide +kernel
  have r3 : spanR xf3 smL = (2, 2, 0) := by decide +kernel
  have r4 : spanR xf4 smL = (0, 4, 0) := by decide +kernel
  have n1 : prefN xf1 = 2 := by decide +kernel
  have n5 : prefN xf5 = 1 := by decide +kernel
  have y1 : bothF xf6 xf7 = (xfm, true, 0) := by decide +kernel
  have y2 : bothF xf6 xf8 = (nF, false, 0) := by decide +kernel
  have tx : txF xfm = ⟨#[97, 58, 120, 35, 114, 64, 117, 58, 97]⟩ := by decide +kernel
  have zm : FZ xfm := fz_of (by decide)
  have hlen : smL.length = 4 := rfl
  have hmono : Kn.mono (.sat (US [tA, tC] true)) := SlV.mono
  have h0 : ((smL.flatMap ucs).drop (0 * 6)).take 6 = ucs tA := rfl
  have h3 : ((smL.flatMap ucs).drop (3 * 6)).take 6 = ucs tC := rfl
  have hsm : ∀ (w : World) (B : Heap), B.Le (hp w) → Ret Try.prog 30 [] w B (US smL false) := fun w B h => small_ret h
  generalize smL = l at *
  refine V_enter Try.func21 rfl Try.ntmps21 (Nat.le_of_ble_eq_true rfl) hB ?_
  refine V_seq ?_; refine V_region (id := 0) ?_; refine vo_step (ok_assign rfl rfl rfl) rfl ?_; refine vo_nil ?_; refine N_seq ?_; refine V_seq ?_; refine V_region (id := 1) ?_; refine vo_step (ok_call (φ := US l false) L rfl rfl (blt_lt rfl) rfl rfl rfl SlV.mono (fun u H hH _ _ => hsm u H hH)) rfl ?_; refine vo_step (ok_assigns' rfl rfl rfl) rfl ?_; refine vo_nil ?_; refine N_seq ?_; refine V_seq ?_; refine V_region (id := 2) ?_; refine vo_step (ok_callx L rfl rfl (blt_lt rfl) rfl rfl rfl (fun u H hH hle _ => fparse_asc p1 (by decide) a1 hH (hM.mono hle))) rfl ?_; refine vo_step (ok_move rfl rfl rfl) rfl ?_; refine vo_step (ok_extract rfl rfl rfl rfl) rfl ?_; refine vo_step (ok_extract rfl rfl rfl rfl) rfl ?_; refine vo_step (ok_alloc L rfl rfl rfl rfl) rfl ?_; refine vo_step (ok_store L rfl rfl rfl rfl rfl rfl rfl rfl) rfl ?_; refine vo_step (ok_assign rfl rfl rfl) rfl ?_; refine vo_nil ?_; refine N_seq ?_; refine V_seq ?_; refine V_region (id := 3) ?_; refine vo_step (ok_moves' rfl rfl rfl) rfl ?_; refine vo_step (ok_loadA L (vs := [_, _, _, _, _, _, _]) (src_own rfl) rfl rfl rfl rfl ⟨_, rfl⟩) rfl ?_; refine vo_step (ok_callx L rfl rfl (blt_lt rfl) rfl rfl rfl (fun u H hH _ _ v1 h1 => span_ret' m1 (by omega) r1 hH h1)) rfl ?_; refine vo_step (ok_move rfl rfl rfl) rfl ?_; refine vo_step (ok_extract rfl rfl rfl rfl) rfl ?_; refine vo_step (ok_extract rfl rfl rfl rfl) rfl ?_; refine vo_step (ok_extract rfl rfl rfl rfl) rfl ?_; refine vo_step (ok_assign rfl rfl rfl) rfl ?_; refine vo_step (ok_assign rfl rfl rfl) rfl ?_; refine vo_step (ok_assign rfl rfl rfl) rfl ?_; refine vo_nil ?_; refine N_seq ?_; refine V_seq ?_; refine V_region (id := 4) ?_; refine vo_step (ok_moves' rfl rfl rfl) rfl ?_; refine vo_step (ok_callx L rfl rfl (blt_lt rfl) rfl rfl rfl (fun u H hH _ _ => read03_ret p2 (by decide) hH)) rfl ?_; refine vo_step (ok_call (φ := TupS [US [tA, tC] true, fun v _ => v = .int .i64 0]) L rfl rfl (blt_lt rfl) rfl rfl rfl (LE2.mono SlV.mono) (fun u H hH _ _ v1 h1 => select_ret m2 (by omega) r2 hH h1)) rfl ?_; refine vo_step (ok_moves' rfl rfl rfl) rfl ?_; refine vo_step (ok_extracts rfl rfl rfl rfl (by assumption)) rfl ?_; refine vo_step (ok_extractx rfl rfl rfl rfl) rfl ?_; refine vo_step (ok_assigns' rfl rfl rfl) rfl ?_; refine vo_step (ok_assign rfl rfl rfl) rfl ?_; refine vo_nil ?_; refine N_seq ?_; refine V_seq ?_; refine V_region (id := 5) ?_; refine vo_step (ok_moves' rfl rfl rfl) rfl ?_; refine vo_step (ok_callx L rfl rfl (blt_lt rfl) rfl rfl rfl (fun u H hH _ _ => read03_ret p3 (by decide) hH)) rfl ?_; refine vo_step (ok_callx L rfl rfl (blt_lt rfl) rfl rfl rfl (fun u H hH _ _ v1 h1 => span_ret' m3 (by omega) r3 hH h1)) rfl ?_; refine vo_step (ok_move rfl rfl rfl) rfl ?_; refine vo_step (ok_extract rfl rfl rfl rfl) rfl ?_; refine vo_step (ok_extract rfl rfl rfl rfl) rfl ?_; refine vo_step (ok_extract rfl rfl rfl rfl) rfl ?_; refine vo_step (ok_assign rfl rfl rfl) rfl ?_; refine vo_step (ok_assign rfl rfl rfl) rfl ?_; refine vo_step (ok_assign rfl rfl rfl) rfl ?_; refine vo_nil ?_; refine N_seq ?_; refine V_seq ?_; refine V_region (id := 6) ?_; refine vo_step (ok_moves' rfl rfl rfl) rfl ?_; refine vo_step (ok_callx L rfl rfl (blt_lt rfl) rfl rfl rfl (fun u H hH _ _ => read03_ret p4 (by decide) hH)) rfl ?_; refine vo_step (ok_callx L rfl rfl (blt_lt rfl) rfl rfl rfl (fun u H hH _ _ v1 h1 => span_ret' m4 (by omega) r4 hH h1)) rfl ?_; refine vo_step (ok_move rfl rfl rfl) rfl ?_; refine vo_step (ok_extract rfl rfl rfl rfl) rfl ?_; refine vo_step (ok_extract rfl rfl rfl rfl) rfl ?_; refine vo_step (ok_extract rfl rfl rfl rfl) rfl ?_; refine vo_step (ok_assign rfl rfl rfl) rfl ?_; refine vo_step (ok_assign rfl rfl rfl) rfl ?_; refine vo_step (ok_assign rfl rfl rfl) rfl ?_; refine vo_nil ?_; refine N_seq ?_; refine V_seq ?_; refine V_seq ?_
  refine V_regionD (id := 7) [] mixed (by kernel_rfl) ?_; refine par_step (ok_move rfl rfl rfl) rfl ?_; refine par_step (ok_move rfl rfl rfl) rfl ?_; refine par_step (ok_add rfl rfl rfl rfl (wrap_i64 (by omega) (by omega))) rfl ?_; refine par_step (ok_move rfl rfl rfl) rfl ?_; refine par_step (ok_add rfl rfl rfl rfl (wrap_i64 (by omega) (by omega))) rfl ?_; refine par_step (ok_move rfl rfl rfl) rfl ?_; refine par_step (ok_add rfl rfl rfl rfl (wrap_i64 (by omega) (by omega))) rfl ?_; refine par_step (ok_move rfl rfl rfl) rfl ?_; refine par_step (ok_add rfl rfl rfl rfl (wrap_i64 (by omega) (by omega))) rfl ?_; refine par_step (ok_neq rfl rfl rfl rfl (decide_eq_false (by omega))) rfl ?_; refine par_step (ok_move rfl rfl rfl) rfl ?_; refine par_step (ok_loadA L (vs := [_, _, _, _, _, _, _]) (src_own rfl) rfl rfl rfl rfl ⟨_, rfl⟩) rfl ?_; refine par_step (ok_callx L rfl rfl (blt_lt rfl) rfl rfl rfl (fun u H hH _ _ => prefix_ret n1 hH)) rfl ?_; refine par_step (ok_neq rfl rfl rfl rfl (decide_eq_false (by omega))) rfl ?_; refine par_step (ok_pick rfl rfl rfl rfl) rfl ?_; refine par_step (ok_move rfl rfl rfl) rfl ?_; refine par_step (ok_move rfl rfl rfl) rfl ?_; refine par_step (ok_neq rfl rfl rfl rfl (decide_eq_false (by omega))) rfl ?_; refine par_step (ok_pick rfl rfl rfl rfl) rfl ?_; refine par_step (ok_move rfl rfl rfl) rfl ?_; refine par_step (ok_move rfl rfl rfl) rfl ?_; refine par_step (ok_neq rfl rfl rfl rfl (decide_eq_false (by omega))) rfl ?_; refine par_step (ok_pick rfl rfl rfl rfl) rfl ?_; refine par_step (ok_move rfl rfl rfl) rfl ?_; refine par_step (ok_moves' rfl rfl rfl) rfl ?_; refine par_step (ok_moves' rfl rfl rfl) rfl ?_; refine par_step (ok_indexV L 0 rfl rfl rfl rfl rfl rfl rfl (by first | omega | decide) (by assumption)) rfl ?_; refine par_step (ok_loadPA L (vs := [_, _, _, _, _, _]) rfl rfl rfl rfl rfl ⟨_, rfl⟩) rfl ?_; refine par_step (ok_moves' rfl rfl rfl) rfl ?_; refine par_step (ok_indexV L 3 rfl rfl rfl rfl rfl rfl rfl (by first | omega | decide) (by assumption)) rfl ?_; refine par_step (ok_loadPA L (vs := [_, _, _, _, _, _]) rfl rfl rfl rfl rfl ⟨_, rfl⟩) rfl ?_; refine par_step (ok_buildSlice L rfl rfl rfl rfl rfl rfl rfl rfl rfl) rfl ?_; refine par_step (ok_callx L rfl rfl (blt_lt rfl) rfl rfl rfl (fun u H hH _ _ v1 h1 v2 h2 => rtsame_ret (a := [tA, tC]) (b := [tA, tC]) (e := 1) (by decide) (by decide) (by decide +kernel) hH h1 (h2.toV rfl))) rfl ?_; refine par_step (ok_eql rfl rfl rfl rfl (decide_eq_false (by omega))) rfl ?_; refine par_step (ok_pick rfl rfl rfl rfl) rfl ?_; refine par_step (ok_move rfl rfl rfl) rfl ?_; refine par_step (ok_move rfl rfl rfl) rfl ?_; refine par_step (ok_neq rfl rfl rfl rfl (decide_eq_false (by omega))) rfl ?_; refine par_step (ok_pick rfl rfl rfl rfl) rfl ?_; refine par_step (ok_move rfl rfl rfl) rfl ?_; refine par_step (ok_move rfl rfl rfl) rfl ?_; refine par_step (ok_neq rfl rfl rfl rfl (decide_eq_false (by omega))) rfl ?_; refine par_step (ok_pick rfl rfl rfl rfl) rfl ?_; refine par_step (ok_move rfl rfl rfl) rfl ?_; refine par_step (ok_move rfl rfl rfl) rfl ?_; refine par_step (ok_neq rfl rfl rfl rfl (decide_eq_false (by omega))) rfl ?_; refine par_step (ok_pick rfl rfl rfl rfl) rfl ?_; refine par_step (ok_move rfl rfl rfl) rfl ?_; refine par_step (ok_move rfl rfl rfl) rfl ?_; refine par_step (ok_neq rfl rfl rfl rfl (decide_eq_false (by omega))) rfl ?_; refine par_step (ok_pick rfl rfl rfl rfl) rfl ?_; refine par_step (ok_move rfl rfl rfl) rfl ?_; refine par_step (ok_callx L rfl rfl (blt_lt rfl) rfl rfl rfl (fun u H hH _ _ => read03_ret p5 (by decide) hH)) rfl ?_; refine par_step (ok_callx L rfl rfl (blt_lt rfl) rfl rfl rfl (fun u H hH _ _ => prefix_ret n5 hH)) rfl ?_; refine par_step (ok_neq rfl rfl rfl rfl (decide_eq_false (by omega))) rfl ?_; refine par_step (ok_pick rfl rfl rfl rfl) rfl ?_; refine par_nil ?_; refine N_seq ?_; refine V_false rfl ?_; refine V_skip ?_; refine N_seq ?_; refine V_seq ?_
  refine V_region (id := 9) ?_; refine vo_step (ok_callx L rfl rfl (blt_lt rfl) rfl rfl rfl (fun u H hH _ _ => read03_ret p6 (by decide) hH)) rfl ?_; refine vo_step (ok_callx L rfl rfl (blt_lt rfl) rfl rfl rfl (fun u H hH _ _ => read03_ret p7 (by decide) hH)) rfl ?_; refine vo_step (ok_callx L rfl rfl (blt_lt rfl) rfl rfl rfl (fun u H hH _ _ => both_ret m6 m7 y1 hH)) rfl ?_; refine vo_step (ok_move rfl rfl rfl) rfl ?_; refine vo_step (ok_extract rfl rfl rfl rfl) rfl ?_; refine vo_step (ok_extract rfl rfl rfl rfl) rfl ?_; refine vo_step (ok_extract rfl rfl rfl rfl) rfl ?_; refine vo_step (ok_alloc L rfl rfl rfl rfl) rfl ?_; refine vo_step (ok_store L rfl rfl rfl rfl rfl rfl rfl rfl) rfl ?_; refine vo_step (ok_assign rfl rfl rfl) rfl ?_; refine vo_step (ok_assign rfl rfl rfl) rfl ?_; refine vo_nil ?_; refine N_seq ?_; refine V_seq ?_; refine V_region (id := 10) ?_; refine vo_step (ok_callx L rfl rfl (blt_lt rfl) rfl rfl rfl (fun u H hH _ _ => read03_ret p6 (by decide) hH)) rfl ?_; refine vo_step (ok_callx L rfl rfl (blt_lt rfl) rfl rfl rfl (fun u H hH _ _ => read03_ret p8 (by decide) hH)) rfl ?_; refine vo_step (ok_callx L rfl rfl (blt_lt rfl) rfl rfl rfl (fun u H hH _ _ => both_ret m6 m8 y2 hH)) rfl ?_; refine vo_step (ok_move rfl rfl rfl) rfl ?_; refine vo_step (ok_extract rfl rfl rfl rfl) rfl ?_; refine vo_step (ok_extract rfl rfl rfl rfl) rfl ?_; refine vo_step (ok_extract rfl rfl rfl rfl) rfl ?_; refine vo_step (ok_alloc L rfl rfl rfl rfl) rfl ?_; refine vo_step (ok_store L rfl rfl rfl rfl rfl rfl rfl rfl) rfl ?_; refine vo_step (ok_assign rfl rfl rfl) rfl ?_; refine vo_step (ok_assign rfl rfl rfl) rfl ?_; refine vo_nil ?_; refine N_seq ?_; refine V_seq ?_; refine V_region (id := 11) ?_; refine vo_step (ok_callx L rfl rfl (blt_lt rfl) rfl rfl rfl (fun u H hH hle _ => fparse_asc q1 (by decide) b1 hH (hM.mono hle))) rfl ?_; refine vo_step (ok_move rfl rfl rfl) rfl ?_; refine vo_step (ok_extract rfl rfl rfl rfl) rfl ?_; refine vo_step (ok_extract rfl rfl rfl rfl) rfl ?_; refine vo_step (ok_alloc L rfl rfl rfl rfl) rfl ?_; refine vo_step (ok_store L rfl rfl rfl rfl rfl rfl rfl rfl) rfl ?_; refine vo_step (ok_assign rfl rfl rfl) rfl ?_; refine vo_nil ?_; refine N_seq ?_; refine V_seq ?_; refine V_region (id := 12) ?_; refine vo_step (ok_callx L rfl rfl (blt_lt rfl) rfl rfl rfl (fun u H hH hle _ => fparse_asc q2 (by decide) b2 hH (hM.mono hle))) rfl ?_; refine vo_step (ok_move rfl rfl rfl) rfl ?_; refine vo_step (ok_extract rfl rfl rfl rfl) rfl ?_; refine vo_step (ok_extract rfl rfl rfl rfl) rfl ?_; refine vo_step (ok_alloc L rfl rfl rfl rfl) rfl ?_; refine vo_step (ok_store L rfl rfl rfl rfl rfl rfl rfl rfl) rfl ?_; refine vo_step (ok_assign rfl rfl rfl) rfl ?_; refine vo_nil ?_; refine N_seq ?_; refine V_seq ?_; refine V_region (id := 13) ?_; refine vo_step (ok_callx L rfl rfl (blt_lt rfl) rfl rfl rfl (fun u H hH hle _ => fparse_asc q3 (by decide) b3 hH (hM.mono hle))) rfl ?_; refine vo_step (ok_move rfl rfl rfl) rfl ?_; refine vo_step (ok_extract rfl rfl rfl rfl) rfl ?_; refine vo_step (ok_extract rfl rfl rfl rfl) rfl ?_; refine vo_step (ok_alloc L rfl rfl rfl rfl) rfl ?_; refine vo_step (ok_store L rfl rfl rfl rfl rfl rfl rfl rfl) rfl ?_; refine vo_step (ok_assign rfl rfl rfl) rfl ?_; refine vo_nil ?_; refine N_seq ?_; refine V_seq ?_; refine V_region (id := 14) ?_; refine vo_step (ok_move rfl rfl rfl) rfl ?_; refine vo_step (ok_move rfl rfl rfl) rfl ?_; refine vo_step (ok_add rfl rfl rfl rfl (wrap_i64 (by omega) (by omega))) rfl ?_; refine vo_step (ok_eql rfl rfl rfl rfl (decide_eq_true (by omega))) rfl ?_; refine vo_step (ok_move rfl rfl rfl) rfl ?_; refine vo_step (ok_move rfl rfl rfl) rfl ?_; refine vo_step (ok_pick rfl rfl rfl rfl) rfl ?_; refine vo_step (ok_move rfl rfl rfl) rfl ?_; refine vo_step (ok_move rfl rfl rfl) rfl ?_; refine vo_step (ok_not rfl rfl rfl rfl) rfl ?_; refine vo_step (ok_pick rfl rfl rfl rfl) rfl ?_; refine vo_step (ok_move rfl rfl rfl) rfl ?_; refine vo_step (ok_loadA L (vs := [_, _, _, _, _, _, _]) (src_own rfl) rfl rfl rfl rfl ⟨_, rfl⟩) rfl ?_; refine vo_step (ok_callx L rfl rfl (blt_lt rfl) rfl rfl rfl (fun u H hH _ _ => ftext_ret zm tx hH)) rfl ?_; refine vo_step (ok_seql rfl rfl rfl rfl (decide_eq_true rfl)) rfl ?_; refine vo_step (ok_pick rfl rfl rfl rfl) rfl ?_; refine vo_step (ok_move rfl rfl rfl) rfl ?_; refine vo_step (ok_loadA L (vs := [_, _, _, _, _, _, _]) (src_own rfl) rfl rfl rfl rfl ⟨_, rfl⟩) rfl ?_; refine vo_step (ok_build (cs := [_, _, _, _, _, _, _]) rfl rfl pl36 rfl rfl) rfl ?_; refine vo_step (ok_aeql rfl rfl rfl rfl eq36 rfl (by assumption)) rfl ?_; refine vo_step (ok_pick rfl rfl rfl rfl) rfl ?_; refine vo_step (ok_move rfl rfl rfl) rfl ?_; refine vo_step (ok_move rfl rfl rfl) rfl ?_; refine vo_step (ok_eql rfl rfl rfl rfl (decide_eq_true (by omega))) rfl ?_; refine vo_step (ok_pick rfl rfl rfl rfl) rfl ?_; refine vo_step (ok_move rfl rfl rfl) rfl ?_; refine vo_step (ok_move rfl rfl rfl) rfl ?_; refine vo_step (ok_eql rfl rfl rfl rfl (decide_eq_true (by omega))) rfl ?_; refine vo_step (ok_pick rfl rfl rfl rfl) rfl ?_; refine vo_step (ok_move rfl rfl rfl) rfl ?_; refine vo_step (ok_move rfl rfl rfl) rfl ?_; refine vo_step (ok_eql rfl rfl rfl rfl (decide_eq_true (by omega))) rfl ?_; refine vo_step (ok_pick rfl rfl rfl rfl) rfl ?_; refine vo_step (ok_assign rfl rfl rfl) rfl ?_; refine vo_nil ?_; refine N_seq ?_
  refine V_ret L (rs := [.tmp 0]) rfl (fun _ _ h => h) Since.refl fun u H hH hle => ?_
  rfl
end Go.V.L3
/- FiltersSelect (chapter 3). -/
namespace Go.V.L3
open Go.Proofs Go.RowKit Go.V Go.V.L2
theorem fz_m {f : FT} (h : FZ f) : FM f := by unfold FM; unfold FZ at h; omega
attribute [local irreducible] V N X VO Par StepOK Has Ret RetL RetO RetT Src
end Go.V.L3
/- The kit's floor of ways that meet again within a region. -/
namespace Go.V
open Go.Proofs Go.RowKit
section
variable {P : Program} {F : Fr} {B : Heap} {O : Boxes} {n : Nat} {ops : Array Oper} {κ κ1 κ2 : Kap} {d : Nat} {Q : Exit → Act → World → Prop}
/-- Less is known. -/
def Less (κ2 κ : Kap) : Prop := ∀ t k, κ2 t = some k → κ t = some k
theorem Less.refl : Less κ κ := fun _ _ h => h
theorem Less.upd {s : Nat} {k : Kn} (h0 : κ2 s = none) (h : Less κ2 κ) : Less κ2 (upd κ s k) := fun t k' h' => by
  by_cases e : t = s
  · subst e; rw [h0] at h'; cases h'
  · rw [upd_other _ _ e]; exact h t k' h'
theorem Less.set {k : Kn} (h : Less κ2 κ) : Less (Go.V.upd κ2 d k) (Go.V.upd κ d k) := fun t k' h' => by
  by_cases e : t = d
  · subst e; rw [upd_same] at h' ⊢; exact h'
  · rw [upd_other _ _ e] at h' ⊢; exact h t k' h'
end
end Go.V
/- FiltersBoth (chapter 3). -/
namespace Go.V.L3
open Go.Proofs Go.RowKit Go.V Go.V.L2
theorem eqF {t v : FT} {r : Bool} (e : decide (t = v) = r) : eqCs [0, 0, 0, 0, 0, 0, 2] [.string t.1.1.1, .string t.1.1.2, .string t.1.2, .string t.2.1.1.1, .string t.2.1.1.2, .string t.2.1.2, .bool t.2.2] [.string v.1.1.1, .string v.1.1.2, .string v.1.2, .string v.2.1.1.1, .string v.2.1.1.2, .string v.2.1.2, .bool v.2.2] = some r := by
  subst e
  simp only [eqCs, eqC]
  obtain ⟨⟨⟨t1, t2⟩, t3⟩, ⟨⟨t4, t5⟩, t6⟩, t7⟩ := t
  obtain ⟨⟨⟨v1, v2⟩, v3⟩, ⟨⟨v4, v5⟩, v6⟩, v7⟩ := v
  simp only [Prod.mk.injEq]
  by_cases a1 : t1 = v1
  · by_cases a2 : t2 = v2
    · by_cases a3 : t3 = v3
      · by_cases a4 : t4 = v4
        · by_cases a5 : t5 = v5
          · by_cases a6 : t6 = v6
            · by_cases a7 : t7 = v7
              · simp [a1, a2, a3, a4, a5, a6, a7]
              · cases t7 <;> cases v7 <;> simp [a1, a2, a3, a4, a5, a6] at a7 ⊢
            · simp [a6]
          · simp [a5]
        · simp [a4]
      · simp [a3]
    · simp [a2]
  · simp [a1]
attribute [local irreducible] V N X VO Par StepOK Has Ret RetL RetO RetT Src
end Go.V.L3
/- The walks of the definition of tuples (chapter 2) at strings however long: compared, sorted or not. -/
namespace Go.V.L2
open Go.Proofs Go.RowKit Go.V
attribute [local irreducible] V N X VO Par StepOK Has Ret RetL Src
end Go.V.L2
/- FiltersErrors (chapter 3). -/
namespace Go.V.L3
open Go.Proofs Go.RowKit Go.V Go.V.L2
attribute [local irreducible] V N X VO Par StepOK Has Ret RetL RetO RetT Src
end Go.V.L3
/- The kit: ranges over strings. -/
namespace Go.V
open Go.RowKit
/-- An iterator over a string, of the call's own. -/
def StrIt (s : ByteArray) (pos : Nat) : Res where
  P x _ u C := ∃ b, x = .pointer (some ⟨b, 0, none⟩) ∧ u.heap[b]? = some (.stringIter s pos) ∧ ∀ k, C k ↔ k = b
  st := fun ⟨b, hx, hb, hC⟩ _ _ _ hk => ⟨b, hx, (hk b ((hC b).2 rfl)).trans hb, hC⟩
section
variable {P : Program} {F : Fr} {B : Heap} {O : Boxes} {n : Nat} {ops : Array Oper} {κ : Kap} {d : Nat} {ty : TypeId} {pos : String} {aft : Array Edge} {g : Option (Nat × Bool)}
theorem ok_rangeS (L : Tabs P) {x : Operand} {t : TypeId} {s : ByteArray} (hn : Nat.blt d n = true) (hg : gK ops κ ⟨some d, .range t x, ty, pos, aft, g⟩ = some true) (hx : evK κ x = some (.string s)) (ht : L.st t = some ()) :
    StepOK P F B n ops O κ ⟨some d, .range t x, ty, pos, aft, g⟩ d (.own (StrIt s 0)) := by
  rintro κ' a u hl ⟨H, fp, hh⟩
  have hn : d < n := by simpa using hn
  unfold After
  rw [if_pos (wanted_gK hh hl hg)]
  have e := hh.env hl
  have hrun : (execOp a.eval ⟨some d, .range t x, ty, pos, aft, g⟩).run P u = .ok (.value (.pointer (some ⟨u.heap.size, 0, none⟩))) (u.alloc (.stringIter s 0)) := by
    have h1 := e.is_ x _ (by simp [Op.operands]) hx
    simp only [execOp, h1, Sem.run_bind, run_range_string u t s (Tabs.st_spec ht), Result.andThen_ok]
    rfl
  rw [hrun]
  simp only [Upon]
  have hg2 := hh.grow (Grow.hid hh.sub (.stringIter s 0))
  refine ⟨H, _, hg2.putR (C := fun k => k = u.heap.size) (by simp [Act.put]) rfl (fun t ht => eval_put_other ht) ⟨u.heap.size, eval_put_same (by rw [hh.size]; exact hn), heap_push_same _ _, fun _ => Iff.rfl⟩ (fun k hk => ?_) fun t r' _ ht k hf hk => ?_⟩
  · subst hk
    exact ⟨size_of_heap (heap_push_same u _), none_of_ge hh.sub (Nat.le_refl _), .inl hh.keep.size, fun y hy e => by have := size_of_heap (hh.boxes y hy).1; omega⟩
  · have := ((hh.slot t _ ht).2 k hf).1
    omega
theorem grow_putObj {u : World} {H : Heap} {b : Nat} {L : Nat → Prop} {o : Obj} (hs : H.Le (hp u)) (hL : L b) (hH : H b = none) : Grow L u H (u.putObj b o) H :=
  ⟨⟨rfl, rfl, rfl, Nat.le_of_eq World.putObj_size.symm, fun k _ hk => World.putObj_heap_other (fun e => hk (e ▸ hL)), Nat.le_refl _⟩, fun k x hx => by
    have : k ≠ b := fun e => by subst e; rw [hH] at hx; cases hx
    show (u.putObj b o).heap[k]? = some x
    rw [World.putObj_heap_other this]; exact hs k x hx, Heap.Le.refl _, fun _ _ _ => rfl⟩
theorem run_nextS {u : World} {b : Nat} {s : ByteArray} {p c w : Nat} {t : TypeId} (hb : u.heap[b]? = some (.stringIter s p)) (hp : p < s.size) (hd : Utf8.decode s p = (c, w)) :
    (Instr.next (.pointer (some ⟨b, 0, none⟩)) true t).run P u = .ok (.tuple #[.bool true, .int .i64 p, .int .i32 c]) (u.putObj b (.stringIter s (p + w))) := by
  simp only [Instr.next, getObj, setObj, Sem.run_bind, Sem.run, hb, Result.andThen, hp, if_true, hd]
  simp [goInt, Sem.run, hb, World.putObj]
theorem ok_nextS {q p c w : Nat} {s : ByteArray} (hn : Nat.blt d n = true) (hg : gK ops κ ⟨some d, .next (.tmp q) true, ty, pos, aft, g⟩ = some true) (hq : κ q = some (.own (StrIt s p))) (hp : p < s.size) (hd : Utf8.decode s p = (c, w)) :
    StepOK2 P F B n ops O κ ⟨some d, .next (.tmp q) true, ty, pos, aft, g⟩ q (.own (StrIt s (p + w))) d (.is (.tuple #[.bool true, .int .i64 p, .int .i32 c])) := by
  rintro κ' a u hlk hks ⟨H, fp, hh⟩
  unfold After
  rw [if_pos (wanted_gK hh hlk hg)]
  have hk' : κ' q = some (.own (StrIt s p)) := hks.trans hq
  obtain ⟨⟨b, hx, hb, hC⟩, hM⟩ := hh.slot q _ hk'
  have hrun : (execOp a.eval ⟨some d, .next (.tmp q) true, ty, pos, aft, g⟩).run P u = .ok (.value (.tuple #[.bool true, .int .i64 p, .int .i32 c])) (u.putObj b (.stringIter s (p + w))) := by
    simp only [execOp, hx, Sem.run_bind, run_nextS hb hp hd, Result.andThen_ok]
    rfl
  rw [hrun]
  simp only [Upon]
  have hbm := hM b ((hC b).2 rfl)
  have h2 := hh.usePut (d := q) (a' := a) (r' := StrIt s (p + w)) (C := fun k => k = b) hk' (grow_putObj hh.sub ((hC b).2 rfl) hbm.2.1) rfl rfl (fun _ _ => rfl) ⟨b, hx, World.putObj_heap_same hbm.1, fun _ => Iff.rfl⟩ (fun k hk => by
    subst hk; exact ⟨.inl ((hC k).2 rfl), by rw [World.putObj_size]; exact hbm.1, hbm.2.1⟩)
  rw [upd_upd] at h2
  exact ⟨H, _, h2.put (k := .is _) (blt_lt hn) trivial rfl⟩
theorem ok_nextE {q p : Nat} {s : ByteArray} (hn : Nat.blt d n = true) (hg : gK ops κ ⟨some d, .next (.tmp q) true, ty, pos, aft, g⟩ = some true) (hq : κ q = some (.own (StrIt s p))) (hp : ¬ p < s.size) :
    StepOK P F B n ops O κ ⟨some d, .next (.tmp q) true, ty, pos, aft, g⟩ d (.is (.tuple #[.bool false])) :=
  ok_pure rfl (blt_lt hn) hg trivial fun a u H fp e => by
    obtain ⟨⟨b, hx, hb, hC⟩, hM⟩ := e.own_ q _ (by simp [Op.operands]) hq
    refine ⟨_, ?_, rfl⟩
    have hr : (Instr.next (.pointer (some ⟨b, 0, none⟩)) true ty).run P u = .ok (.tuple #[.bool false]) u := by
      simp [Instr.next, getObj, Sem.run, hb, hp]
    simp only [execOp, hx, Sem.run_bind, hr, Result.andThen_ok]
    rfl
/-- A rune made a string. -/
theorem ok_convS (L : Tabs P) {t t' : TypeId} {x : Operand} {k : IntKind} {p : Int} {r : ByteArray} (hn : Nat.blt d n = true) (hg : gK ops κ ⟨some d, .convert t t' x, ty, pos, aft, g⟩ = some true) (hx : evK κ x = some (.int k p)) (h1 : (P.underlying t).isSome = true) (h2 : L.st t' = some ()) (hr : Utf8.encode p = r) :
    StepOK P F B n ops O κ ⟨some d, .convert t t' x, ty, pos, aft, g⟩ d (.is (.string r)) :=
  ok_pure rfl (blt_lt hn) hg trivial fun a u H fp e => ⟨_, by
    subst hr
    have hv := e.is_ x _ (by simp [Op.operands]) hx
    simp only [execOp, hv, Sem.run_bind, run_convert_int_string u t t' k p h1 (Tabs.st_spec h2), Result.andThen_ok]; rfl, rfl⟩
end
/-! ### a scope without jumps -/
section
variable {P : Program} {b : Frame} {a : Act} {k : List Item} {cs : List Frame} {w : World}
theorem stepR_scope {c : Code} : step P (lone (b.atR a (.code (.scope c) :: k)) cs w) = .next (lone (b.atR a (.code c :: .inScope c :: k)) cs w) :=
  step_lone_go (by simp [stepG, stepG.exec, Frame.atR])
theorem stepR_inScope {c : Code} : step P (lone (b.atR a (.inScope c :: k)) cs w) = .next (lone (b.atR a k) cs w) :=
  step_lone_go (by simp [stepG, stepG.exec, Frame.atR])
theorem wpIn_scope {F : Fence} {n : Nat} {Q : Exit → Act → World → Prop} {c : Code} (h : c.wpIn F n P (Exit.noGoto Q) a w) : (Code.scope c).wpIn F n P Q a w := by
  intro b k cs hro hb hr
  have h0 : (lone (b.atR a (.code (.scope c) :: k)) cs w).fenced P F := fenced_calm hb hr rfl
  obtain ⟨e, a₁, w₁, hq, harr⟩ := h b (.inScope c :: k) cs hro hb hr
  cases e with
  | normal => exact ⟨.normal, a₁, w₁, hq, .head h0 stepR_scope (StepsIn.trans harr (.one (fenced_calm hb hr rfl) stepR_inScope))⟩
  | exit id => exact ⟨.exit id, a₁, w₁, hq, fun k' hk => .head h0 stepR_scope (harr.1 k' (by simp [exitTo, hk])), fun hr' hk => let ⟨k₁, h1, h2⟩ := harr.2 hr' (by simp [exitTo, hk]); ⟨k₁, h1, .head h0 stepR_scope h2⟩⟩
  | goto l => exact hq.elim
  | ret => exact ⟨_, a₁, w₁, hq, .of_steps (.one h0 stepR_scope) harr⟩
  | panic ch => exact ⟨_, a₁, w₁, hq, .of_steps (.one h0 stepR_scope) harr⟩
  | outgrown => exact ⟨_, a₁, w₁, hq, .of_steps (.one h0 stepR_scope) harr⟩
end
section
variable {P : Program} {F : Fr} {B : Heap} {O : Boxes} {n : Nat} {κ : Kap} {Q : Exit → Act → World → Prop}
theorem V_scope {c : Code} (h : V P F B n O κ c (Exit.noGoto Q)) : V P F B n O κ (.scope c) Q := fun a u hh => wpIn_scope (h a u hh)
end
end Go.V
/- strings.ContainsAny at the two marks, on any bytes. -/
namespace Go.V.L3
open Go.Proofs Go.RowKit Go.V Go.V.L2
theorem decode_high {s : ByteArray} {i : Nat} (ha : 128 ≤ (s.get! i).toNat) : Utf8.valid (Utf8.decode s i).1 = true ∧ 128 ≤ (Utf8.decode s i).1 ∧ 1 ≤ (Utf8.decode s i).2 ∧ ∀ j, j < (Utf8.decode s i).2 → 128 ≤ (s.get! (i + j)).toNat := by
  have one : ∀ j, j < 1 → 128 ≤ (s.get! (i + j)).toNat := fun j hj => by
    have : j = 0 := by omega
    subst this; exact ha
  have err : Utf8.valid ((65533, 1) : Nat × Nat).1 = true ∧ 128 ≤ ((65533, 1) : Nat × Nat).1 ∧ 1 ≤ ((65533, 1) : Nat × Nat).2 ∧ ∀ j, j < ((65533, 1) : Nat × Nat).2 → 128 ≤ (s.get! (i + j)).toNat := ⟨by decide, by decide, by decide, one⟩
  have hc : ∀ {k : Nat}, (decide (i + k < s.size) && (s.get! (i + k)).toNat / 64 == 2) = true → 128 ≤ (s.get! (i + k)).toNat := fun h => by
    simp only [Bool.and_eq_true, decide_eq_true_eq, beq_iff_eq] at h
    omega
  unfold Utf8.decode
  simp only [Nat.add_zero, Utf8.runeError]
  split
  · omega
  split
  · rename_i h
    simp only [Bool.and_eq_true] at h
    split
    · rename_i hge
      refine ⟨?_, hge, (show 1 ≤ 2 from by decide), fun j hj => ?_⟩
      · have h2 := (s.get! i).toNat_lt
        have h3 := (s.get! (i + 1)).toNat_lt
        simp only [Utf8.valid, Bool.or_eq_true, Bool.and_eq_true, decide_eq_true_eq]
        omega
      · rcases (show j = 0 ∨ j = 1 from by have : j < 2 := hj; omega) with rfl | rfl
        · exact ha
        · exact hc (by simpa using h.2)
    · exact err
  split
  · rename_i h
    simp only [Bool.and_eq_true] at h
    split
    · rename_i hge
      simp only [Bool.and_eq_true, decide_eq_true_eq] at hge
      refine ⟨hge.2, by have := hge.1; show 128 ≤ _; omega, (show 1 ≤ 3 from by decide), fun j hj => ?_⟩
      rcases (show j = 0 ∨ j = 1 ∨ j = 2 from by have : j < 3 := hj; omega) with rfl | rfl | rfl
      · exact ha
      · exact hc (by simpa using h.1.2)
      · exact hc (by simpa using h.2)
    · exact err
  split
  · rename_i h
    simp only [Bool.and_eq_true] at h
    split
    · rename_i hge
      simp only [Bool.and_eq_true, decide_eq_true_eq] at hge
      refine ⟨hge.2, by have := hge.1; show 128 ≤ _; omega, (show 1 ≤ 4 from by decide), fun j hj => ?_⟩
      rcases (show j = 0 ∨ j = 1 ∨ j = 2 ∨ j = 3 from by have : j < 4 := hj; omega) with rfl | rfl | rfl | rfl
      · exact ha
      · exact hc (by simpa using h.1.1.2)
      · exact hc (by simpa using h.1.2)
      · exact hc (by simpa using h.2)
    · exact err
  · exact err
attribute [local irreducible] V N X VO Par StepOK Has Ret RetL RetO RetT Src
theorem vru_ret {r : Int} {b : Bool} (hb : Lib.validRune r = b) {w : World} {B : Heap} (hB : B.Le (hp w)) : Ret Try.prog 134 [.int .i32 r] w B (fun v _ => v = .bool b) := by
  subst hb; exact Ret.of_same hB (Try.utf8_ValidRune r w)
theorem ibn_ret {s : ByteArray} (hs : s.data.toList = []) {c : Int} {w : World} {B : Heap} (hB : B.Le (hp w)) : Ret Try.prog 133 [.string s, .int .u8 c] w B (fun v _ => v = .int .i64 (-1)) := by
  have h := Try.strings_IndexByte s c w
  rw [hs] at h
  exact Ret.of_same hB h
theorem sas_ret {m : Nat} (hm : m ≤ 8) {w : World} {B : Heap} (hB : B.Le (hp w)) : Ret Try.prog 116 [.int .i64 m] w B (fun v _ => v = .bool false) := by
  have h := Try.strings_shouldUseASCIISet m w
  rw [decide_eq_false (by omega)] at h
  exact Ret.of_same hB h
theorem ira_ret {c : Nat} (hc : c < 128) {w : World} {B : Heap} (hB : B.Le (hp w)) : Ret Try.prog 115 [.string ⟨#[58, 35]⟩, .int .i32 c] w B (fun v _ => v = .int .i64 (Lib.indexByte [58, 35] c.toUInt8)) := by
  have h := Try.strings_IndexRune_ascii ⟨#[58, 35]⟩ c w (by omega) (by omega)
  rw [Int.toNat_natCast] at h
  exact Ret.of_same hB h
theorem ire_ret {w : World} {B : Heap} (hB : B.Le (hp w)) : Ret Try.prog 115 [.string ⟨#[58, 35]⟩, .int .i32 65533] w B (fun v _ => v = .int .i64 (-1)) := by
  refine V_enter Try.func115 rfl Try.ntmps115 (Nat.le_of_ble_eq_true rfl) hB ?_
  refine V_seq ?_; refine V_region (id := 0) ?_; refine vo_step (ok_assign rfl rfl rfl) rfl ?_; refine vo_nil ?_; refine N_seq ?_; refine V_block ?_; refine V_seq ?_; refine V_region (id := 34) ?_; refine vo_step (ok_move rfl rfl rfl) rfl ?_; refine vo_step (ok_leq rfl rfl rfl rfl (decide_eq_true (by omega))) rfl ?_; refine vo_step (ok_move rfl rfl rfl) rfl ?_; refine vo_step (ok_move rfl rfl rfl) rfl ?_; refine vo_step (ok_lss rfl rfl rfl rfl (decide_eq_false (by omega))) rfl ?_; refine vo_step (ok_pick rfl rfl rfl rfl) rfl ?_; refine vo_step (ok_assign rfl rfl rfl) rfl ?_; refine vo_nil ?_; refine N_seq ?_; refine V_false rfl ?_; refine V_seq ?_; refine V_region (id := 36) ?_; refine vo_step (ok_move rfl rfl rfl) rfl ?_; refine vo_step (ok_eql rfl rfl rfl rfl (decide_eq_true (by omega))) rfl ?_; refine vo_step (ok_assign rfl rfl rfl) rfl ?_; refine vo_nil ?_; refine N_seq ?_; refine V_true rfl ?_; refine V_seq ?_; refine V_seq ?_; refine V_region (id := 37) ?_; refine vo_step (ok_move rfl rfl rfl) rfl ?_; refine vo_step (ok_rangeS L rfl rfl rfl rfl) rfl ?_; refine vo_nil ?_; refine N_seq ?_; refine V_block ?_
  refine V_loop (fun p : Nat => [(175, .own (StrIt ⟨#[58, 35]⟩ p))]) (fun p => p ≤ 2) (fun p => 2 - p) 0 (by decide) ⟨rfl, trivial⟩ ?_
  rintro p hp
  rcases p with _ | _ | _ | p
  · refine V_seq ?_; refine V_region (id := 38) ?_; refine vo_step2 (ok_nextS (c := 58) (w := 1) rfl rfl rfl (by decide) (by decide)) ?_; refine vo_step (ok_extract rfl rfl rfl rfl) rfl ?_; refine vo_nil ?_; refine N_seq ?_; refine V_seq ?_; refine V_true rfl ?_; refine V_skip ?_; refine N_seq ?_; refine V_block ?_; refine V_seq ?_; refine V_region (id := 39) ?_; refine vo_step (ok_extract rfl rfl rfl rfl) rfl ?_; refine vo_step (ok_extract rfl rfl rfl rfl) rfl ?_; refine vo_step (ok_assign rfl rfl rfl) rfl ?_; refine vo_step (ok_assign rfl rfl rfl) rfl ?_; refine vo_nil ?_; refine N_seq ?_; refine V_seq ?_; refine V_region (id := 40) ?_; refine vo_step (ok_move rfl rfl rfl) rfl ?_; refine vo_step (ok_eql rfl rfl rfl rfl (decide_eq_false (by omega))) rfl ?_; refine vo_nil ?_; refine N_seq ?_; refine V_false rfl ?_; refine V_skip ?_; refine N_block ?_
    exact N_round (x := 0) 1 (by omega) (by decide) ⟨rfl, trivial⟩
  · refine V_seq ?_; refine V_region (id := 38) ?_; refine vo_step2 (ok_nextS (c := 35) (w := 1) rfl rfl rfl (by decide) (by decide)) ?_; refine vo_step (ok_extract rfl rfl rfl rfl) rfl ?_; refine vo_nil ?_; refine N_seq ?_; refine V_seq ?_; refine V_true rfl ?_; refine V_skip ?_; refine N_seq ?_; refine V_block ?_; refine V_seq ?_; refine V_region (id := 39) ?_; refine vo_step (ok_extract rfl rfl rfl rfl) rfl ?_; refine vo_step (ok_extract rfl rfl rfl rfl) rfl ?_; refine vo_step (ok_assign rfl rfl rfl) rfl ?_; refine vo_step (ok_assign rfl rfl rfl) rfl ?_; refine vo_nil ?_; refine N_seq ?_; refine V_seq ?_; refine V_region (id := 40) ?_; refine vo_step (ok_move rfl rfl rfl) rfl ?_; refine vo_step (ok_eql rfl rfl rfl rfl (decide_eq_false (by omega))) rfl ?_; refine vo_nil ?_; refine N_seq ?_; refine V_false rfl ?_; refine V_skip ?_; refine N_block ?_
    exact N_round (x := 1) 2 (by omega) (by decide) ⟨rfl, trivial⟩
  · refine V_seq ?_; refine V_region (id := 38) ?_; refine vo_step (ok_nextE rfl rfl rfl (by decide)) rfl ?_; refine vo_step (ok_extract rfl rfl rfl rfl) rfl ?_; refine vo_nil ?_; refine N_seq ?_; refine V_seq ?_; refine V_false rfl ?_; refine V_exit ?_; refine X_then ?_; refine X_then ?_; refine X_here ?_; refine N_seq ?_; refine V_seq ?_; refine V_region (id := 42) ?_; refine vo_step (ok_assign rfl rfl rfl) rfl ?_; refine vo_nil ?_; refine N_seq ?_
    refine V_ret L (rs := [.tmp 4]) rfl (fun _ _ h => h) Since.refl fun u H hH hle => ?_
    rfl
  · omega
theorem ira' {q : UInt8} (hc : q.toNat < 128) {w : World} {B : Heap} (hB : B.Le (hp w)) : Ret Try.prog 115 [.string ⟨#[58, 35]⟩, .int .i32 q.toNat] w B (fun v _ => v = .int .i64 (Lib.indexByte [58, 35] q)) := by
  have h := ira_ret (B := B) hc hB
  have e : q.toNat.toUInt8 = q := by simp
  rwa [e] at h
theorem irv_ret {c : Nat} (hv : Utf8.valid c = true) (h1 : 128 ≤ c) (h2 : c ≠ 65533) {w : World} {B : Heap} (hB : B.Le (hp w)) : Ret Try.prog 115 [.string ⟨#[58, 35]⟩, .int .i32 c] w B (fun v _ => v = .int .i64 (-1)) := by
  obtain ⟨e1, e2, e3⟩ := encode_facts c hv (by omega)
  have hvr : Lib.validRune c = true := by
    have := validRune_eq c
    rw [hv] at this
    exact this.symm
  generalize hrs : Utf8.encode c = rs at e1 e2 e3
  obtain ⟨m, hm⟩ : ∃ m, rs.size = m + 1 := ⟨rs.size - 1, by omega⟩
  have hw : IntKind.i64.wrap ((rs.size : Int) - 1) = (m : Int) := by rw [hm]; rw [wrap_i64 (by omega) (by omega)]; omega
  have h3 : 128 ≤ (rs[m]'(by omega)).toNat := by
    have := e3 (by omega)
    simpa [hm] using this
  have hsz : (⟨#[58, 35]⟩ : ByteArray).size = 2 := rfl
  refine V_enter Try.func115 rfl Try.ntmps115 (Nat.le_of_ble_eq_true rfl) hB ?_
  refine V_seq ?_; refine V_region (id := 0) ?_; refine vo_step (ok_assign rfl rfl rfl) rfl ?_; refine vo_nil ?_; refine N_seq ?_; refine V_block ?_; refine V_seq ?_; refine V_region (id := 34) ?_; refine vo_step (ok_move rfl rfl rfl) rfl ?_; refine vo_step (ok_leq rfl rfl rfl rfl (decide_eq_true (by omega))) rfl ?_; refine vo_step (ok_move rfl rfl rfl) rfl ?_; refine vo_step (ok_move rfl rfl rfl) rfl ?_; refine vo_step (ok_lss rfl rfl rfl rfl (decide_eq_false (by omega))) rfl ?_; refine vo_step (ok_pick rfl rfl rfl rfl) rfl ?_; refine vo_step (ok_assign rfl rfl rfl) rfl ?_; refine vo_nil ?_; refine N_seq ?_; refine V_false rfl ?_; refine V_seq ?_; refine V_region (id := 36) ?_; refine vo_step (ok_move rfl rfl rfl) rfl ?_; refine vo_step (ok_eql rfl rfl rfl rfl (decide_eq_false (by omega))) rfl ?_; refine vo_step (ok_assign rfl rfl rfl) rfl ?_; refine vo_nil ?_; refine N_seq ?_; refine V_false rfl ?_; refine V_seq ?_; refine V_region (id := 43) ?_; refine vo_step (ok_move rfl rfl rfl) rfl ?_; refine vo_step (ok_callx L rfl rfl (blt_lt rfl) rfl rfl rfl (fun u H hH _ _ => vru_ret hvr hH)) rfl ?_; refine vo_step (ok_not rfl rfl rfl rfl) rfl ?_; refine vo_step (ok_assign rfl rfl rfl) rfl ?_; refine vo_nil ?_; refine N_seq ?_; refine V_false rfl ?_; refine V_scope ?_; refine V_seq ?_; refine V_region (id := 1) ?_; refine vo_step (ok_move rfl rfl rfl) rfl ?_; refine vo_step (ok_convS L rfl rfl rfl (by kernel_rfl) rfl hrs) rfl ?_; refine vo_step (ok_assign rfl rfl rfl) rfl ?_; refine vo_nil ?_; refine N_seq ?_; refine V_seq ?_; refine V_region (id := 2) ?_; refine vo_step (ok_move rfl rfl rfl) rfl ?_; refine vo_step (ok_lenS L rfl rfl rfl rfl) rfl ?_; refine vo_step (ok_sub rfl rfl rfl rfl hw) rfl ?_; refine vo_step (ok_assign rfl rfl rfl) rfl ?_; refine vo_nil ?_; refine N_seq ?_; refine V_seq ?_; refine V_region (id := 3) ?_; refine vo_step (ok_move rfl rfl rfl) rfl ?_; refine vo_step (ok_assign rfl rfl rfl) rfl ?_; refine vo_nil ?_; refine N_seq ?_; refine V_seq ?_; refine V_region (id := 4) ?_; refine vo_step (ok_assign rfl rfl rfl) rfl ?_; refine vo_nil ?_; refine N_seq ?_; refine V_seq ?_; refine V_block ?_
  refine V_loop (fun _ : Unit => [(0, .is (.string ⟨#[58, 35]⟩)), (7, .is (.string rs)), (8, .is (.int .i64 m)), (9, .is (.int .i64 m))]) (fun _ => True) (fun _ => 0) () trivial ⟨rfl, rfl, rfl, rfl, trivial⟩ ?_
  rintro _ _
  by_cases hm1 : m = 1
  · subst hm1
    have hb : rs[1]? = some (rs[1]'(by omega)) := getElem?_pos rs 1 (by omega)
    generalize rs[1]'(by omega) = b at h3 hb
    have h33 : decide (((35 : UInt8).toNat : Int) ≠ (b.toNat : Int)) = true := decide_eq_true (by have : (35 : UInt8).toNat = 35 := rfl; omega)
    refine V_seq ?_; refine V_seq ?_; refine V_region (id := 5) ?_; refine vo_step (ok_move rfl rfl rfl) rfl ?_; refine vo_step (ok_move rfl rfl rfl) rfl ?_; refine vo_step (ok_lenS L rfl rfl rfl rfl) rfl ?_; refine vo_step (ok_lss (b := true) rfl rfl rfl rfl rfl) rfl ?_; refine vo_nil ?_; refine N_seq ?_; refine V_true rfl ?_; refine V_skip ?_; refine N_seq ?_; refine V_block ?_; refine V_scope ?_; refine V_seq ?_; refine V_seq ?_; refine V_regionD (id := 6) [] mixed (by kernel_rfl) ?_; refine par_step (ok_move rfl rfl rfl) rfl ?_; refine par_step (ok_move rfl rfl rfl) rfl ?_; refine par_step (ok_indexS L (c := 35) rfl rfl rfl rfl rfl rfl) rfl ?_; refine par_step (ok_move rfl rfl rfl) rfl ?_; refine par_step (ok_move rfl rfl rfl) rfl ?_; refine par_step (ok_indexS L rfl rfl rfl rfl rfl hb) rfl ?_; refine par_step (ok_neq rfl rfl rfl rfl h33) rfl ?_; refine par_nil ?_; refine N_seq ?_; refine V_true rfl ?_; refine V_seq ?_; refine V_regionD (id := 7) [] mixed (by kernel_rfl) ?_; refine par_step (ok_move rfl rfl rfl) rfl ?_; refine par_step (ok_move rfl rfl rfl) rfl ?_; refine par_step (ok_add (r := 2) rfl rfl rfl rfl rfl) rfl ?_; refine par_step (ok_sliceS L (kh := .i64) (ph := 0) 2 2 rfl rfl rfl rfl ⟨rfl, rfl⟩ rfl (by decide) (by decide) rfl) rfl ?_; refine par_step (ok_move rfl rfl rfl) rfl ?_; refine par_step (ok_move rfl rfl rfl) rfl ?_; refine par_step (ok_indexS L rfl rfl rfl rfl rfl hb) rfl ?_; refine par_step (ok_callx L rfl rfl (blt_lt rfl) rfl rfl rfl (fun u H hH _ _ => ibn_ret rfl hH)) rfl ?_; refine par_step (ok_assign rfl rfl rfl) rfl ?_; refine par_nil ?_; refine N_seq ?_; refine V_seq ?_; refine V_seq ?_; refine V_region (id := 8) ?_; refine vo_step (ok_move rfl rfl rfl) rfl ?_; refine vo_step (ok_lss rfl rfl rfl rfl (decide_eq_true (by omega))) rfl ?_; refine vo_nil ?_; refine N_seq ?_; refine V_true rfl ?_; refine V_seq ?_; refine V_region (id := 9) ?_; refine vo_step (ok_assign rfl rfl rfl) rfl ?_; refine vo_nil ?_; refine N_seq ?_
    refine V_ret L (rs := [.tmp 4]) rfl (fun _ _ h => h) Since.refl fun u H hH hle => ?_
    rfl
  · refine V_seq ?_; refine V_seq ?_; refine V_region (id := 5) ?_; refine vo_step (ok_move rfl rfl rfl) rfl ?_; refine vo_step (ok_move rfl rfl rfl) rfl ?_; refine vo_step (ok_lenS L rfl rfl rfl rfl) rfl ?_; refine vo_step (ok_lss (b := false) rfl rfl rfl rfl (decide_eq_false (by omega))) rfl ?_; refine vo_nil ?_; refine N_seq ?_; refine V_false rfl ?_; refine V_exit ?_; refine X_then ?_; refine X_then ?_; refine X_here ?_; refine N_seq ?_; refine V_seq ?_; refine V_seq ?_; refine V_region (id := 19) ?_; refine vo_step (ok_assign rfl rfl rfl) rfl ?_; refine vo_nil ?_; refine N_seq ?_
    refine V_ret L (rs := [.tmp 4]) rfl (fun _ _ h => h) Since.refl fun u H hH hle => ?_
    rfl
theorem irh_ret {c : Nat} (hv : Utf8.valid c = true) (h1 : 128 ≤ c) {w : World} {B : Heap} (hB : B.Le (hp w)) : Ret Try.prog 115 [.string ⟨#[58, 35]⟩, .int .i32 c] w B (fun v _ => v = .int .i64 (-1)) := by
  by_cases h2 : c = 65533
  · subst h2; exact ire_ret hB
  · exact irv_ret hv h1 h2 hB
theorem cont_b (q : UInt8) : ([58, 35] : List UInt8).contains q = decide (0 ≤ Lib.indexByte [58, 35] q) := by
  by_cases h : q = 58
  · subst h; rfl
  by_cases h2 : q = 35
  · subst h2; rfl
  have hb1 : ((58 : UInt8) == q) = false := by simpa using fun e => h e.symm
  have hb2 : ((35 : UInt8) == q) = false := by simpa using fun e => h2 e.symm
  have e : Lib.indexByte [58, 35] q = -1 := by simp [Lib.indexByte, hb1, hb2]
  rw [e]; simp [h, h2]
theorem get_get {r : ByteArray} {p : Nat} (h : p < r.size) : r.get! p = r[p]'h := by
  show r.data[p]! = r.data[p]
  exact getElem!_pos r.data p h
theorem cont_high {b : UInt8} (h : 128 ≤ b.toNat) : ([58, 35] : List UInt8).contains b = false := by
  have h1 : b ≠ 58 := fun e => by subst e; revert h; decide
  have h2 : b ≠ 35 := fun e => by subst e; revert h; decide
  simp [h1, h2]
theorem ias_ret {r : ByteArray} (h8 : r.size ≤ 8) {w : World} {B : Heap} (hB : B.Le (hp w)) :
    Ret Try.prog 97 [.string r, .string ⟨#[58, 35]⟩] w B (fun v _ => v = .int .i64 (Lib.indexAny r.data.toList [58, 35])) := by
  have h12 : ¬ (⟨#[58, 35]⟩ : ByteArray) = ⟨#[]⟩ := fun h => by have := congrArg ByteArray.size h; cases this
  have hlen : r.data.toList.length = r.size := Array.length_toList
  refine V_enter Try.func97 rfl Try.ntmps97 (Nat.le_of_ble_eq_true rfl) hB ?_
  refine V_seq ?_; refine V_region (id := 0) ?_; refine vo_step (ok_assign rfl rfl rfl) rfl ?_; refine vo_nil ?_; refine N_seq ?_; refine V_seq ?_; refine V_seq ?_; refine V_region (id := 1) ?_; refine vo_step (ok_move rfl rfl rfl) rfl ?_; refine vo_step (ok_seql rfl rfl rfl rfl (decide_eq_false h12)) rfl ?_; refine vo_nil ?_; refine N_seq ?_; refine V_false rfl ?_; refine V_skip ?_; refine N_seq ?_; refine V_seq ?_; refine V_seq ?_; refine V_region (id := 3) ?_; refine vo_step (ok_move rfl rfl rfl) rfl ?_; refine vo_step (ok_lenS L rfl rfl rfl rfl) rfl ?_; refine vo_step (ok_eql (b := false) rfl rfl rfl rfl rfl) rfl ?_; refine vo_nil ?_; refine N_seq ?_; refine V_false rfl ?_; refine V_skip ?_; refine N_seq ?_; refine V_seq ?_; refine V_seq ?_; refine V_region (id := 8) ?_; refine vo_step (ok_move rfl rfl rfl) rfl ?_; refine vo_step (ok_lenS L rfl rfl rfl rfl) rfl ?_; refine vo_step (ok_callx L rfl rfl (blt_lt rfl) rfl rfl rfl (fun u H hH _ _ => sas_ret h8 hH)) rfl ?_; refine vo_nil ?_; refine N_seq ?_; refine V_false rfl ?_; refine V_skip ?_; refine N_seq ?_; refine V_seq ?_; refine V_seq ?_; refine V_region (id := 17) ?_; refine vo_step (ok_move rfl rfl rfl) rfl ?_; refine vo_step (ok_rangeS L rfl rfl rfl rfl) rfl ?_; refine vo_nil ?_; refine N_seq ?_; refine V_block ?_
  refine V_loop (fun p : Nat => [(1, .is (.string ⟨#[58, 35]⟩)), (45, .own (StrIt r p))]) (fun p => Lib.NoAny r.data.toList [58, 35] p) (fun p => r.size - p) 0 (Lib.NoAny.zero _ _) ⟨rfl, rfl, trivial⟩ ?_
  rintro p hp
  by_cases hlt : p < r.size
  · have hget : r.data.toList[p]? = some (r[p]'hlt) := by
      rw [List.getElem?_eq_getElem (by omega)]; rfl
    have hg2 : r.get! p = r[p]'hlt := by
      exact get_get hlt
    by_cases hb : (r[p]'hlt).toNat < 128
    · have hd := decode_ascii r p hlt hb
      have hc := cont_b (r[p]'hlt)
      generalize hq : r[p]'hlt = q at hd hc hb hget
      by_cases h0 : 0 ≤ Lib.indexByte [58, 35] q
      · have hh := Lib.indexAny_hit hp hget (by rw [hc]; exact decide_eq_true h0)
        rw [hh]
        refine V_seq ?_; refine V_region (id := 18) ?_; refine vo_step2 (ok_nextS rfl rfl rfl hlt hd) ?_; refine vo_step (ok_extract rfl rfl rfl rfl) rfl ?_; refine vo_nil ?_; refine N_seq ?_; refine V_seq ?_; refine V_true rfl ?_; refine V_skip ?_; refine N_seq ?_; refine V_block ?_; refine V_seq ?_; refine V_region (id := 19) ?_; refine vo_step (ok_extract rfl rfl rfl rfl) rfl ?_; refine vo_step (ok_extract rfl rfl rfl rfl) rfl ?_; refine vo_step (ok_assign rfl rfl rfl) rfl ?_; refine vo_step (ok_assign rfl rfl rfl) rfl ?_; refine vo_nil ?_; refine N_seq ?_; refine V_seq ?_; refine V_region (id := 20) ?_; refine vo_step (ok_move rfl rfl rfl) rfl ?_; refine vo_step (ok_move rfl rfl rfl) rfl ?_; refine vo_step (ok_callx L rfl rfl (blt_lt rfl) rfl rfl rfl (fun u H hH _ _ => ira' hb hH)) rfl ?_; refine vo_step (ok_geq rfl rfl rfl rfl (decide_eq_true h0)) rfl ?_; refine vo_nil ?_; refine N_seq ?_; refine V_true rfl ?_; refine V_seq ?_; refine V_region (id := 21) ?_; refine vo_step (ok_move rfl rfl rfl) rfl ?_; refine vo_step (ok_assign rfl rfl rfl) rfl ?_; refine vo_nil ?_; refine N_seq ?_
        refine V_ret L (rs := [.tmp 4]) rfl (fun _ _ h => h) Since.refl fun u H hH hle => ?_
        rfl
      · refine V_seq ?_; refine V_region (id := 18) ?_; refine vo_step2 (ok_nextS rfl rfl rfl hlt hd) ?_; refine vo_step (ok_extract rfl rfl rfl rfl) rfl ?_; refine vo_nil ?_; refine N_seq ?_; refine V_seq ?_; refine V_true rfl ?_; refine V_skip ?_; refine N_seq ?_; refine V_block ?_; refine V_seq ?_; refine V_region (id := 19) ?_; refine vo_step (ok_extract rfl rfl rfl rfl) rfl ?_; refine vo_step (ok_extract rfl rfl rfl rfl) rfl ?_; refine vo_step (ok_assign rfl rfl rfl) rfl ?_; refine vo_step (ok_assign rfl rfl rfl) rfl ?_; refine vo_nil ?_; refine N_seq ?_; refine V_seq ?_; refine V_region (id := 20) ?_; refine vo_step (ok_move rfl rfl rfl) rfl ?_; refine vo_step (ok_move rfl rfl rfl) rfl ?_; refine vo_step (ok_callx L rfl rfl (blt_lt rfl) rfl rfl rfl (fun u H hH _ _ => ira' hb hH)) rfl ?_; refine vo_step (ok_geq rfl rfl rfl rfl (decide_eq_false h0)) rfl ?_; refine vo_nil ?_; refine N_seq ?_; refine V_false rfl ?_; refine V_skip ?_; refine N_block ?_
        exact N_round (x := p) (p + 1) (hp.succ hget (by rw [hc]; exact decide_eq_false h0)) (by omega) ⟨rfl, rfl, trivial⟩
    · obtain ⟨d1, d2, d3, d4⟩ := decode_high (s := r) (i := p) (by rw [hg2]; omega)
      rcases hd : Utf8.decode r p with ⟨c, k⟩
      rw [hd] at d1 d2 d3 d4
      dsimp only at d1 d2 d3 d4
      refine V_seq ?_; refine V_region (id := 18) ?_; refine vo_step2 (ok_nextS rfl rfl rfl hlt hd) ?_; refine vo_step (ok_extract rfl rfl rfl rfl) rfl ?_; refine vo_nil ?_; refine N_seq ?_; refine V_seq ?_; refine V_true rfl ?_; refine V_skip ?_; refine N_seq ?_; refine V_block ?_; refine V_seq ?_; refine V_region (id := 19) ?_; refine vo_step (ok_extract rfl rfl rfl rfl) rfl ?_; refine vo_step (ok_extract rfl rfl rfl rfl) rfl ?_; refine vo_step (ok_assign rfl rfl rfl) rfl ?_; refine vo_step (ok_assign rfl rfl rfl) rfl ?_; refine vo_nil ?_; refine N_seq ?_; refine V_seq ?_; refine V_region (id := 20) ?_; refine vo_step (ok_move rfl rfl rfl) rfl ?_; refine vo_step (ok_move rfl rfl rfl) rfl ?_; refine vo_step (ok_callx L rfl rfl (blt_lt rfl) rfl rfl rfl (fun u H hH _ _ => irh_ret d1 d2 hH)) rfl ?_; refine vo_step (ok_geq rfl rfl rfl rfl (decide_eq_false (by omega))) rfl ?_; refine vo_nil ?_; refine N_seq ?_; refine V_false rfl ?_; refine V_skip ?_; refine N_block ?_
      refine N_round (x := p) (p + k) (fun j b hj hb2 => ?_) (by omega) ⟨rfl, rfl, trivial⟩
      by_cases hjp : j < p
      · exact hp j b hjp hb2
      · obtain ⟨i, rfl⟩ : ∃ i, j = p + i := ⟨j - p, by omega⟩
        have h4 := d4 i (by omega)
        have hjl : p + i < r.size := by
          rcases Nat.lt_or_ge (p + i) r.size with h | h
          · exact h
          · rw [List.getElem?_eq_none (by omega)] at hb2; cases hb2
        have : r.get! (p + i) = b := by
          rw [get_get hjl]
          rw [List.getElem?_eq_getElem (by omega)] at hb2
          exact Option.some.inj hb2
        rw [this] at h4
        exact cont_high h4
  · have hn : Lib.indexAny r.data.toList [58, 35] = -1 := Lib.indexAny_none fun j b hj hb => hp j b (by omega) hb
    rw [hn]
    refine V_seq ?_; refine V_region (id := 18) ?_; refine vo_step (ok_nextE rfl rfl rfl hlt) rfl ?_; refine vo_step (ok_extract rfl rfl rfl rfl) rfl ?_; refine vo_nil ?_; refine N_seq ?_; refine V_seq ?_; refine V_false rfl ?_; refine V_exit ?_; refine X_then ?_; refine X_then ?_; refine X_here ?_; refine N_seq ?_; refine V_seq ?_; refine V_region (id := 22) ?_; refine vo_step (ok_assign rfl rfl rfl) rfl ?_; refine vo_nil ?_; refine N_seq ?_
    refine V_ret L (rs := [.tmp 4]) rfl (fun _ _ h => h) Since.refl fun u H hH hle => ?_
    rfl
theorem canz_ret {r : ByteArray} (hs : r.size ≤ 1000000) {w : World} {B : Heap} (hB : B.Le (hp w)) :
    Ret Try.prog 64 [.string r, .string ⟨#[58, 35]⟩] w B (fun v _ => v = .bool (hasA r 58 || hasA r 35)) := by
  by_cases h8 : r.size ≤ 8
  · have e : decide (0 ≤ Lib.indexAny r.data.toList [58, 35]) = (hasA r 58 || hasA r 35) := iany_has _
    rw [← e]
    refine V_enter Try.func64 rfl Try.ntmps64 (Nat.le_of_ble_eq_true rfl) hB ?_
    refine V_seq ?_; refine V_region (id := 0) ?_; refine vo_step (ok_assign rfl rfl rfl) rfl ?_; refine vo_nil ?_; refine N_seq ?_; refine V_seq ?_; refine V_region (id := 1) ?_; refine vo_step (ok_move rfl rfl rfl) rfl ?_; refine vo_step (ok_move rfl rfl rfl) rfl ?_; refine vo_step (ok_callx L rfl rfl (blt_lt rfl) rfl rfl rfl (fun u H hH _ _ => ias_ret h8 hH)) rfl ?_; refine vo_step (ok_geq rfl rfl rfl rfl rfl) rfl ?_; refine vo_step (ok_assign rfl rfl rfl) rfl ?_; refine vo_nil ?_; refine N_seq ?_
    refine V_ret L (rs := [.tmp 4]) rfl (fun _ _ h => h) Since.refl fun u H hH hle => ?_
    rfl
  · exact cany_ret hs (fun h => absurd h h8) hB
end Go.V.L3
/- Filters (chapter 3): what was read has its text; texts of valid filters are read again. Plain laws. -/
namespace Go.V.L3
open Go.Proofs Go.RowKit Go.V Go.V.L2
theorem noB_chk {s : ByteArray} {c : UInt8} (h : chk s = 0) (hc : c = 64 ∨ c = 58 ∨ c = 35 ∨ c = 42) : noB s c := by
  unfold chk at h
  split at h
  · rename_i h1
    have := List.all_eq_true.1 h1.2.2
    rcases hc with rfl | rfl | rfl | rfl <;> exact fun hm => by have := this _ hm; revert this; decide
  · exact absurd h (by decide)
theorem fld_text {x : ByteArray} (h : fldE x = 0) : orB (fldA x) sStar = x := by
  unfold fldE at h
  unfold fldA orB
  split at h
  · rename_i h1; rw [if_pos h1, if_pos rfl]; exact h1.symm
  · rename_i h1
    rw [if_neg h1, if_neg (fun e => by subst e; rw [chk_nil] at h; exact absurd h (by decide))]
theorem fld_back {x : ByteArray} (h : badF x = false) : fldE (orB x sStar) = 0 ∧ fldA (orB x sStar) = x ∧ ∀ c : UInt8, (c = 64 ∨ c = 58 ∨ c = 35) → noB (orB x sStar) c := by
  unfold orB
  by_cases hx : x = ⟨#[]⟩
  · subst hx
    rw [if_pos rfl]
    refine ⟨rfl, rfl, fun c hc => ?_⟩
    rcases hc with rfl | rfl | rfl <;> exact noB_one (by decide)
  · rw [if_neg hx]
    have h0 : chk x = 0 := by
      unfold badF at h
      rw [decide_eq_false hx] at h
      simpa using h
    have hs : ¬ x = sStar := fun e => by
      subst e
      exact noB_chk (c := 42) h0 (.inr (.inr (.inr rfl))) (by decide)
    unfold fldE fldA
    rw [if_neg hs, if_neg hs]
    refine ⟨h0, rfl, fun c hc => noB_chk h0 (by rcases hc with h | h | h <;> simp [h])⟩
theorem txB_cut {sp id rel : ByteArray} (h1 : noB sp 58) (h2 : noB id 35) : cutA (sp ++ sCol ++ id ++ sHash ++ rel) 58 = (sp, id ++ sHash ++ rel, true) ∧ cutA (id ++ sHash ++ rel) 35 = (id, rel, true) := by
  refine ⟨?_, cutA_mid h2⟩
  have e : sp ++ sCol ++ id ++ sHash ++ rel = sp ++ ⟨#[58]⟩ ++ (id ++ sHash ++ rel) := by
    apply ba_ext'
    simp only [list_app, List.append_assoc]
  rw [e]
  exact cutA_mid h1
theorem pfA_of {s g u sp id rel : ByteArray} {ex : Bool} (h1 : cutA s 64 = (g, u, ex)) (h2 : cutA g 58 = (sp, id ++ sHash ++ rel, true)) (h3 : cutA (id ++ sHash ++ rel) 35 = (id, rel, true)) (h : pfC u sp id rel true true = true) : pfA s = pfB sp id rel u ex := by
  unfold pfA relOf
  rw [h1]
  dsimp only
  rw [h2]
  dsimp only
  rw [h3]
  dsimp only
  rw [if_pos h]
/-- The text of a valid filter is read again. -/
theorem pf_back {f : FT} (h : fE f = 0) : pfA (txF f) = (f, 0) := by
  obtain ⟨⟨⟨a, b⟩, c⟩, ⟨⟨x, y⟩, z⟩, ex⟩ := f
  unfold fE at h
  dsimp only at h
  split at h
  · exact absurd h (by decide)
  rename_i hf
  split at h
  · exact absurd h (by decide)
  rename_i hb
  simp only [Bool.or_eq_true, not_or, Bool.not_eq_true] at hb
  obtain ⟨⟨b1, b2⟩, b3⟩ := hb
  obtain ⟨e1, f1, n1⟩ := fld_back b1
  obtain ⟨e2, f2, n2⟩ := fld_back b2
  obtain ⟨e3, f3, n3'⟩ := fld_back b3
  unfold txF txB
  dsimp only
  generalize orB a sStar = sp at e1 f1 n1
  generalize orB b sStar = id at e2 f2 n2
  generalize orB c sStar = rel at e3 f3 n3'
  obtain ⟨k1, k2⟩ := txB_cut (rel := rel) (n1 58 (.inr (.inl rfl))) (n2 35 (.inr (.inr rfl)))
  have hn : noB (sp ++ sCol ++ id ++ sHash ++ rel) 64 := noB_app (noB_app (noB_app (noB_app (n1 64 (.inl rfl)) (noB_one (by decide))) (n2 64 (.inl rfl))) (noB_one (by decide))) (n3' 64 (.inl rfl))
  have hc : ∀ u : ByteArray, noB u 64 → pfC u sp id rel true true = true := fun u hu => by
    unfold pfC
    rw [hasA_no hu, hasA_no (n1 35 (.inr (.inr rfl))), hasA_no (n3' 58 (.inr (.inl rfl))), hasA_no (n3' 35 (.inr (.inr rfl))), hasA_no (n2 58 (.inr (.inl rfl)))]
    rfl
  cases ex
  · have hs : ((x, y), z) = n3 := by
      by_cases hs : ((x, y), z) = n3
      · exact hs
      · exact absurd ⟨rfl, hs⟩ hf
    rw [if_neg (by decide), pfA_of (cutA_no hn) k1 k2 (hc _ (by intro h; cases h))]
    unfold pfB
    rw [if_pos e1, if_pos e2, if_pos e3, if_neg (by decide), f1, f2, f3, hs]
  · rw [if_pos rfl] at h ⊢
    have hm : cutA (sp ++ sCol ++ id ++ sHash ++ rel ++ (sAt ++ subjT x y z)) 64 = (sp ++ sCol ++ id ++ sHash ++ rel, subjT x y z, true) := by
      have e : sp ++ sCol ++ id ++ sHash ++ rel ++ (sAt ++ subjT x y z) = sp ++ sCol ++ id ++ sHash ++ rel ++ ⟨#[64]⟩ ++ subjT x y z := by
        apply ba_ext'
        simp only [list_app, List.append_assoc]
      rw [e]
      exact cutA_mid hn
    obtain ⟨d1, d2, d3⟩ := subjE_zero h
    have hu : noB (subjT x y z) 64 := by
      unfold subjT
      split
      · unfold objT; exact noB_app (noB_app (noAt_chk d1) (noB_one (by decide))) (noAt_chk d2)
      · rename_i hz
        unfold goalT objT
        exact noB_app (noB_app (noB_app (noB_app (noAt_chk d1) (noB_one (by decide))) (noAt_chk d2)) (noB_one (by decide))) (noAt_chk (d3.resolve_left hz))
    rw [pfA_of hm k1 k2 (hc _ hu)]
    unfold pfB
    rw [if_pos e1, if_pos e2, if_pos e3, if_pos rfl, ps_back h, f1, f2, f3]
    rfl
/-- What was read has this text. -/
theorem pf_text {s : ByteArray} {f : FT} (h : pfA s = (f, 0)) : txF f = s := by
  unfold pfA at h
  split at h
  · rename_i hc
    unfold pfC relOf at hc
    unfold relOf at h
    simp only [Bool.and_eq_true, Bool.not_eq_true'] at hc
    obtain ⟨⟨⟨⟨⟨c1, c2⟩, c3⟩, c4⟩, c5⟩, c6⟩ := hc
    have key : ∀ g u : ByteArray, ∀ ex : Bool, cutA s 64 = (g, u, ex) → (ex = true → s = g ++ ⟨#[64]⟩ ++ u) → (ex = false → s = g) → txF f = s := fun g u ex hg ht hf => by
      rw [hg] at h c2 c3
      dsimp only at h c2 c3
      rcases split_b g 58 with h58 | ⟨sp, rest, rfl, hsp⟩
      · rw [cutA_no h58] at c2; cases c2
      rw [cutA_mid hsp] at h c3
      dsimp only at h c3
      rcases split_b rest 35 with h35 | ⟨id, rel, rfl, hid⟩
      · rw [cutA_no h35] at c3; cases c3
      rw [cutA_mid hid] at h
      dsimp only at h
      unfold pfB at h
      split at h
      · rename_i e1
        split at h
        · rename_i e2
          split at h
          · rename_i e3
            split at h
            · rename_i hex
              subst hex
              split at h
              · rename_i e4
                rcases hp : psA u with ⟨x, y, z, e⟩
                rw [hp] at h e4
                dsimp only at h e4
                subst e4
                have hf' : f = (((fldA sp, fldA id), fldA rel), ((x, y), z), true) := (congrArg Prod.fst h).symm
                subst hf'
                obtain ⟨u1, _⟩ := ps_text hp
                unfold txF txB
                dsimp only
                rw [if_pos rfl, fld_text e1, fld_text e2, fld_text e3, ← u1, ht rfl]
                apply ba_ext'
                simp only [list_app, List.append_assoc]
              · rename_i e4
                exact absurd (congrArg Prod.snd h) e4
            · rename_i hex
              have hex' : ex = false := by simpa using hex
              subst hex'
              have hf' : f = (((fldA sp, fldA id), fldA rel), n3, false) := (congrArg Prod.fst h).symm
              subst hf'
              unfold txF txB
              dsimp only
              rw [if_neg (by decide), fld_text e1, fld_text e2, fld_text e3, hf rfl]
              apply ba_ext'
              simp only [list_app, List.append_assoc]
          · rename_i e3
            exact absurd (congrArg Prod.snd h) e3
        · rename_i e2
          exact absurd (congrArg Prod.snd h) e2
      · rename_i e1
        exact absurd (congrArg Prod.snd h) e1
    rcases split_b s 64 with h64 | ⟨a, b, rfl, ha⟩
    · exact key _ _ _ (cutA_no h64) (fun e => by cases e) (fun _ => rfl)
    · exact key _ _ _ (cutA_mid ha) (fun _ => rfl) (fun e => by cases e)
  · exact absurd (congrArg Prod.snd h) (show ¬ (5 : Int) = 0 by decide)
end Go.V.L3
/- FiltersText (chapter 3). -/
namespace Go.V.L3
open Go.Proofs Go.RowKit Go.V Go.V.L2
abbrev fss (f : FT) : List ByteArray := [f.1.1.1, f.1.1.2, f.1.2, f.2.1.1.1, f.2.1.1.2, f.2.1.2]
theorem fz40 {f : FT} (h : ∀ s ∈ fss f, s.size ≤ 40) : FZ f ∧ (txF f).size ≤ 1000000 := by
  have a1 := h f.1.1.1 (by simp)
  have a2 := h f.1.1.2 (by simp)
  have a3 := h f.1.2 (by simp)
  have a4 := h f.2.1.1.1 (by simp)
  have a5 := h f.2.1.1.2 (by simp)
  have a6 := h f.2.1.2 (by simp)
  refine ⟨⟨⟨by omega, by omega, by omega⟩, by omega, by omega, by omega⟩, ?_⟩
  have y1 := orB_size f.1.1.1
  have y2 := orB_size f.1.1.2
  have y3 := orB_size f.1.2
  have c1 := size_sCol
  have c2 := size_sHash
  have c3 : sAt.size = 1 := rfl
  have sj := subjT_size f.2.1.1.1 f.2.1.1.2 f.2.1.2
  unfold txF txB
  split <;> simp only [ByteArray.size_append] <;> omega
theorem pf_none {s : ByteArray} {f : FT} (h : pfA s = (f, 0)) (hx : f.2.2 = false) : f.2.1 = n3 := by
  unfold pfA pfB at h
  repeat' split at h
  all_goals first
    | (have := (congrArg Prod.fst h).symm; subst this; first | rfl | cases hx)
    | exact absurd (congrArg Prod.snd h) (by assumption)
    | exact absurd (congrArg Prod.snd h) (show ¬ (5 : Int) = 0 by decide)
theorem orB_ge (x : ByteArray) : x.size ≤ (orB x sStar).size := by
  unfold orB
  split
  · rename_i h; subst h; exact Nat.zero_le _
  · exact Nat.le_refl _
theorem subjT_ge (a b c : ByteArray) : a.size ≤ (subjT a b c).size ∧ b.size ≤ (subjT a b c).size ∧ c.size ≤ (subjT a b c).size := by
  unfold subjT
  split
  · rename_i h; subst h
    unfold objT
    simp only [ByteArray.size_append]
    refine ⟨by omega, by omega, Nat.zero_le _⟩
  · unfold goalT objT
    simp only [ByteArray.size_append]
    refine ⟨by omega, by omega, by omega⟩
theorem pf_Z {s : ByteArray} {f : FT} (h : pfA s = (f, 0)) (hs : s.size ≤ 1000000) : FZ f := by
  have ht := pf_text h
  have hn := pf_none h
  obtain ⟨⟨⟨a, b⟩, c⟩, ⟨⟨x, y⟩, z⟩, ex⟩ := f
  have y1 := orB_ge a
  have y2 := orB_ge b
  have y3 := orB_ge c
  obtain ⟨y4, y5, y6⟩ := subjT_ge x y z
  have hz := congrArg ByteArray.size ht
  unfold txF txB at hz
  dsimp only at hz hn
  cases ex
  · rw [if_neg (by decide)] at hz
    simp only [ByteArray.size_append] at hz
    have e := hn rfl
    have e1 : x = ⟨#[]⟩ := congrArg (fun t => t.1.1) e
    have e2 : y = ⟨#[]⟩ := congrArg (fun t => t.1.2) e
    have e3 : z = ⟨#[]⟩ := congrArg (fun t => t.2) e
    subst e1 e2 e3
    have k : (⟨#[]⟩ : ByteArray).size = 0 := rfl
    refine ⟨⟨?_, ?_, ?_⟩, ?_, ?_, ?_⟩ <;> dsimp only <;> omega
  · rw [if_pos rfl] at hz
    simp only [ByteArray.size_append] at hz
    refine ⟨⟨?_, ?_, ?_⟩, ?_, ?_, ?_⟩ <;> dsimp only <;> omega
attribute [local irreducible] V N X VO Par StepOK Has Ret RetL RetO RetT Src
theorem fparse_any {s : ByteArray} {x : FT} {e : Int} (hr : pfA s = (x, e)) (hs : s.size ≤ 1000000) {w : World} {B : Heap} (hB : B.Le (hp w)) (hM : GlobM B) :
    Ret Try.prog 27 [.string s] w B (fun v _ => v = .tuple #[fv x, .int .i64 e]) :=
  fparse_ret hr hs (fun _ _ hB => canz_ret (by have := relOf_size s; omega) hB) hB hM
set_option maxHeartbeats 8000000 in
set_option maxRecDepth 10000 in
theorem filtersText_law (f : FT) (s : ByteArray) {w : World} {B : Heap} (hB : B.Le (hp w)) (hM : GlobM B) :
    Ret Try.prog 5 [fv f, .string s] w B (fun v _ => v = .bool true) := by
  obtain ⟨ls, hls⟩ : ∃ ls, fss f = ls := ⟨_, rfl⟩
  have hll : ls.length = 6 := by rw [← hls]; rfl
  refine V_enter Try.func5 rfl Try.ntmps5 (Nat.le_of_ble_eq_true rfl) hB ?_
  refine V_seq ?_; refine V_region (id := 0) ?_; refine vo_step (ok_box rfl rfl rfl rfl) rfl ?_; refine vo_step (ok_assign rfl rfl rfl) rfl ?_; refine vo_nil ?_; refine N_seq ?_; refine V_seq ?_; refine V_region (id := 1) ?_; refine vo_step (ok_fieldAt L rfl rfl rfl rfl) rfl ?_; refine vo_step (ok_load1 L (src_at rfl) rfl rfl rfl rfl) rfl ?_; refine vo_step (ok_fieldAt L rfl rfl rfl rfl) rfl ?_; refine vo_step (ok_load1 L (src_at rfl) rfl rfl rfl rfl) rfl ?_; refine vo_step (ok_fieldAt L rfl rfl rfl rfl) rfl ?_; refine vo_step (ok_load1 L (src_at rfl) rfl rfl rfl rfl) rfl ?_; refine vo_step (ok_fieldAt L rfl rfl rfl rfl) rfl ?_; refine vo_step (ok_fieldAt L rfl rfl rfl rfl) rfl ?_; refine vo_step (ok_fieldAt L rfl rfl rfl rfl) rfl ?_; refine vo_step (ok_load1 L (src_at rfl) rfl rfl rfl rfl) rfl ?_; refine vo_step (ok_fieldAt L rfl rfl rfl rfl) rfl ?_; refine vo_step (ok_fieldAt L rfl rfl rfl rfl) rfl ?_; refine vo_step (ok_fieldAt L rfl rfl rfl rfl) rfl ?_; refine vo_step (ok_load1 L (src_at rfl) rfl rfl rfl rfl) rfl ?_; refine vo_step (ok_fieldAt L rfl rfl rfl rfl) rfl ?_; refine vo_step (ok_fieldAt L rfl rfl rfl rfl) rfl ?_; refine vo_step (ok_load1 L (src_at rfl) rfl rfl rfl rfl) rfl ?_; refine vo_step (ok_buildSlice L rfl rfl rfl rfl rfl rfl rfl rfl rfl) rfl ?_; refine vo_step (ok_assigns' rfl rfl rfl) rfl ?_; refine vo_nil ?_; refine N_seq ?_; refine V_seq ?_; refine V_seq ?_; refine V_region (id := 2) ?_; refine vo_step (ok_assign rfl rfl rfl) rfl ?_; refine vo_nil ?_; refine N_seq ?_; refine V_block ?_
  refine V_imp 5 (SlB (ls.map Value.string) 9 6) rfl SlB.mono (fun _ _ h => by rw [← hls]; exact h) ?_
  refine V_loop (fun i : Nat => [(1, .is (.string s)), (2, .sat (At (fcs f) tyF 0)), (5, .sat (SlB (ls.map Value.string) 9 6)), (6, .is (.int .i64 i))]) (fun i => i ≤ 6 ∧ ∀ s ∈ ls.take i, s.size ≤ 40) (fun i => 6 - i) 0 ⟨Nat.zero_le _, by simp⟩ ⟨rfl, rfl, rfl, rfl, trivial⟩ ?_
  rintro i ⟨hi, hall⟩
  by_cases hlt : i < 6
  · obtain ⟨s, hs⟩ := get_some (l := ls) (show i < ls.length by omega)
    have hcs : (ls.map Value.string)[i * 1]? = some (.string s) := by simp [hs]
    by_cases h40 : 40 < s.size
    · refine V_seq ?_; refine V_seq ?_; refine V_region (id := 3) ?_; refine vo_step (ok_move rfl rfl rfl) rfl ?_; refine vo_step (ok_lss rfl rfl rfl rfl (decide_eq_true (by omega))) rfl ?_; refine vo_nil ?_; refine N_seq ?_; refine V_true rfl ?_; refine V_skip ?_; refine N_seq ?_; refine V_seq ?_; refine V_block ?_; refine V_seq ?_; refine V_region (id := 5) ?_; refine vo_step (ok_moves' rfl rfl rfl) rfl ?_; refine vo_step (ok_move rfl rfl rfl) rfl ?_; refine vo_step (ok_indexSl L _ rfl rfl rfl rfl rfl rfl rfl (by omega)) rfl ?_; refine vo_step (ok_load1c L (src_at rfl) rfl rfl rfl (by assumption)) rfl ?_; refine vo_step (ok_lenS L rfl rfl rfl rfl) rfl ?_; refine vo_step (ok_gtr rfl rfl rfl rfl (decide_eq_true (by omega))) rfl ?_; refine vo_nil ?_; refine N_seq ?_; refine V_true rfl ?_; refine V_seq ?_; refine V_region (id := 6) ?_; refine vo_step (ok_callx L rfl rfl (blt_lt rfl) rfl rfl rfl (fun u H hH hle _ => lives03_ret hH (hM.mono hle))) rfl ?_; refine vo_step (ok_assign rfl rfl rfl) rfl ?_; refine vo_nil ?_; refine N_seq ?_
      refine V_ret L (rs := [.tmp 4]) rfl (fun _ _ h => h) Since.refl fun u H hH hle => ?_
      rfl
    · refine V_seq ?_; refine V_seq ?_; refine V_region (id := 3) ?_; refine vo_step (ok_move rfl rfl rfl) rfl ?_; refine vo_step (ok_lss rfl rfl rfl rfl (decide_eq_true (by omega))) rfl ?_; refine vo_nil ?_; refine N_seq ?_; refine V_true rfl ?_; refine V_skip ?_; refine N_seq ?_; refine V_seq ?_; refine V_block ?_; refine V_seq ?_; refine V_region (id := 5) ?_; refine vo_step (ok_moves' rfl rfl rfl) rfl ?_; refine vo_step (ok_move rfl rfl rfl) rfl ?_; refine vo_step (ok_indexSl L _ rfl rfl rfl rfl rfl rfl rfl (by omega)) rfl ?_; refine vo_step (ok_load1c L (src_at rfl) rfl rfl rfl (by assumption)) rfl ?_; refine vo_step (ok_lenS L rfl rfl rfl rfl) rfl ?_; refine vo_step (ok_gtr rfl rfl rfl rfl (decide_eq_false (by omega))) rfl ?_; refine vo_nil ?_; refine N_seq ?_; refine V_false rfl ?_; refine V_skip ?_; refine N_block ?_; refine N_seq ?_; refine V_region (id := 4) ?_; refine vo_step (ok_move rfl rfl rfl) rfl ?_; refine vo_step (ok_add rfl rfl rfl rfl (wrap_i64 (by omega) (by omega))) rfl ?_; refine vo_step (ok_assign rfl rfl rfl) rfl ?_; refine vo_nil ?_
      exact N_round (x := i) (i + 1) ⟨hlt, fun x hx => by
        rw [List.take_add_one, hs] at hx
        rcases List.mem_append.1 hx with hx | hx
        · exact hall x hx
        · simp at hx; subst hx; omega⟩ (by omega) ⟨rfl, rfl, rfl, rfl, trivial⟩
  · obtain rfl : i = 6 := by omega
    rw [List.take_of_length_le (by omega), ← hls] at hall
    obtain ⟨zf, zt⟩ := fz40 hall
    have mf := fz_m zf
    by_cases h150 : 150 < s.size
    · refine V_seq ?_; refine V_seq ?_; refine V_region (id := 3) ?_; refine vo_step (ok_move rfl rfl rfl) rfl ?_; refine vo_step (ok_lss rfl rfl rfl rfl (decide_eq_false (by omega))) rfl ?_; refine vo_nil ?_; refine N_seq ?_; refine V_false rfl ?_; refine V_exit ?_; refine X_then ?_; refine X_then ?_; refine X_here ?_; refine N_seq ?_; refine V_seq ?_; refine V_seq ?_; refine V_region (id := 7) ?_; refine vo_step (ok_move rfl rfl rfl) rfl ?_; refine vo_step (ok_lenS L rfl rfl rfl rfl) rfl ?_; refine vo_step (ok_gtr rfl rfl rfl rfl (decide_eq_true (by omega))) rfl ?_; refine vo_nil ?_; refine N_seq ?_; refine V_true rfl ?_; refine V_seq ?_; refine V_region (id := 8) ?_; refine vo_step (ok_callx L rfl rfl (blt_lt rfl) rfl rfl rfl (fun u H hH hle _ => lives03_ret hH (hM.mono hle))) rfl ?_; refine vo_step (ok_assign rfl rfl rfl) rfl ?_; refine vo_nil ?_; refine N_seq ?_
      refine V_ret L (rs := [.tmp 4]) rfl (fun _ _ h => h) Since.refl fun u H hH hle => ?_
      rfl
    have zs : s.size ≤ 1000000 := by omega
    obtain ⟨c, he⟩ : ∃ c, fE f = c := ⟨_, rfl⟩
    obtain ⟨t, ht⟩ : ∃ t, txF f = t := ⟨_, rfl⟩
    rw [ht] at zt
    obtain ⟨r, e, hr⟩ : ∃ r e, pfA t = (r, e) := ⟨_, _, rfl⟩
    obtain ⟨g, h, hg⟩ : ∃ g h, pfA s = (g, h) := ⟨_, _, rfl⟩
    have hneq : ¬ t ≠ t := fun h => h rfl
    have hqf := eqF (t := f) (v := f) (decide_eq_true rfl)
    have hqg := eqF (t := g) (v := g) (decide_eq_true rfl)
    by_cases h0 : c = 0
    · subst h0
      have hb := pf_back he
      rw [ht, hr] at hb
      have e1 : r = f := congrArg Prod.fst hb
      have e2 : e = 0 := congrArg Prod.snd hb
      subst e1 e2
      by_cases hh : h = 0
      · subst hh
        have zg := pf_Z hg zs
        have tg := pf_text hg
        refine V_seq ?_; refine V_seq ?_; refine V_region (id := 3) ?_; refine vo_step (ok_move rfl rfl rfl) rfl ?_; refine vo_step (ok_lss rfl rfl rfl rfl (decide_eq_false (by omega))) rfl ?_; refine vo_nil ?_; refine N_seq ?_; refine V_false rfl ?_; refine V_exit ?_; refine X_then ?_; refine X_then ?_; refine X_here ?_; refine N_seq ?_; refine V_seq ?_; refine V_seq ?_; refine V_region (id := 7) ?_; refine vo_step (ok_move rfl rfl rfl) rfl ?_; refine vo_step (ok_lenS L rfl rfl rfl rfl) rfl ?_; refine vo_step (ok_gtr rfl rfl rfl rfl (decide_eq_false (by omega))) rfl ?_; refine vo_nil ?_; refine N_seq ?_; refine V_false rfl ?_; refine V_skip ?_; refine N_seq ?_; refine V_seq ?_; refine V_region (id := 9) ?_; refine vo_step (ok_loadA L (vs := [_, _, _, _, _, _, _]) (src_at rfl) rfl rfl rfl rfl ⟨_, rfl⟩) rfl ?_; refine vo_step (ok_callx L rfl rfl (blt_lt rfl) rfl rfl rfl (fun u H hH hle _ => ftext_ret zf ht hH)) rfl ?_; refine vo_step (ok_assign rfl rfl rfl) rfl ?_; refine vo_nil ?_; refine N_seq ?_; refine V_seq ?_; refine V_seq ?_; refine V_regionD (id := 10) [] mixed (by kernel_rfl) ?_; refine par_step (ok_loadA L (vs := [_, _, _, _, _, _, _]) (src_at rfl) rfl rfl rfl rfl ⟨_, rfl⟩) rfl ?_; refine par_step (ok_callx L rfl rfl (blt_lt rfl) rfl rfl rfl (fun u H hH hle _ => fcheck_ret mf he hH)) rfl ?_; refine par_step (ok_loadA L (vs := [_, _, _, _, _, _, _]) (src_at rfl) rfl rfl rfl rfl ⟨_, rfl⟩) rfl ?_; refine par_step (ok_callx L rfl rfl (blt_lt rfl) rfl rfl rfl (fun u H hH hle _ => rfcheck_ret mf he hH)) rfl ?_; refine par_step (ok_neq rfl rfl rfl rfl (decide_eq_false (by omega))) rfl ?_; refine par_step (ok_move rfl rfl rfl) rfl ?_; refine par_step (ok_move rfl rfl rfl) rfl ?_; refine par_step (ok_loadA L (vs := [_, _, _, _, _, _, _]) (src_at rfl) rfl rfl rfl rfl ⟨_, rfl⟩) rfl ?_; refine par_step (ok_callx L rfl rfl (blt_lt rfl) rfl rfl rfl (fun u H hH hle _ => rftext_ret zf ht hH)) rfl ?_; refine par_step (ok_sneq rfl rfl rfl rfl (decide_eq_false (by assumption))) rfl ?_; refine par_step (ok_pick rfl rfl rfl rfl) rfl ?_; refine par_nil ?_; refine N_seq ?_; refine V_false rfl ?_; refine V_skip ?_; refine N_seq ?_; refine V_seq ?_; refine V_region (id := 12) ?_; refine vo_step (ok_move rfl rfl rfl) rfl ?_; refine vo_step (ok_callx L rfl rfl (blt_lt rfl) rfl rfl rfl (fun u H hH hle _ => fparse_any hr zt hH (hM.mono hle))) rfl ?_; refine vo_step (ok_move rfl rfl rfl) rfl ?_; refine vo_step (ok_extract rfl rfl rfl rfl) rfl ?_; refine vo_step (ok_extract rfl rfl rfl rfl) rfl ?_; refine vo_step (ok_alloc L rfl rfl rfl rfl) rfl ?_; refine vo_step (ok_store L rfl rfl rfl rfl rfl rfl rfl rfl) rfl ?_; refine vo_step (ok_assign rfl rfl rfl) rfl ?_; refine vo_nil ?_; refine N_seq ?_; refine V_seq ?_; refine V_seq ?_; refine V_region (id := 13) ?_; refine vo_step (ok_loadA L (vs := [_, _, _, _, _, _, _]) (src_at rfl) rfl rfl rfl rfl ⟨_, rfl⟩) rfl ?_; refine vo_step (ok_callx L rfl rfl (blt_lt rfl) rfl rfl rfl (fun u H hH hle _ => rfcheck_ret mf he hH)) rfl ?_; refine vo_step (ok_eql rfl rfl rfl rfl (decide_eq_true (by omega))) rfl ?_; refine vo_step (ok_move rfl rfl rfl) rfl ?_; refine vo_step (ok_move rfl rfl rfl) rfl ?_; refine vo_step (ok_neq rfl rfl rfl rfl (decide_eq_false (by omega))) rfl ?_; refine vo_step (ok_move rfl rfl rfl) rfl ?_; refine vo_step (ok_loadA L (vs := [_, _, _, _, _, _, _]) (src_own rfl) rfl rfl rfl rfl ⟨_, rfl⟩) rfl ?_; refine vo_step (ok_loadA L (vs := [_, _, _, _, _, _, _]) (src_at rfl) rfl rfl rfl rfl ⟨_, rfl⟩) rfl ?_; refine vo_step (ok_aneq rfl rfl rfl rfl eq36 (by assumption) rfl) rfl ?_; refine vo_step (ok_pick rfl rfl rfl rfl) rfl ?_; refine vo_step (ok_pick rfl rfl rfl rfl) rfl ?_; refine vo_nil ?_; refine N_seq ?_; refine V_false rfl ?_; refine V_skip ?_; refine N_seq ?_; refine V_seq ?_; refine V_region (id := 15) ?_; refine vo_step (ok_move rfl rfl rfl) rfl ?_; refine vo_step (ok_callx L rfl rfl (blt_lt rfl) rfl rfl rfl (fun u H hH hle _ => fparse_any hg zs hH (hM.mono hle))) rfl ?_; refine vo_step (ok_move rfl rfl rfl) rfl ?_; refine vo_step (ok_extract rfl rfl rfl rfl) rfl ?_; refine vo_step (ok_extract rfl rfl rfl rfl) rfl ?_; refine vo_step (ok_alloc L rfl rfl rfl rfl) rfl ?_; refine vo_step (ok_store L rfl rfl rfl rfl rfl rfl rfl rfl) rfl ?_; refine vo_step (ok_assign rfl rfl rfl) rfl ?_; refine vo_nil ?_; refine N_seq ?_; refine V_seq ?_; refine V_region (id := 16) ?_; refine vo_step (ok_move rfl rfl rfl) rfl ?_; refine vo_step (ok_callx L rfl rfl (blt_lt rfl) rfl rfl rfl (fun u H hH hle _ => rfparse_ret hg zs hH)) rfl ?_; refine vo_step (ok_move rfl rfl rfl) rfl ?_; refine vo_step (ok_extract rfl rfl rfl rfl) rfl ?_; refine vo_step (ok_extract rfl rfl rfl rfl) rfl ?_; refine vo_step (ok_alloc L rfl rfl rfl rfl) rfl ?_; refine vo_step (ok_store L rfl rfl rfl rfl rfl rfl rfl rfl) rfl ?_; refine vo_step (ok_assign rfl rfl rfl) rfl ?_; refine vo_nil ?_; refine N_seq ?_; refine V_seq ?_; refine V_region (id := 17) ?_; refine vo_step (ok_loadA L (vs := [_, _, _, _, _, _, _]) (src_own rfl) rfl rfl rfl rfl ⟨_, rfl⟩) rfl ?_; refine vo_step (ok_loadA L (vs := [_, _, _, _, _, _, _]) (src_own rfl) rfl rfl rfl rfl ⟨_, rfl⟩) rfl ?_; refine vo_step (ok_aeql rfl rfl rfl rfl eq36 (by assumption) rfl) rfl ?_; refine vo_step (ok_move rfl rfl rfl) rfl ?_; refine vo_step (ok_move rfl rfl rfl) rfl ?_; refine vo_step (ok_move rfl rfl rfl) rfl ?_; refine vo_step (ok_eql rfl rfl rfl rfl (decide_eq_true (by omega))) rfl ?_; refine vo_step (ok_pick rfl rfl rfl rfl) rfl ?_; refine vo_step (ok_move rfl rfl rfl) rfl ?_; refine vo_step (ok_move rfl rfl rfl) rfl ?_; refine vo_step (ok_neq rfl rfl rfl rfl (decide_eq_false (by omega))) rfl ?_; refine vo_step (ok_move rfl rfl rfl) rfl ?_; refine vo_step (ok_loadA L (vs := [_, _, _, _, _, _, _]) (src_own rfl) rfl rfl rfl rfl ⟨_, rfl⟩) rfl ?_; refine vo_step (ok_callx L rfl rfl (blt_lt rfl) rfl rfl rfl (fun u H hH hle _ => ftext_ret zg tg hH)) rfl ?_; refine vo_step (ok_move rfl rfl rfl) rfl ?_; refine vo_step (ok_seql rfl rfl rfl rfl (decide_eq_true rfl)) rfl ?_; refine vo_step (ok_pick rfl rfl rfl rfl) rfl ?_; refine vo_step (ok_pick rfl rfl rfl rfl) rfl ?_; refine vo_step (ok_move rfl rfl rfl) rfl ?_; refine vo_step (ok_callx L rfl rfl (blt_lt rfl) rfl rfl rfl (fun u H hH hle _ => lives03_ret hH (hM.mono hle))) rfl ?_; refine vo_step (ok_pick rfl rfl rfl rfl) rfl ?_; refine vo_step (ok_assign rfl rfl rfl) rfl ?_; refine vo_nil ?_; refine N_seq ?_
        refine V_ret L (rs := [.tmp 4]) rfl (fun _ _ h => h) Since.refl fun u H hH hle => ?_
        rfl
      · refine V_seq ?_; refine V_seq ?_; refine V_region (id := 3) ?_; refine vo_step (ok_move rfl rfl rfl) rfl ?_; refine vo_step (ok_lss rfl rfl rfl rfl (decide_eq_false (by omega))) rfl ?_; refine vo_nil ?_; refine N_seq ?_; refine V_false rfl ?_; refine V_exit ?_; refine X_then ?_; refine X_then ?_; refine X_here ?_; refine N_seq ?_; refine V_seq ?_; refine V_seq ?_; refine V_region (id := 7) ?_; refine vo_step (ok_move rfl rfl rfl) rfl ?_; refine vo_step (ok_lenS L rfl rfl rfl rfl) rfl ?_; refine vo_step (ok_gtr rfl rfl rfl rfl (decide_eq_false (by omega))) rfl ?_; refine vo_nil ?_; refine N_seq ?_; refine V_false rfl ?_; refine V_skip ?_; refine N_seq ?_; refine V_seq ?_; refine V_region (id := 9) ?_; refine vo_step (ok_loadA L (vs := [_, _, _, _, _, _, _]) (src_at rfl) rfl rfl rfl rfl ⟨_, rfl⟩) rfl ?_; refine vo_step (ok_callx L rfl rfl (blt_lt rfl) rfl rfl rfl (fun u H hH hle _ => ftext_ret zf ht hH)) rfl ?_; refine vo_step (ok_assign rfl rfl rfl) rfl ?_; refine vo_nil ?_; refine N_seq ?_; refine V_seq ?_; refine V_seq ?_; refine V_regionD (id := 10) [] mixed (by kernel_rfl) ?_; refine par_step (ok_loadA L (vs := [_, _, _, _, _, _, _]) (src_at rfl) rfl rfl rfl rfl ⟨_, rfl⟩) rfl ?_; refine par_step (ok_callx L rfl rfl (blt_lt rfl) rfl rfl rfl (fun u H hH hle _ => fcheck_ret mf he hH)) rfl ?_; refine par_step (ok_loadA L (vs := [_, _, _, _, _, _, _]) (src_at rfl) rfl rfl rfl rfl ⟨_, rfl⟩) rfl ?_; refine par_step (ok_callx L rfl rfl (blt_lt rfl) rfl rfl rfl (fun u H hH hle _ => rfcheck_ret mf he hH)) rfl ?_; refine par_step (ok_neq rfl rfl rfl rfl (decide_eq_false (by omega))) rfl ?_; refine par_step (ok_move rfl rfl rfl) rfl ?_; refine par_step (ok_move rfl rfl rfl) rfl ?_; refine par_step (ok_loadA L (vs := [_, _, _, _, _, _, _]) (src_at rfl) rfl rfl rfl rfl ⟨_, rfl⟩) rfl ?_; refine par_step (ok_callx L rfl rfl (blt_lt rfl) rfl rfl rfl (fun u H hH hle _ => rftext_ret zf ht hH)) rfl ?_; refine par_step (ok_sneq rfl rfl rfl rfl (decide_eq_false (by assumption))) rfl ?_; refine par_step (ok_pick rfl rfl rfl rfl) rfl ?_; refine par_nil ?_; refine N_seq ?_; refine V_false rfl ?_; refine V_skip ?_; refine N_seq ?_; refine V_seq ?_; refine V_region (id := 12) ?_; refine vo_step (ok_move rfl rfl rfl) rfl ?_; refine vo_step (ok_callx L rfl rfl (blt_lt rfl) rfl rfl rfl (fun u H hH hle _ => fparse_any hr zt hH (hM.mono hle))) rfl ?_; refine vo_step (ok_move rfl rfl rfl) rfl ?_; refine vo_step (ok_extract rfl rfl rfl rfl) rfl ?_; refine vo_step (ok_extract rfl rfl rfl rfl) rfl ?_; refine vo_step (ok_alloc L rfl rfl rfl rfl) rfl ?_; refine vo_step (ok_store L rfl rfl rfl rfl rfl rfl rfl rfl) rfl ?_; refine vo_step (ok_assign rfl rfl rfl) rfl ?_; refine vo_nil ?_; refine N_seq ?_; refine V_seq ?_; refine V_seq ?_; refine V_region (id := 13) ?_; refine vo_step (ok_loadA L (vs := [_, _, _, _, _, _, _]) (src_at rfl) rfl rfl rfl rfl ⟨_, rfl⟩) rfl ?_; refine vo_step (ok_callx L rfl rfl (blt_lt rfl) rfl rfl rfl (fun u H hH hle _ => rfcheck_ret mf he hH)) rfl ?_; refine vo_step (ok_eql rfl rfl rfl rfl (decide_eq_true (by omega))) rfl ?_; refine vo_step (ok_move rfl rfl rfl) rfl ?_; refine vo_step (ok_move rfl rfl rfl) rfl ?_; refine vo_step (ok_neq rfl rfl rfl rfl (decide_eq_false (by omega))) rfl ?_; refine vo_step (ok_move rfl rfl rfl) rfl ?_; refine vo_step (ok_loadA L (vs := [_, _, _, _, _, _, _]) (src_own rfl) rfl rfl rfl rfl ⟨_, rfl⟩) rfl ?_; refine vo_step (ok_loadA L (vs := [_, _, _, _, _, _, _]) (src_at rfl) rfl rfl rfl rfl ⟨_, rfl⟩) rfl ?_; refine vo_step (ok_aneq rfl rfl rfl rfl eq36 (by assumption) rfl) rfl ?_; refine vo_step (ok_pick rfl rfl rfl rfl) rfl ?_; refine vo_step (ok_pick rfl rfl rfl rfl) rfl ?_; refine vo_nil ?_; refine N_seq ?_; refine V_false rfl ?_; refine V_skip ?_; refine N_seq ?_; refine V_seq ?_; refine V_region (id := 15) ?_; refine vo_step (ok_move rfl rfl rfl) rfl ?_; refine vo_step (ok_callx L rfl rfl (blt_lt rfl) rfl rfl rfl (fun u H hH hle _ => fparse_any hg zs hH (hM.mono hle))) rfl ?_; refine vo_step (ok_move rfl rfl rfl) rfl ?_; refine vo_step (ok_extract rfl rfl rfl rfl) rfl ?_; refine vo_step (ok_extract rfl rfl rfl rfl) rfl ?_; refine vo_step (ok_alloc L rfl rfl rfl rfl) rfl ?_; refine vo_step (ok_store L rfl rfl rfl rfl rfl rfl rfl rfl) rfl ?_; refine vo_step (ok_assign rfl rfl rfl) rfl ?_; refine vo_nil ?_; refine N_seq ?_; refine V_seq ?_; refine V_region (id := 16) ?_; refine vo_step (ok_move rfl rfl rfl) rfl ?_; refine vo_step (ok_callx L rfl rfl (blt_lt rfl) rfl rfl rfl (fun u H hH hle _ => rfparse_ret hg zs hH)) rfl ?_; refine vo_step (ok_move rfl rfl rfl) rfl ?_; refine vo_step (ok_extract rfl rfl rfl rfl) rfl ?_; refine vo_step (ok_extract rfl rfl rfl rfl) rfl ?_; refine vo_step (ok_alloc L rfl rfl rfl rfl) rfl ?_; refine vo_step (ok_store L rfl rfl rfl rfl rfl rfl rfl rfl) rfl ?_; refine vo_step (ok_assign rfl rfl rfl) rfl ?_; refine vo_nil ?_; refine N_seq ?_; refine V_seq ?_; refine V_region (id := 17) ?_; refine vo_step (ok_loadA L (vs := [_, _, _, _, _, _, _]) (src_own rfl) rfl rfl rfl rfl ⟨_, rfl⟩) rfl ?_; refine vo_step (ok_loadA L (vs := [_, _, _, _, _, _, _]) (src_own rfl) rfl rfl rfl rfl ⟨_, rfl⟩) rfl ?_; refine vo_step (ok_aeql rfl rfl rfl rfl eq36 (by assumption) rfl) rfl ?_; refine vo_step (ok_move rfl rfl rfl) rfl ?_; refine vo_step (ok_move rfl rfl rfl) rfl ?_; refine vo_step (ok_move rfl rfl rfl) rfl ?_; refine vo_step (ok_eql rfl rfl rfl rfl (decide_eq_true (by omega))) rfl ?_; refine vo_step (ok_pick rfl rfl rfl rfl) rfl ?_; refine vo_step (ok_move rfl rfl rfl) rfl ?_; refine vo_step (ok_move rfl rfl rfl) rfl ?_; refine vo_step (ok_neq rfl rfl rfl rfl (decide_eq_true (by omega))) rfl ?_; refine vo_step (ok_move rfl rfl rfl) rfl ?_; refine vo_step (ok_skip rfl (blt_lt rfl) rfl) rfl ?_; refine vo_step (ok_skip rfl (blt_lt rfl) rfl) rfl ?_; refine vo_step (ok_skip rfl (blt_lt rfl) rfl) rfl ?_; refine vo_step (ok_skip rfl (blt_lt rfl) rfl) rfl ?_; refine vo_step (ok_pick rfl rfl rfl rfl) rfl ?_; refine vo_step (ok_pick rfl rfl rfl rfl) rfl ?_; refine vo_step (ok_move rfl rfl rfl) rfl ?_; refine vo_step (ok_callx L rfl rfl (blt_lt rfl) rfl rfl rfl (fun u H hH hle _ => lives03_ret hH (hM.mono hle))) rfl ?_; refine vo_step (ok_pick rfl rfl rfl rfl) rfl ?_; refine vo_step (ok_assign rfl rfl rfl) rfl ?_; refine vo_nil ?_; refine N_seq ?_
        refine V_ret L (rs := [.tmp 4]) rfl (fun _ _ h => h) Since.refl fun u H hH hle => ?_
        rfl
    · by_cases hh : h = 0
      · subst hh
        have zg := pf_Z hg zs
        have tg := pf_text hg
        refine V_seq ?_; refine V_seq ?_; refine V_region (id := 3) ?_; refine vo_step (ok_move rfl rfl rfl) rfl ?_; refine vo_step (ok_lss rfl rfl rfl rfl (decide_eq_false (by omega))) rfl ?_; refine vo_nil ?_; refine N_seq ?_; refine V_false rfl ?_; refine V_exit ?_; refine X_then ?_; refine X_then ?_; refine X_here ?_; refine N_seq ?_; refine V_seq ?_; refine V_seq ?_; refine V_region (id := 7) ?_; refine vo_step (ok_move rfl rfl rfl) rfl ?_; refine vo_step (ok_lenS L rfl rfl rfl rfl) rfl ?_; refine vo_step (ok_gtr rfl rfl rfl rfl (decide_eq_false (by omega))) rfl ?_; refine vo_nil ?_; refine N_seq ?_; refine V_false rfl ?_; refine V_skip ?_; refine N_seq ?_; refine V_seq ?_; refine V_region (id := 9) ?_; refine vo_step (ok_loadA L (vs := [_, _, _, _, _, _, _]) (src_at rfl) rfl rfl rfl rfl ⟨_, rfl⟩) rfl ?_; refine vo_step (ok_callx L rfl rfl (blt_lt rfl) rfl rfl rfl (fun u H hH hle _ => ftext_ret zf ht hH)) rfl ?_; refine vo_step (ok_assign rfl rfl rfl) rfl ?_; refine vo_nil ?_; refine N_seq ?_; refine V_seq ?_; refine V_seq ?_; refine V_regionD (id := 10) [] mixed (by kernel_rfl) ?_; refine par_step (ok_loadA L (vs := [_, _, _, _, _, _, _]) (src_at rfl) rfl rfl rfl rfl ⟨_, rfl⟩) rfl ?_; refine par_step (ok_callx L rfl rfl (blt_lt rfl) rfl rfl rfl (fun u H hH hle _ => fcheck_ret mf he hH)) rfl ?_; refine par_step (ok_loadA L (vs := [_, _, _, _, _, _, _]) (src_at rfl) rfl rfl rfl rfl ⟨_, rfl⟩) rfl ?_; refine par_step (ok_callx L rfl rfl (blt_lt rfl) rfl rfl rfl (fun u H hH hle _ => rfcheck_ret mf he hH)) rfl ?_; refine par_step (ok_neq rfl rfl rfl rfl (decide_eq_false (by omega))) rfl ?_; refine par_step (ok_move rfl rfl rfl) rfl ?_; refine par_step (ok_move rfl rfl rfl) rfl ?_; refine par_step (ok_loadA L (vs := [_, _, _, _, _, _, _]) (src_at rfl) rfl rfl rfl rfl ⟨_, rfl⟩) rfl ?_; refine par_step (ok_callx L rfl rfl (blt_lt rfl) rfl rfl rfl (fun u H hH hle _ => rftext_ret zf ht hH)) rfl ?_; refine par_step (ok_sneq rfl rfl rfl rfl (decide_eq_false (by assumption))) rfl ?_; refine par_step (ok_pick rfl rfl rfl rfl) rfl ?_; refine par_nil ?_; refine N_seq ?_; refine V_false rfl ?_; refine V_skip ?_; refine N_seq ?_; refine V_seq ?_; refine V_region (id := 12) ?_; refine vo_step (ok_move rfl rfl rfl) rfl ?_; refine vo_step (ok_callx L rfl rfl (blt_lt rfl) rfl rfl rfl (fun u H hH hle _ => fparse_any hr zt hH (hM.mono hle))) rfl ?_; refine vo_step (ok_move rfl rfl rfl) rfl ?_; refine vo_step (ok_extract rfl rfl rfl rfl) rfl ?_; refine vo_step (ok_extract rfl rfl rfl rfl) rfl ?_; refine vo_step (ok_alloc L rfl rfl rfl rfl) rfl ?_; refine vo_step (ok_store L rfl rfl rfl rfl rfl rfl rfl rfl) rfl ?_; refine vo_step (ok_assign rfl rfl rfl) rfl ?_; refine vo_nil ?_; refine N_seq ?_; refine V_seq ?_; refine V_seq ?_; refine V_region (id := 13) ?_; refine vo_step (ok_loadA L (vs := [_, _, _, _, _, _, _]) (src_at rfl) rfl rfl rfl rfl ⟨_, rfl⟩) rfl ?_; refine vo_step (ok_callx L rfl rfl (blt_lt rfl) rfl rfl rfl (fun u H hH hle _ => rfcheck_ret mf he hH)) rfl ?_; refine vo_step (ok_eql rfl rfl rfl rfl (decide_eq_false (by omega))) rfl ?_; refine vo_step (ok_move rfl rfl rfl) rfl ?_; refine vo_step (ok_skip rfl (blt_lt rfl) rfl) rfl ?_; refine vo_step (ok_skip rfl (blt_lt rfl) rfl) rfl ?_; refine vo_step (ok_skip rfl (blt_lt rfl) rfl) rfl ?_; refine vo_step (ok_skip rfl (blt_lt rfl) rfl) rfl ?_; refine vo_step (ok_skip rfl (blt_lt rfl) rfl) rfl ?_; refine vo_step (ok_skip rfl (blt_lt rfl) rfl) rfl ?_; refine vo_step (ok_skip rfl (blt_lt rfl) rfl) rfl ?_; refine vo_step (ok_pick rfl rfl rfl rfl) rfl ?_; refine vo_nil ?_; refine N_seq ?_; refine V_false rfl ?_; refine V_skip ?_; refine N_seq ?_; refine V_seq ?_; refine V_region (id := 15) ?_; refine vo_step (ok_move rfl rfl rfl) rfl ?_; refine vo_step (ok_callx L rfl rfl (blt_lt rfl) rfl rfl rfl (fun u H hH hle _ => fparse_any hg zs hH (hM.mono hle))) rfl ?_; refine vo_step (ok_move rfl rfl rfl) rfl ?_; refine vo_step (ok_extract rfl rfl rfl rfl) rfl ?_; refine vo_step (ok_extract rfl rfl rfl rfl) rfl ?_; refine vo_step (ok_alloc L rfl rfl rfl rfl) rfl ?_; refine vo_step (ok_store L rfl rfl rfl rfl rfl rfl rfl rfl) rfl ?_; refine vo_step (ok_assign rfl rfl rfl) rfl ?_; refine vo_nil ?_; refine N_seq ?_; refine V_seq ?_; refine V_region (id := 16) ?_; refine vo_step (ok_move rfl rfl rfl) rfl ?_; refine vo_step (ok_callx L rfl rfl (blt_lt rfl) rfl rfl rfl (fun u H hH hle _ => rfparse_ret hg zs hH)) rfl ?_; refine vo_step (ok_move rfl rfl rfl) rfl ?_; refine vo_step (ok_extract rfl rfl rfl rfl) rfl ?_; refine vo_step (ok_extract rfl rfl rfl rfl) rfl ?_; refine vo_step (ok_alloc L rfl rfl rfl rfl) rfl ?_; refine vo_step (ok_store L rfl rfl rfl rfl rfl rfl rfl rfl) rfl ?_; refine vo_step (ok_assign rfl rfl rfl) rfl ?_; refine vo_nil ?_; refine N_seq ?_; refine V_seq ?_; refine V_region (id := 17) ?_; refine vo_step (ok_loadA L (vs := [_, _, _, _, _, _, _]) (src_own rfl) rfl rfl rfl rfl ⟨_, rfl⟩) rfl ?_; refine vo_step (ok_loadA L (vs := [_, _, _, _, _, _, _]) (src_own rfl) rfl rfl rfl rfl ⟨_, rfl⟩) rfl ?_; refine vo_step (ok_aeql rfl rfl rfl rfl eq36 (by assumption) rfl) rfl ?_; refine vo_step (ok_move rfl rfl rfl) rfl ?_; refine vo_step (ok_move rfl rfl rfl) rfl ?_; refine vo_step (ok_move rfl rfl rfl) rfl ?_; refine vo_step (ok_eql rfl rfl rfl rfl (decide_eq_true (by omega))) rfl ?_; refine vo_step (ok_pick rfl rfl rfl rfl) rfl ?_; refine vo_step (ok_move rfl rfl rfl) rfl ?_; refine vo_step (ok_move rfl rfl rfl) rfl ?_; refine vo_step (ok_neq rfl rfl rfl rfl (decide_eq_false (by omega))) rfl ?_; refine vo_step (ok_move rfl rfl rfl) rfl ?_; refine vo_step (ok_loadA L (vs := [_, _, _, _, _, _, _]) (src_own rfl) rfl rfl rfl rfl ⟨_, rfl⟩) rfl ?_; refine vo_step (ok_callx L rfl rfl (blt_lt rfl) rfl rfl rfl (fun u H hH hle _ => ftext_ret zg tg hH)) rfl ?_; refine vo_step (ok_move rfl rfl rfl) rfl ?_; refine vo_step (ok_seql rfl rfl rfl rfl (decide_eq_true rfl)) rfl ?_; refine vo_step (ok_pick rfl rfl rfl rfl) rfl ?_; refine vo_step (ok_pick rfl rfl rfl rfl) rfl ?_; refine vo_step (ok_move rfl rfl rfl) rfl ?_; refine vo_step (ok_callx L rfl rfl (blt_lt rfl) rfl rfl rfl (fun u H hH hle _ => lives03_ret hH (hM.mono hle))) rfl ?_; refine vo_step (ok_pick rfl rfl rfl rfl) rfl ?_; refine vo_step (ok_assign rfl rfl rfl) rfl ?_; refine vo_nil ?_; refine N_seq ?_
        refine V_ret L (rs := [.tmp 4]) rfl (fun _ _ h => h) Since.refl fun u H hH hle => ?_
        rfl
      · refine V_seq ?_; refine V_seq ?_; refine V_region (id := 3) ?_; refine vo_step (ok_move rfl rfl rfl) rfl ?_; refine vo_step (ok_lss rfl rfl rfl rfl (decide_eq_false (by omega))) rfl ?_; refine vo_nil ?_; refine N_seq ?_; refine V_false rfl ?_; refine V_exit ?_; refine X_then ?_; refine X_then ?_; refine X_here ?_; refine N_seq ?_; refine V_seq ?_; refine V_seq ?_; refine V_region (id := 7) ?_; refine vo_step (ok_move rfl rfl rfl) rfl ?_; refine vo_step (ok_lenS L rfl rfl rfl rfl) rfl ?_; refine vo_step (ok_gtr rfl rfl rfl rfl (decide_eq_false (by omega))) rfl ?_; refine vo_nil ?_; refine N_seq ?_; refine V_false rfl ?_; refine V_skip ?_; refine N_seq ?_; refine V_seq ?_; refine V_region (id := 9) ?_; refine vo_step (ok_loadA L (vs := [_, _, _, _, _, _, _]) (src_at rfl) rfl rfl rfl rfl ⟨_, rfl⟩) rfl ?_; refine vo_step (ok_callx L rfl rfl (blt_lt rfl) rfl rfl rfl (fun u H hH hle _ => ftext_ret zf ht hH)) rfl ?_; refine vo_step (ok_assign rfl rfl rfl) rfl ?_; refine vo_nil ?_; refine N_seq ?_; refine V_seq ?_; refine V_seq ?_; refine V_regionD (id := 10) [] mixed (by kernel_rfl) ?_; refine par_step (ok_loadA L (vs := [_, _, _, _, _, _, _]) (src_at rfl) rfl rfl rfl rfl ⟨_, rfl⟩) rfl ?_; refine par_step (ok_callx L rfl rfl (blt_lt rfl) rfl rfl rfl (fun u H hH hle _ => fcheck_ret mf he hH)) rfl ?_; refine par_step (ok_loadA L (vs := [_, _, _, _, _, _, _]) (src_at rfl) rfl rfl rfl rfl ⟨_, rfl⟩) rfl ?_; refine par_step (ok_callx L rfl rfl (blt_lt rfl) rfl rfl rfl (fun u H hH hle _ => rfcheck_ret mf he hH)) rfl ?_; refine par_step (ok_neq rfl rfl rfl rfl (decide_eq_false (by omega))) rfl ?_; refine par_step (ok_move rfl rfl rfl) rfl ?_; refine par_step (ok_move rfl rfl rfl) rfl ?_; refine par_step (ok_loadA L (vs := [_, _, _, _, _, _, _]) (src_at rfl) rfl rfl rfl rfl ⟨_, rfl⟩) rfl ?_; refine par_step (ok_callx L rfl rfl (blt_lt rfl) rfl rfl rfl (fun u H hH hle _ => rftext_ret zf ht hH)) rfl ?_; refine par_step (ok_sneq rfl rfl rfl rfl (decide_eq_false (by assumption))) rfl ?_; refine par_step (ok_pick rfl rfl rfl rfl) rfl ?_; refine par_nil ?_; refine N_seq ?_; refine V_false rfl ?_; refine V_skip ?_; refine N_seq ?_; refine V_seq ?_; refine V_region (id := 12) ?_; refine vo_step (ok_move rfl rfl rfl) rfl ?_; refine vo_step (ok_callx L rfl rfl (blt_lt rfl) rfl rfl rfl (fun u H hH hle _ => fparse_any hr zt hH (hM.mono hle))) rfl ?_; refine vo_step (ok_move rfl rfl rfl) rfl ?_; refine vo_step (ok_extract rfl rfl rfl rfl) rfl ?_; refine vo_step (ok_extract rfl rfl rfl rfl) rfl ?_; refine vo_step (ok_alloc L rfl rfl rfl rfl) rfl ?_; refine vo_step (ok_store L rfl rfl rfl rfl rfl rfl rfl rfl) rfl ?_; refine vo_step (ok_assign rfl rfl rfl) rfl ?_; refine vo_nil ?_; refine N_seq ?_; refine V_seq ?_; refine V_seq ?_; refine V_region (id := 13) ?_; refine vo_step (ok_loadA L (vs := [_, _, _, _, _, _, _]) (src_at rfl) rfl rfl rfl rfl ⟨_, rfl⟩) rfl ?_; refine vo_step (ok_callx L rfl rfl (blt_lt rfl) rfl rfl rfl (fun u H hH hle _ => rfcheck_ret mf he hH)) rfl ?_; refine vo_step (ok_eql rfl rfl rfl rfl (decide_eq_false (by omega))) rfl ?_; refine vo_step (ok_move rfl rfl rfl) rfl ?_; refine vo_step (ok_skip rfl (blt_lt rfl) rfl) rfl ?_; refine vo_step (ok_skip rfl (blt_lt rfl) rfl) rfl ?_; refine vo_step (ok_skip rfl (blt_lt rfl) rfl) rfl ?_; refine vo_step (ok_skip rfl (blt_lt rfl) rfl) rfl ?_; refine vo_step (ok_skip rfl (blt_lt rfl) rfl) rfl ?_; refine vo_step (ok_skip rfl (blt_lt rfl) rfl) rfl ?_; refine vo_step (ok_skip rfl (blt_lt rfl) rfl) rfl ?_; refine vo_step (ok_pick rfl rfl rfl rfl) rfl ?_; refine vo_nil ?_; refine N_seq ?_; refine V_false rfl ?_; refine V_skip ?_; refine N_seq ?_; refine V_seq ?_; refine V_region (id := 15) ?_; refine vo_step (ok_move rfl rfl rfl) rfl ?_; refine vo_step (ok_callx L rfl rfl (blt_lt rfl) rfl rfl rfl (fun u H hH hle _ => fparse_any hg zs hH (hM.mono hle))) rfl ?_; refine vo_step (ok_move rfl rfl rfl) rfl ?_; refine vo_step (ok_extract rfl rfl rfl rfl) rfl ?_; refine vo_step (ok_extract rfl rfl rfl rfl) rfl ?_; refine vo_step (ok_alloc L rfl rfl rfl rfl) rfl ?_; refine vo_step (ok_store L rfl rfl rfl rfl rfl rfl rfl rfl) rfl ?_; refine vo_step (ok_assign rfl rfl rfl) rfl ?_; refine vo_nil ?_; refine N_seq ?_; refine V_seq ?_; refine V_region (id := 16) ?_; refine vo_step (ok_move rfl rfl rfl) rfl ?_; refine vo_step (ok_callx L rfl rfl (blt_lt rfl) rfl rfl rfl (fun u H hH hle _ => rfparse_ret hg zs hH)) rfl ?_; refine vo_step (ok_move rfl rfl rfl) rfl ?_; refine vo_step (ok_extract rfl rfl rfl rfl) rfl ?_; refine vo_step (ok_extract rfl rfl rfl rfl) rfl ?_; refine vo_step (ok_alloc L rfl rfl rfl rfl) rfl ?_; refine vo_step (ok_store L rfl rfl rfl rfl rfl rfl rfl rfl) rfl ?_; refine vo_step (ok_assign rfl rfl rfl) rfl ?_; refine vo_nil ?_; refine N_seq ?_; refine V_seq ?_; refine V_region (id := 17) ?_; refine vo_step (ok_loadA L (vs := [_, _, _, _, _, _, _]) (src_own rfl) rfl rfl rfl rfl ⟨_, rfl⟩) rfl ?_; refine vo_step (ok_loadA L (vs := [_, _, _, _, _, _, _]) (src_own rfl) rfl rfl rfl rfl ⟨_, rfl⟩) rfl ?_; refine vo_step (ok_aeql rfl rfl rfl rfl eq36 (by assumption) rfl) rfl ?_; refine vo_step (ok_move rfl rfl rfl) rfl ?_; refine vo_step (ok_move rfl rfl rfl) rfl ?_; refine vo_step (ok_move rfl rfl rfl) rfl ?_; refine vo_step (ok_eql rfl rfl rfl rfl (decide_eq_true (by omega))) rfl ?_; refine vo_step (ok_pick rfl rfl rfl rfl) rfl ?_; refine vo_step (ok_move rfl rfl rfl) rfl ?_; refine vo_step (ok_move rfl rfl rfl) rfl ?_; refine vo_step (ok_neq rfl rfl rfl rfl (decide_eq_true (by omega))) rfl ?_; refine vo_step (ok_move rfl rfl rfl) rfl ?_; refine vo_step (ok_skip rfl (blt_lt rfl) rfl) rfl ?_; refine vo_step (ok_skip rfl (blt_lt rfl) rfl) rfl ?_; refine vo_step (ok_skip rfl (blt_lt rfl) rfl) rfl ?_; refine vo_step (ok_skip rfl (blt_lt rfl) rfl) rfl ?_; refine vo_step (ok_pick rfl rfl rfl rfl) rfl ?_; refine vo_step (ok_pick rfl rfl rfl rfl) rfl ?_; refine vo_step (ok_move rfl rfl rfl) rfl ?_; refine vo_step (ok_callx L rfl rfl (blt_lt rfl) rfl rfl rfl (fun u H hH hle _ => lives03_ret hH (hM.mono hle))) rfl ?_; refine vo_step (ok_pick rfl rfl rfl rfl) rfl ?_; refine vo_step (ok_assign rfl rfl rfl) rfl ?_; refine vo_nil ?_; refine N_seq ?_
        refine V_ret L (rs := [.tmp 4]) rfl (fun _ _ h => h) Since.refl fun u H hH hle => ?_
        rfl
end Go.V.L3
/- What is handed in to FiltersText. -/
namespace Go.V.L3
open Go.Proofs Go.RowKit Go.V Go.V.L2
theorem filtersText_in {a1 a2 a3 a4 a5 a6 : ByteArray} {ex : Bool} {s : ByteArray} {W : World} (hM : GlobM (hp W)) :
    Ret Try.prog 5 [.agg #[.string a1, .string a2, .string a3, .string a4, .string a5, .string a6, .bool ex], .string s] W (hp W) (fun v _ => v = .bool true) :=
  filtersText_law (f := (((a1, a2), a3), ((a4, a5), a6), ex)) s (Heap.Le.refl _) hM
end Go.V.L3
/- What is passed is opened: flat values (strings, numbers, truth values, structs and arrays of such) by a list of their leaves. -/
namespace Go.V
open Go.RowKit
inductive LeafK where
  | s
  | b
  | i (k : IntKind)
def LeafOK : LeafK → Value → Prop
  | .s, v => ∃ a : ByteArray, v = .string a ∧ a.size ≤ maxLen
  | .b, v => ∃ c, v = .bool c
  | .i k, v => ∃ n, v = .int k n ∧ (Lit.int k n).wf = true
def LeafsOK : List LeafK → List Value → Prop
  | [], [] => True
  | l :: ls, v :: vs => LeafOK l v ∧ LeafsOK ls vs
  | _, _ => False
theorem LeafsOK.append : ∀ {a b : List LeafK} {x y : List Value}, LeafsOK a x → LeafsOK b y → LeafsOK (a ++ b) (x ++ y)
  | [], _, [], _, _, h => h
  | [], _, _ :: _, _, h, _ => h.elim
  | _ :: _, _, [], _, h, _ => h.elim
  | _ :: _, _, _ :: _, _, h, k => ⟨h.1, LeafsOK.append h.2 k⟩
theorem LeafsOK.length : ∀ {a : List LeafK} {x : List Value}, LeafsOK a x → x.length = a.length
  | [], [], _ => rfl
  | [], _ :: _, h => h.elim
  | _ :: _, [], h => h.elim
  | _ :: _, _ :: _, h => by simp [LeafsOK.length h.2]
theorem leaf_s {ls : List LeafK} {vs : List Value} (h : LeafsOK (.s :: ls) vs) : ∃ a r, vs = .string a :: r ∧ a.size ≤ maxLen ∧ LeafsOK ls r := by
  cases vs with
  | nil => exact h.elim
  | cons v vs => obtain ⟨⟨a, rfl, ha⟩, h⟩ := h; exact ⟨a, vs, rfl, ha, h⟩
theorem leaf_b {ls : List LeafK} {vs : List Value} (h : LeafsOK (.b :: ls) vs) : ∃ c r, vs = .bool c :: r ∧ LeafsOK ls r := by
  cases vs with
  | nil => exact h.elim
  | cons v vs => obtain ⟨⟨a, rfl⟩, h⟩ := h; exact ⟨a, vs, rfl, h⟩
theorem leaf_nil {vs : List Value} (h : LeafsOK [] vs) : vs = [] := by
  cases vs with
  | nil => rfl
  | cons _ _ => exact h.elim
def leafF (P : Program) (rec : TypeId → Option (List LeafK)) : List Field → Nat → Option (List LeafK)
  | [], _ => some []
  | f :: fs, off => match rec f.type with
    | some ls => if f.offset = off ∧ P.cellsOf f.type = ls.length then
        match leafF P rec fs (off + ls.length) with
        | some r => some (ls ++ r)
        | none => none
      else none
    | none => none
def repL (ls : List LeafK) : Nat → List LeafK
  | 0 => []
  | n + 1 => ls ++ repL ls n
def leafI (P : Program) : Nat → TypeId → Option (List LeafK)
  | 0, _ => none
  | d + 1, t => match P.underlying t with
    | some .string => some [.s]
    | some (.int k) => some [.i k]
    | some .bool => some [.b]
    | some (.struct fs) => match leafF P (leafI P d) fs.toList 0 with
      | some ls => if P.cellsOf t = ls.length then some ls else none
      | none => none
    | some (.array n e) => match leafI P d e with
      | some ls => if P.cellsOf e = ls.length ∧ P.cellsOf t = (repL ls n).length then some (repL ls n) else none
      | none => none
    | _ => none
theorem mapM_all {α β : Type} {f : α → Option β} : ∀ {l : List α} {ys : List β}, l.mapM f = some ys → ∃ g : List β, g = ys ∧ (∀ x ∈ l, ∃ y, f x = some y ∧ y ∈ ys) ∧ (∀ y ∈ ys, ∃ x ∈ l, f x = some y)
  | [], ys, h => by
    simp at h; subst h
    exact ⟨_, rfl, by simp, by simp⟩
  | x :: l, ys, h => by
    rw [List.mapM_cons] at h
    cases hx : f x with
    | none => rw [hx] at h; cases h
    | some y =>
      rw [hx] at h
      cases hl : l.mapM f with
      | none => rw [hl] at h; cases h
      | some zs =>
        rw [hl] at h
        cases h
        obtain ⟨_, _, h1, h2⟩ := mapM_all hl
        refine ⟨_, rfl, fun z hz => ?_, fun z hz => ?_⟩
        · rcases List.mem_cons.1 hz with rfl | hz
          · exact ⟨y, hx, List.mem_cons_self ..⟩
          · obtain ⟨w, hw, hm⟩ := h1 z hz; exact ⟨w, hw, List.mem_cons_of_mem _ hm⟩
        · rcases List.mem_cons.1 hz with rfl | hz
          · exact ⟨x, List.mem_cons_self .., hx⟩
          · obtain ⟨w, hw, hm⟩ := h2 z hz; exact ⟨w, List.mem_cons_of_mem _ hw, hm⟩
theorem take_split (cs : List Value) (off m r : Nat) : (cs.drop off).take (m + r) = (cs.drop off).take m ++ (cs.drop (off + m)).take r := by
  rw [List.take_add, List.drop_drop]
section
variable {P : Program} {H : Type} {enc : TypeId × Value → H} {W : World} {sp : Nat → Bool} {held : Bool} {base : Nat}
theorem leaf_of_trod : ∀ (d : Nat) {t : TypeId} {ls : List LeafK}, leafI P d t = some ls → ∀ {fuel : Nat} {cs : List Value} {x : DataW H × List MemPlace},
    DataW.trod enc P W base sp held fuel t cs = some x → LeafsOK ls cs ∧ x.2 = []
  | 0, _, _, h, _, _, _, _ => by cases h
  | d + 1, t, ls, h, fuel, cs, x, hx => by
    have ih := @leaf_of_trod d
    cases fuel with
    | zero => simp [DataW.trod] at hx
    | succ fuel =>
      rw [leafI] at h
      unfold DataW.trod at hx
      cases hu : P.underlying t with
      | none => rw [hu] at h; cases h
      | some ds =>
        rw [hu] at h hx
        cases ds <;> first | (cases h; done) | skip
        · cases h
          match cs, hx with
          | [.bool b], hx => cases hx; exact ⟨⟨⟨b, rfl⟩, trivial⟩, rfl⟩
        · rename_i k
          cases h
          match cs, hx with
          | [.int k' m], hx =>
            simp only at hx
            split at hx
            · rename_i hk
              obtain ⟨rfl, hw⟩ := hk
              cases hx; exact ⟨⟨⟨m, rfl, hw⟩, trivial⟩, rfl⟩
            · cases hx
        · cases h
          match cs, hx with
          | [.string s], hx =>
            simp only at hx
            split at hx
            · rename_i hs; cases hx; exact ⟨⟨⟨s, rfl, hs⟩, trivial⟩, rfl⟩
            · cases hx
        · rename_i n e
          simp only at h hx
          split at h
          · rename_i l1 hl1
            split at h
            · rename_i hc
              cases h
              split at hx
              · rename_i hlen
                obtain ⟨xs, hxs, rfl⟩ := Option.map_eq_some_iff.1 hx
                obtain ⟨_, _, hall, hback⟩ := mapM_all hxs
                have each : ∀ i, i < n → LeafsOK l1 ((cs.drop (i * P.cellsOf e)).take (P.cellsOf e)) := fun i hi => by
                  obtain ⟨y, hy, _⟩ := hall i (List.mem_range.2 hi)
                  exact (ih hl1 hy).1
                have gen : ∀ m k, k + m = n → LeafsOK (repL l1 m) ((cs.drop (k * P.cellsOf e)).take (m * P.cellsOf e)) := by
                  intro m
                  induction m with
                  | zero => intro k _; simp [repL, LeafsOK]
                  | succ m ihm =>
                    intro k hk
                    rw [show (m + 1) * P.cellsOf e = P.cellsOf e + m * P.cellsOf e by rw [Nat.succ_mul]; omega, take_split]
                    refine LeafsOK.append (each k (by omega)) ?_
                    rw [show k * P.cellsOf e + P.cellsOf e = (k + 1) * P.cellsOf e by rw [Nat.succ_mul]]
                    exact ihm (k + 1) (by omega)
                refine ⟨?_, ?_⟩
                · have := gen n 0 (by omega)
                  have hrl : ∀ m, (repL l1 m).length = m * P.cellsOf e := by
                    intro m
                    induction m with
                    | zero => simp [repL]
                    | succ m ihm => simp only [repL, List.length_append, ihm, hc.1]; rw [Nat.succ_mul]; omega
                  rw [← hrl n, ← hc.2, ← hlen] at this
                  simpa using this
                · refine List.flatMap_eq_nil_iff.2 fun y hy => ?_
                  obtain ⟨i, _, hi⟩ := hback y hy
                  exact (ih hl1 hi).2
              · cases hx
            · cases h
          · cases h
        · rename_i fs
          simp only at h hx
          split at h
          · rename_i l1 hl1
            split at h
            · rename_i hc
              cases h
              split at hx
              · rename_i hlen
                obtain ⟨xs, hxs, rfl⟩ := Option.map_eq_some_iff.1 hx
                obtain ⟨_, _, hall, hback⟩ := mapM_all hxs
                have gen : ∀ (fl : List Field) (off : Nat) (ls : List LeafK), (∀ f ∈ fl, f ∈ fs.toList) → leafF P (leafI P d) fl off = some ls →
                    LeafsOK ls ((cs.drop off).take ls.length) ∧ ∀ f ∈ fl, ∃ l, leafI P d f.type = some l := by
                  intro fl
                  induction fl with
                  | nil => intro off ls _ h; cases h; simp [LeafsOK]
                  | cons f fl ihf =>
                    intro off ls hm h
                    simp only [leafF] at h
                    split at h
                    · rename_i l2 hl2
                      split at h
                      · rename_i hc2
                        obtain ⟨rfl, hc3⟩ := hc2
                        split at h
                        · rename_i r hr
                          cases h
                          obtain ⟨g1, g2⟩ := ihf _ _ (fun g hg => hm g (List.mem_cons_of_mem _ hg)) hr
                          refine ⟨?_, fun g hg => ?_⟩
                          · rw [List.length_append, take_split]
                            refine LeafsOK.append ?_ g1
                            obtain ⟨y, hy, _⟩ := hall f (hm f (List.mem_cons_self ..))
                            rw [← hc3]
                            exact (ih hl2 hy).1
                          · rcases List.mem_cons.1 hg with rfl | hg
                            · exact ⟨l2, hl2⟩
                            · exact g2 g hg
                        · cases h
                      · cases h
                    · cases h
                obtain ⟨g1, g2⟩ := gen fs.toList 0 _ (fun _ h => h) hl1
                refine ⟨?_, ?_⟩
                · rw [← hc, ← hlen] at g1; simpa using g1
                · refine List.flatMap_eq_nil_iff.2 fun y hy => ?_
                  obtain ⟨f, hf, hi⟩ := hback y hy
                  obtain ⟨l, hl⟩ := g2 f hf
                  exact (ih hl hi).2
              · cases hx
            · cases h
          · cases h
theorem open_agg {t : TypeId} {ls : List LeafK} {b0 : Nat} {v : Value} {dd : DataW H} {ps : List MemPlace} (h : leafI P 20 t = some ls) (ha : (match P.underlying t with | some (.struct _) | some (.array _ _) => true | _ => false) = true)
    (hval : Value.okWide P W .any b0 t v) (hd : DataW.Trod enc P W base sp held t v dd ps) : ∃ cs : List Value, v = .agg cs.toArray ∧ LeafsOK ls cs ∧ ps = [] := by
  obtain ⟨fuel, hf⟩ := hd
  have key : ∃ cs, v = .agg cs := by
    unfold Value.okWide at hval
    split at hval
    · obtain ⟨cs, hv, _⟩ := hval; exact ⟨cs, hv⟩
    · obtain ⟨cs, hv, _⟩ := hval; exact ⟨cs, hv⟩
    · rename_i h1 h2
      split at ha
      · rename_i fs hu; exact absurd hu (h1 fs)
      · rename_i m e hu; exact absurd hu (h2 m e)
      · cases ha
  obtain ⟨cs, rfl⟩ := key
  obtain ⟨h1, h2⟩ := leaf_of_trod 20 h hf
  exact ⟨cs.toList, by simp, h1, h2⟩
end
end Go.V
namespace Go.Proofs.Ytelaiancfbaalaa.filtersText
open Go.ChangeShapes Go.WideShapes Go.ChangeAt Go.ChangeMaps Go.RowKit Go.V
theorem own : ownKnob Try.prog.godebug = none := by kernel_rfl
theorem laidOut : laidOutB Try.prog = true := by kernel_rfl
theorem lf0 : leafI Try.prog 20 36 = some [.s, .s, .s, .s, .s, .s, .b] := by kernel_rfl
theorem la0 : (match Try.prog.underlying 36 with | some (.struct _) | some (.array _ _) => true | _ => false) = true := by kernel_rfl
theorem lr1 : Try.prog.readableRec 36 = true := by kernel_rfl
theorem lt1 : 36 < Try.prog.types.size := of_decide_eq_true (by kernel_rfl)
set_option maxRecDepth 100000 in
theorem lifted (os : Os) (started : os.Started) (H : Type) (enc : TypeId × Value → H) :
    ReturnsInHanded {} Try.checked os 5 .any (Rows.filtersTextSpec.pre6 enc Try.prog Try.f5 Rows.filtersTextRow.domain false) (Rows.filtersTextSpec.post enc Try.prog Try.f5 false true false false) := by
  refine returnsInHanded_of_change_shaped (C := Try.checked) own started (by kernel_rfl) Try.func5
    (ChangeSpec.witness6 (enc := enc) (C := Try.checked) false ⟨#[], #[.agg #[.string ⟨#[]⟩, .string ⟨#[]⟩, .string ⟨#[]⟩, .string ⟨#[]⟩, .string ⟨#[]⟩, .string ⟨#[]⟩, .bool false], .string ⟨#[]⟩], []⟩ 8 (by kernel_rfl) (by kernel_rfl) (by kernel_rfl) (by kernel_rfl)) ?_
  intro W base args ds gs before hval0 hW hcnd _ hsh _
  have hval : ∀ (j : Nat) t v, Try.f5.params[j]? = some t → args[j]? = some v → Value.okWide Try.prog W .any base t v := hval0
  have hW' := hW
  obtain ⟨p, q, hA0, hV, rfl, hfz, hnd⟩ := hW
  have hA : DataW.TrodAll enc Try.prog W 0 (fun _ => true) true Try.f5.params.toList args.toList ds p := hA0
  rw [Try.params5] at hA hval
  obtain ⟨v0, v1, d0, d1, p0, p1, rfl, rfl, rfl, h0, h1⟩ := trodAll_two hA
  obtain ⟨rfl, rfl⟩ := trodVars_none hV
  clear hA0 hval0
  obtain ⟨c0, rfl, l0, rfl⟩ := open_agg lf0 la0 (hval 0 36 v0 rfl rfl) h0
  obtain ⟨a1, r0, rfl, za1, l0⟩ := leaf_s l0
  obtain ⟨a2, r0, rfl, za2, l0⟩ := leaf_s l0
  obtain ⟨a3, r0, rfl, za3, l0⟩ := leaf_s l0
  obtain ⟨a4, r0, rfl, za4, l0⟩ := leaf_s l0
  obtain ⟨a5, r0, rfl, za5, l0⟩ := leaf_s l0
  obtain ⟨a6, r0, rfl, za6, l0⟩ := leaf_s l0
  obtain ⟨ex, r0, rfl, k0⟩ := leaf_b l0
  replace l0 := k0
  obtain rfl := leaf_nil l0
  obtain ⟨s, rfl, rfl, rfl, w1⟩ := open_string Try.underlying9 (hval 1 9 v1 rfl rfl) h1
  obtain ⟨m0, hm0⟩ := Try.laysM145.s1_3 W hsh
  have hglob := GlobM.of_cell hm0
  have hplc := hW'.lt
  simp only [List.append_nil] at hW'
  have hlaw := Go.V.L3.filtersText_in (a1 := a1) (a2 := a2) (a3 := a3) (a4 := a4) (a5 := a5) (a6 := a6) (ex := ex) (s := s) hglob
  unfold Ret at hlaw
  refine hlaw.mono fun e W' hp => ?_
  obtain ⟨v, rfl, H', g, rfl⟩ := hp
  refine ⟨_, rfl, _, _, _, [], [] ++ ([] ++ ([])), [], hW', trodAll_cons_mk (shut_bool Try.underlying4 _) trodAll_mk0, ?_, rfl, g.below.frame _, fun h => by cases h⟩
  exact trodAll_cons_mk (Below.trod laidOut lr1 lt1 h0 g.below (fun x hx => by cases hx)) (trodAll_cons_mk (shut_string Try.underlying9 w1) trodAll_mk0)
theorem proved : Rows.FiltersTextSaid :=
  OpenClaim.holds_of_wide 5 Try.f5 rfl rfl rfl rfl rfl rfl rfl ⟨rfl, rfl, rfl, rfl, rfl⟩ rfl rfl rfl rfl rfl (by kernel_rfl) Try.func5 (by kernel_rfl)
    (of_decide_eq_true (by kernel_rfl)) (by unfold Func.isWrapper; first | (rw [if_pos (by decide +kernel)]; kernel_rfl) | (rw [if_neg (by decide +kernel)]; exact ⟨rfl, rfl⟩))
    (fun os started H enc _ => lifted os started H enc)
#print axioms proved
end Go.Proofs.Ytelaiancfbaalaa.filtersText
