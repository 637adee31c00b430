/- The walks of tuples (chapter 2): sorted lists; where a tuple is. -/
import Derived.Test.YtpnmjelhnacmlaaTupY
namespace Go.V.L2
open Go.Proofs Go.RowKit Go.V
attribute [local irreducible] V N X VO Par StepOK Has Ret RetL RetO RetT Src
set_option maxRecDepth 20000 in
set_option maxHeartbeats 1000000 in
theorem sorted_ret {l m : List U} (hm : sortS cmpT [] l = m) {fu : Bool} (hz : l.length ≤ 100000) {v : Value} {w : World} {B : Heap} (hB : B.Le (hp w)) (hv : US l fu v B) :
    Ret Try.prog 41 [v] w B (US m true) := by
  subst hm
  have hzz : l.length < 4611686018427387904 := by omega
  refine V_enter Try.func41 rfl Try.ntmps41 (Nat.le_of_ble_eq_true rfl) hB ?_
  refine V_seen 0 (US l fu) rfl SlV.mono hv ?_
  refine V_seq ?_; refine V_region (id := 0) ?_; refine vo_step (ok_assign rfl rfl rfl) rfl ?_; refine vo_nil ?_; refine N_seq ?_; refine V_seq ?_; refine V_region (id := 1) ?_; refine vo_step (ok_moves' rfl rfl rfl) rfl ?_; refine vo_step (ok_callO L rfl rfl (blt_lt rfl) rfl rfl rfl (fun u H hH _ _ v1 hv1 => clone_ret hz hH hv1)) rfl ?_; refine vo_step2 (ok_moveO (.inr rfl) rfl rfl rfl rfl) ?_; refine vo_nil ?_; refine N_seq ?_; refine V_seq ?_
  refine V_detach 3 900 (fun v => ∃ p c, v = .slice p l.length c) rfl SlR.shape fun x hx => ?_
  refine V_region (id := 2) ?_; refine vo_step (ok_move rfl rfl rfl) rfl ?_; refine vo_step2 (ok_sortA (α := U) (l := l) (enc := ucs) (cf := cmpT) (gf := 49) L (q := 900) (cb := []) rfl rfl rfl rfl rfl rfl rfl rfl rfl ucs_len hzz sortU) ?_; refine vo_nil ?_; refine N_seq ?_; refine V_seq ?_
  refine V_attach 3 900 rfl rfl ?_
  refine V_opnX 3 rfl fun l' H hs hso => ?_
  have hll : l'.length ≤ 100000 := by rw [hso.1.length_eq]; exact hz
  refine V_region (id := 3) ?_; refine vo_step2 (ok_moveO (.inl rfl) rfl rfl rfl rfl) ?_; refine vo_step2 (ok_callTO L (q := 8) rfl rfl rfl rfl rfl (fun u H C x hH hle hx hC => compact_ret hll hH hx hC)) ?_; refine vo_step2 (ok_moveO (.inr rfl) rfl rfl rfl rfl) ?_; refine vo_nil ?_; refine N_seq ?_; refine V_seq ?_
  rw [dd_sort cmpT_ord hso]
  refine V_pubR 3 rfl ?_
  refine V_region (id := 4) ?_; refine vo_step (ok_moves' rfl rfl rfl) rfl ?_; refine vo_step (ok_moves' rfl rfl rfl) rfl ?_; refine vo_step (ok_lenV L rfl rfl rfl rfl) rfl ?_; refine vo_step (ok_moves' rfl rfl rfl) rfl ?_; refine vo_step (ok_lenV L rfl rfl rfl rfl) rfl ?_; refine vo_step (ok_clipV L rfl rfl rfl rfl rfl rfl rfl) rfl ?_; refine vo_step (ok_assigns' rfl rfl rfl) rfl ?_; refine vo_nil ?_; refine N_seq ?_
  refine V_ret L (rs := [.tmp 2]) rfl (fun _ _ h => h) hs fun u H hH hle => ?_
  exact fun v hv => hv
abbrev BSF : Nat := 70
set_option maxHeartbeats 2000000 in
theorem bsearch_ret {l : List U} {t : U} {fu : Bool} (hz : l.length ≤ 100000) (hs : Sst cmpT l) {v : Value} {w : World} {B : Heap} (hB : B.Le (hp w)) (hv : US l fu v B) :
    Ret Try.prog BSF [v, uv t, .func (.func 49) #[] #[]] w B (fun v _ => v = .tuple #[.int .i64 (posS cmpT t l : Nat), .bool (decide (t ∈ l))]) := by
  refine V_enter Try.func70 rfl Try.ntmps70 (Nat.le_of_ble_eq_true rfl) hB ?_
  refine V_seen 0 (US l fu) rfl SlV.mono hv ?_
  refine V_seq ?_; refine V_region (id := 0) ?_; refine vo_step (ok_box rfl rfl rfl rfl) rfl ?_; refine vo_step (ok_assign rfl rfl rfl) rfl ?_; refine vo_step (ok_assign rfl rfl rfl) rfl ?_; refine vo_nil ?_; refine N_seq ?_; refine V_seq ?_; refine V_region (id := 1) ?_; refine vo_step (ok_moves' rfl rfl rfl) rfl ?_; refine vo_step (ok_lenV L rfl rfl rfl rfl) rfl ?_; refine vo_step (ok_assign rfl rfl rfl) rfl ?_; refine vo_nil ?_; refine N_seq ?_; refine V_seq ?_; refine V_region (id := 2) ?_; refine vo_step (ok_move rfl rfl rfl) rfl ?_; refine vo_step (ok_assign rfl rfl rfl) rfl ?_; refine vo_step (ok_assign rfl rfl rfl) rfl ?_; refine vo_nil ?_; refine N_seq ?_; refine V_seq ?_; refine V_block ?_
  refine V_loop (fun s : Nat × Nat => [(0, .sat (US l fu)), (2, .is (.func (.func 49) #[] #[])), (4, .sat (At (tcs t) tyU 0)), (8, .is (.int .i64 l.length)), (9, .is (.int .i64 s.1)), (10, .is (.int .i64 s.2))])
    (fun s => s.1 ≤ s.2 ∧ s.2 ≤ l.length ∧ (∀ (k : Nat) (x : U), k < s.1 → l[k]? = some x → cmpT x t < 0) ∧ ∀ (k : Nat) (x : U), s.2 ≤ k → l[k]? = some x → ¬ cmpT x t < 0) (fun s => s.2 - s.1) (0, l.length) ⟨Nat.zero_le _, Nat.le_refl _, fun k x h => (by cases h), fun k x h hx => (by rw [List.getElem?_eq_none h] at hx; cases hx)⟩ ⟨rfl, rfl, rfl, rfl, rfl, rfl, trivial⟩ ?_
  rintro ⟨i, j⟩ ⟨hij, hjl, hlo, hhi⟩
  dsimp only at hij hjl hlo hhi ⊢
  by_cases hlt : i < j
  · obtain ⟨h, hh⟩ : ∃ h, h = (i + j) / 2 := ⟨_, rfl⟩
    have hsh : ((i : Int) + (j : Int)).fdiv (2 ^ min (1 : Int).toNat IntKind.u64.bits) = (h : Int) := by
      show ((i : Int) + (j : Int)).fdiv 2 = (h : Int)
      rw [Int.fdiv_eq_ediv_of_nonneg _ (by decide)]
      omega
    obtain ⟨y, hy⟩ := get_some (show h < l.length by omega)
    have hc := us_at hy
    by_cases hcm : cmpT y t < 0
    · refine V_seq ?_; refine V_seq ?_; refine V_region (id := 3) ?_; refine vo_step (ok_move rfl rfl rfl) rfl ?_; refine vo_step (ok_move rfl rfl rfl) rfl ?_; refine vo_step (ok_lss rfl rfl rfl rfl (decide_eq_true (by omega))) rfl ?_; refine vo_nil ?_; refine N_seq ?_; refine V_true rfl ?_; refine V_skip ?_; refine N_seq ?_; refine V_block ?_; refine V_seq ?_; refine V_region (id := 4) ?_; refine vo_step (ok_move rfl rfl rfl) rfl ?_; refine vo_step (ok_move rfl rfl rfl) rfl ?_; refine vo_step (ok_add rfl rfl rfl rfl (wrap_i64 (by omega) (by omega))) rfl ?_; refine vo_step (ok_conv rfl rfl rfl cv3_156.1 cv3_156.2 (wrap_u64 (by omega) (by omega))) rfl ?_; refine vo_step (ok_shr rfl rfl rfl rfl (by omega) (by assumption)) rfl ?_; refine vo_step (ok_conv rfl rfl rfl cv156_3.1 cv156_3.2 (wrap_i64 (by omega) (by omega))) rfl ?_; refine vo_step (ok_assign rfl rfl rfl) rfl ?_; refine vo_nil ?_; refine N_seq ?_; refine V_seq ?_; refine V_regionD (id := 5) [] mixed (by kernel_rfl) ?_; refine par_step (ok_move rfl rfl rfl) rfl ?_; refine par_step (ok_moves' rfl rfl rfl) rfl ?_; refine par_step (ok_move rfl rfl rfl) rfl ?_; refine par_step (ok_indexV L _ rfl rfl rfl rfl rfl rfl rfl (by first | omega | decide) (by assumption)) rfl ?_; refine par_step (ok_loadPA L (vs := [_, _, _, _, _, _]) rfl rfl rfl rfl rfl ⟨_, rfl⟩) rfl ?_; refine par_step (ok_loadA L (vs := [_, _, _, _, _, _]) (src_at rfl) rfl rfl rfl rfl ⟨_, rfl⟩) rfl ?_; refine par_step (ok_callx L rfl rfl (blt_lt rfl) rfl rfl rfl (fun u H hH _ _ => tcmp_ret hH)) rfl ?_; refine par_step (ok_lss rfl rfl rfl rfl (decide_eq_true (by omega))) rfl ?_; refine par_nil ?_; refine N_seq ?_; refine V_true rfl ?_; refine V_region (id := 6) ?_; refine vo_step (ok_move rfl rfl rfl) rfl ?_; refine vo_step (ok_add rfl rfl rfl rfl (wrap_i64 (by omega) (by omega))) rfl ?_; refine vo_step (ok_assign rfl rfl rfl) rfl ?_; refine vo_nil ?_; refine N_block ?_
      exact N_round (x := (i, j)) (h + 1, j) ⟨by dsimp only; omega, hjl, fun k x hk hx => sst_before cmpT_ord hs hy hx (by dsimp only at hk; omega) hcm, hhi⟩ (by dsimp only; omega) ⟨rfl, rfl, rfl, rfl, rfl, rfl, trivial⟩
    · refine V_seq ?_; refine V_seq ?_; refine V_region (id := 3) ?_; refine vo_step (ok_move rfl rfl rfl) rfl ?_; refine vo_step (ok_move rfl rfl rfl) rfl ?_; refine vo_step (ok_lss rfl rfl rfl rfl (decide_eq_true (by omega))) rfl ?_; refine vo_nil ?_; refine N_seq ?_; refine V_true rfl ?_; refine V_skip ?_; refine N_seq ?_; refine V_block ?_; refine V_seq ?_; refine V_region (id := 4) ?_; refine vo_step (ok_move rfl rfl rfl) rfl ?_; refine vo_step (ok_move rfl rfl rfl) rfl ?_; refine vo_step (ok_add rfl rfl rfl rfl (wrap_i64 (by omega) (by omega))) rfl ?_; refine vo_step (ok_conv rfl rfl rfl cv3_156.1 cv3_156.2 (wrap_u64 (by omega) (by omega))) rfl ?_; refine vo_step (ok_shr rfl rfl rfl rfl (by omega) (by assumption)) rfl ?_; refine vo_step (ok_conv rfl rfl rfl cv156_3.1 cv156_3.2 (wrap_i64 (by omega) (by omega))) rfl ?_; refine vo_step (ok_assign rfl rfl rfl) rfl ?_; refine vo_nil ?_; refine N_seq ?_; refine V_seq ?_; refine V_regionD (id := 5) [] mixed (by kernel_rfl) ?_; refine par_step (ok_move rfl rfl rfl) rfl ?_; refine par_step (ok_moves' rfl rfl rfl) rfl ?_; refine par_step (ok_move rfl rfl rfl) rfl ?_; refine par_step (ok_indexV L _ rfl rfl rfl rfl rfl rfl rfl (by first | omega | decide) (by assumption)) rfl ?_; refine par_step (ok_loadPA L (vs := [_, _, _, _, _, _]) rfl rfl rfl rfl rfl ⟨_, rfl⟩) rfl ?_; refine par_step (ok_loadA L (vs := [_, _, _, _, _, _]) (src_at rfl) rfl rfl rfl rfl ⟨_, rfl⟩) rfl ?_; refine par_step (ok_callx L rfl rfl (blt_lt rfl) rfl rfl rfl (fun u H hH _ _ => tcmp_ret hH)) rfl ?_; refine par_step (ok_lss rfl rfl rfl rfl (decide_eq_false (by omega))) rfl ?_; refine par_nil ?_; refine N_seq ?_; refine V_false rfl ?_; refine V_region (id := 7) ?_; refine vo_step (ok_move rfl rfl rfl) rfl ?_; refine vo_step (ok_assign rfl rfl rfl) rfl ?_; refine vo_nil ?_; refine N_block ?_
      exact N_round (x := (i, j)) (i, h) ⟨by dsimp only; omega, by dsimp only; omega, hlo, fun k x hk hx hcx => hcm (sst_before cmpT_ord hs hx hy hk hcx)⟩ (by dsimp only; omega) ⟨rfl, rfl, rfl, rfl, rfl, rfl, trivial⟩
  · obtain rfl : i = j := by omega
    rw [posS_at cmpT_ord hs hlo hhi hjl]
    by_cases hin : i < l.length
    · obtain ⟨y, hy⟩ := get_some hin
      have hc := us_at hy
      have hm := mem_at cmpT_ord hs hlo hy hhi
      by_cases hcm : cmpT y t = 0
      · rw [decide_eq_true (hm.2 hcm)]
        refine V_seq ?_; refine V_seq ?_; refine V_region (id := 3) ?_; refine vo_step (ok_move rfl rfl rfl) rfl ?_; refine vo_step (ok_move rfl rfl rfl) rfl ?_; refine vo_step (ok_lss rfl rfl rfl rfl (decide_eq_false (by omega))) rfl ?_; refine vo_nil ?_; refine N_seq ?_; refine V_false rfl ?_; refine V_exit ?_; refine X_then ?_; refine X_then ?_; refine X_here ?_; refine N_seq ?_; refine V_seq ?_; refine V_regionD (id := 8) [] mixed (by kernel_rfl) ?_; refine par_step (ok_move rfl rfl rfl) rfl ?_; refine par_step (ok_move rfl rfl rfl) rfl ?_; refine par_step (ok_move rfl rfl rfl) rfl ?_; refine par_step (ok_lss rfl rfl rfl rfl (decide_eq_true (by omega))) rfl ?_; refine par_step (ok_move rfl rfl rfl) rfl ?_; refine par_step (ok_move rfl rfl rfl) rfl ?_; refine par_step (ok_moves' rfl rfl rfl) rfl ?_; refine par_step (ok_move rfl rfl rfl) rfl ?_; refine par_step (ok_indexV L _ rfl rfl rfl rfl rfl rfl rfl (by first | omega | decide) (by assumption)) rfl ?_; refine par_step (ok_loadPA L (vs := [_, _, _, _, _, _]) rfl rfl rfl rfl rfl ⟨_, rfl⟩) rfl ?_; refine par_step (ok_loadA L (vs := [_, _, _, _, _, _]) (src_at rfl) rfl rfl rfl rfl ⟨_, rfl⟩) rfl ?_; refine par_step (ok_callx L rfl rfl (blt_lt rfl) rfl rfl rfl (fun u H hH _ _ => tcmp_ret hH)) rfl ?_; refine par_step (ok_eql rfl rfl rfl rfl (decide_eq_true (by omega))) rfl ?_; refine par_step (ok_pick rfl rfl rfl rfl) rfl ?_; refine par_step (ok_assign rfl rfl rfl) rfl ?_; refine par_step (ok_assign rfl rfl rfl) rfl ?_; refine par_nil ?_; refine N_seq ?_
        refine V_ret L (rs := [.tmp 6, .tmp 7]) rfl (fun _ _ h => h) Since.refl fun u H hH hle => ?_
        rfl
      · rw [decide_eq_false fun h => hcm (hm.1 h)]
        refine V_seq ?_; refine V_seq ?_; refine V_region (id := 3) ?_; refine vo_step (ok_move rfl rfl rfl) rfl ?_; refine vo_step (ok_move rfl rfl rfl) rfl ?_; refine vo_step (ok_lss rfl rfl rfl rfl (decide_eq_false (by omega))) rfl ?_; refine vo_nil ?_; refine N_seq ?_; refine V_false rfl ?_; refine V_exit ?_; refine X_then ?_; refine X_then ?_; refine X_here ?_; refine N_seq ?_; refine V_seq ?_; refine V_regionD (id := 8) [] mixed (by kernel_rfl) ?_; refine par_step (ok_move rfl rfl rfl) rfl ?_; refine par_step (ok_move rfl rfl rfl) rfl ?_; refine par_step (ok_move rfl rfl rfl) rfl ?_; refine par_step (ok_lss rfl rfl rfl rfl (decide_eq_true (by omega))) rfl ?_; refine par_step (ok_move rfl rfl rfl) rfl ?_; refine par_step (ok_move rfl rfl rfl) rfl ?_; refine par_step (ok_moves' rfl rfl rfl) rfl ?_; refine par_step (ok_move rfl rfl rfl) rfl ?_; refine par_step (ok_indexV L _ rfl rfl rfl rfl rfl rfl rfl (by first | omega | decide) (by assumption)) rfl ?_; refine par_step (ok_loadPA L (vs := [_, _, _, _, _, _]) rfl rfl rfl rfl rfl ⟨_, rfl⟩) rfl ?_; refine par_step (ok_loadA L (vs := [_, _, _, _, _, _]) (src_at rfl) rfl rfl rfl rfl ⟨_, rfl⟩) rfl ?_; refine par_step (ok_callx L rfl rfl (blt_lt rfl) rfl rfl rfl (fun u H hH _ _ => tcmp_ret hH)) rfl ?_; refine par_step (ok_eql rfl rfl rfl rfl (decide_eq_false (by omega))) rfl ?_; refine par_step (ok_pick rfl rfl rfl rfl) rfl ?_; refine par_step (ok_assign rfl rfl rfl) rfl ?_; refine par_step (ok_assign rfl rfl rfl) rfl ?_; refine par_nil ?_; refine N_seq ?_
        refine V_ret L (rs := [.tmp 6, .tmp 7]) rfl (fun _ _ h => h) Since.refl fun u H hH hle => ?_
        rfl
    · obtain rfl : i = l.length := by omega
      rw [decide_eq_false (not_mem_end cmpT_ord hlo)]
      refine V_seq ?_; refine V_seq ?_; refine V_region (id := 3) ?_; refine vo_step (ok_move rfl rfl rfl) rfl ?_; refine vo_step (ok_move rfl rfl rfl) rfl ?_; refine vo_step (ok_lss rfl rfl rfl rfl (decide_eq_false (by omega))) rfl ?_; refine vo_nil ?_; refine N_seq ?_; refine V_false rfl ?_; refine V_exit ?_; refine X_then ?_; refine X_then ?_; refine X_here ?_; refine N_seq ?_; refine V_seq ?_; refine V_regionD (id := 8) [] mixed (by kernel_rfl) ?_; refine par_step (ok_move rfl rfl rfl) rfl ?_; refine par_step (ok_move rfl rfl rfl) rfl ?_; refine par_step (ok_move rfl rfl rfl) rfl ?_; refine par_step (ok_lss rfl rfl rfl rfl (decide_eq_false (by omega))) rfl ?_; refine par_step (ok_move rfl rfl rfl) rfl ?_; refine par_step (ok_skip rfl (blt_lt rfl) rfl) rfl ?_; refine par_step (ok_skip rfl (blt_lt rfl) rfl) rfl ?_; refine par_step (ok_skip rfl (blt_lt rfl) rfl) rfl ?_; refine par_step (ok_skip rfl (blt_lt rfl) rfl) rfl ?_; refine par_step (ok_skip rfl (blt_lt rfl) rfl) rfl ?_; refine par_step (ok_skip rfl (blt_lt rfl) rfl) rfl ?_; refine par_step (ok_skip rfl (blt_lt rfl) rfl) rfl ?_; refine par_step (ok_skip rfl (blt_lt rfl) rfl) rfl ?_; refine par_step (ok_pick rfl rfl rfl rfl) rfl ?_; refine par_step (ok_assign rfl rfl rfl) rfl ?_; refine par_step (ok_assign rfl rfl rfl) rfl ?_; refine par_nil ?_; refine N_seq ?_
      refine V_ret L (rs := [.tmp 6, .tmp 7]) rfl (fun _ _ h => h) Since.refl fun u H hH hle => ?_
      rfl
/-- Where a tuple is, or would be. -/
def findR (l : List U) (t : U) : Nat × Bool := if isB l = true then (posS cmpT t l, decide (t ∈ l)) else (0, false)
set_option maxHeartbeats 1000000 in
theorem find_ret {l : List U} {t : U} {fu : Bool} {r : Nat × Bool} (hr : findR l t = r) (hz : l.length ≤ 100000) {v : Value} {w : World} {B : Heap} (hB : B.Le (hp w)) (hv : US l fu v B) :
    Ret Try.prog 37 [v, uv t] w B (fun v _ => v = .tuple #[.int .i64 r.1, .bool r.2]) := by
  subst hr
  unfold findR
  refine V_enter Try.func37 rfl Try.ntmps37 (Nat.le_of_ble_eq_true rfl) hB ?_
  refine V_seen 0 (US l fu) rfl SlV.mono hv ?_
  cases h1 : isB l
  · rw [if_neg (by decide)]
    refine V_seq ?_; refine V_region (id := 0) ?_; refine vo_step (ok_box rfl rfl rfl rfl) rfl ?_; refine vo_step (ok_assign rfl rfl rfl) rfl ?_; refine vo_step (ok_assign rfl rfl rfl) rfl ?_; refine vo_nil ?_; refine N_seq ?_; refine V_seq ?_; refine V_seq ?_; refine V_region (id := 1) ?_; refine vo_step (ok_moves' rfl rfl rfl) rfl ?_; refine vo_step (ok_callx L rfl rfl (blt_lt rfl) rfl rfl rfl (fun u H hH _ _ v1 hv1 => tis_ret (by omega) h1 hH hv1)) rfl ?_; refine vo_step (ok_not rfl rfl rfl rfl) rfl ?_; refine vo_nil ?_; refine N_seq ?_; refine V_true rfl ?_; refine V_seq ?_; refine V_region (id := 2) ?_; refine vo_step (ok_assign rfl rfl rfl) rfl ?_; refine vo_step (ok_assign rfl rfl rfl) rfl ?_; refine vo_nil ?_; refine N_seq ?_
    refine V_ret L (rs := [.tmp 4, .tmp 5]) rfl (fun _ _ h => h) Since.refl fun u H hH hle => ?_
    rfl
  · rw [if_pos rfl]
    have hs : Sst cmpT l := of_decide_eq_true h1
    refine V_seq ?_; refine V_region (id := 0) ?_; refine vo_step (ok_box rfl rfl rfl rfl) rfl ?_; refine vo_step (ok_assign rfl rfl rfl) rfl ?_; refine vo_step (ok_assign rfl rfl rfl) rfl ?_; refine vo_nil ?_; refine N_seq ?_; refine V_seq ?_; refine V_seq ?_; refine V_region (id := 1) ?_; refine vo_step (ok_moves' rfl rfl rfl) rfl ?_; refine vo_step (ok_callx L rfl rfl (blt_lt rfl) rfl rfl rfl (fun u H hH _ _ v1 hv1 => tis_ret (by omega) h1 hH hv1)) rfl ?_; refine vo_step (ok_not rfl rfl rfl rfl) rfl ?_; refine vo_nil ?_; refine N_seq ?_; refine V_false rfl ?_; refine V_skip ?_; refine N_seq ?_; refine V_seq ?_; refine V_region (id := 3) ?_; refine vo_step (ok_moves' rfl rfl rfl) rfl ?_; refine vo_step (ok_loadA L (vs := [_, _, _, _, _, _]) (src_at rfl) rfl rfl rfl rfl ⟨_, rfl⟩) rfl ?_; refine vo_step (ok_callx L rfl rfl (blt_lt rfl) rfl rfl rfl (fun u H hH _ _ v1 hv1 => bsearch_ret hz hs hH hv1)) rfl ?_; refine vo_step (ok_extract rfl rfl rfl rfl) rfl ?_; refine vo_step (ok_extract rfl rfl rfl rfl) rfl ?_; refine vo_step (ok_assign rfl rfl rfl) rfl ?_; refine vo_step (ok_assign rfl rfl rfl) rfl ?_; refine vo_nil ?_; refine N_seq ?_
    refine V_ret L (rs := [.tmp 4, .tmp 5]) rfl (fun _ _ h => h) Since.refl fun u H hH hle => ?_
    rfl
end Go.V.L2
