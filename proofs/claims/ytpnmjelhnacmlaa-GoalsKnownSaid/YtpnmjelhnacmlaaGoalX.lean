/- The walks of tables of goals (chapter 23): what is taken out, and tables that are made. -/
import Derived.Test.YtpnmjelhnacmlaaGoalW
namespace Go.V.L23
open Go.Proofs Go.RowKit Go.V
theorem enumL_drop : ∀ (n : Nat) (l : List G) (a : Nat), (enumL l a).drop n = enumL (l.drop n) (a + n)
  | 0, _, _ => rfl
  | _ + 1, [], _ => rfl
  | n + 1, y :: l, a => by
    simp only [enumL, List.drop_succ_cons]
    rw [enumL_drop n l (a + 1)]
    congr 1; omega
theorem cutI_drop {K V : Type} (e : Int) : ∀ (l : List (K × V)) (a : Int) (n : Nat), a + l.length ≤ e → Tr.cutI (a + n) e l a = l.drop n
  | [], _, n, _ => by simp [Tr.cutI]
  | y :: l, a, 0, h => by
    simp only [List.length_cons] at h
    rw [List.drop_zero, Tr.cutI_all _ _ (by omega) (by simp only [List.length_cons]; omega)]
  | y :: l, a, n + 1, h => by
    simp only [List.length_cons] at h
    simp only [Tr.cutI]
    rw [if_neg (by omega), List.drop_succ_cons, ← cutI_drop e l (a + 1) n (by omega), show a + ((n + 1 : Nat) : Int) = a + 1 + (n : Int) by omega]
/-- The goals from a number on. -/
def fromL (l : List G) (i : Int) : List G := l.drop i.toNat
theorem range_from {l : List G} {t : Tr Int G} {u : Tr G Int} (h : TG l t u) (i : Int) : IG.rangeL t i (l.length : Int) = enumL (fromL l i) i.toNat := by
  have hz := h.size
  have hl := h.lt
  unfold IG.rangeL fromL
  split
  · rename_i h1
    rw [List.drop_eq_nil_of_le (by omega)]
    rfl
  · rename_i h1
    rw [Tr.prs_list, hl, show max i 0 = (0 : Int) + (i.toNat : Int) by omega, cutI_drop _ _ 0 i.toNat (by rw [enumL_length]; omega), enumL_drop, Nat.zero_add]
theorem enumL_snd : ∀ (l : List G) (a : Nat), (enumL l a).map (·.2) = l
  | [], _ => rfl
  | y :: l, a => by simp only [enumL, List.map_cons, enumL_snd l (a + 1)]
theorem flat4 (k : Int) (g : G) : (IG.pl k g).length = 4 := rfl
theorem enum_at {l : List G} {a k : Nat} {g : G} (h : l[k]? = some g) : ((IG.flat (enumL l a)).drop (k * 4)).take 4 = [.int .i64 ((a + k : Nat) : Int), .string g.1.1, .string g.1.2, .string g.2] :=
  flatMap_at (f := fun y : Int × G => IG.pl y.1 y.2) (fun _ => rfl) _ _ _ (enumL_get h)
theorem gs_len : ∀ (l : List G), (l.flatMap gcs).length = l.length * 3
  | [] => rfl
  | y :: l => by rw [List.flatMap_cons, List.length_append, gs_len l, gcs_len, List.length_cons]; omega
attribute [local irreducible] V N X VO Par StepOK Has Ret RetL RetO Src
set_option maxHeartbeats 1000000 in
theorem gfromO {l : List G} (i : Int) (hl : l.length ≤ 131072) {v : Value} {w : World} {B : Heap} (hB : B.Le (hp w)) (hv : TabV l v B) :
    RetO Try.prog 18 [v, .int .i64 i] w B (SlE tyG 3 (fromL l i).length ((fromL l i).flatMap gcs)) := by
  have hv0 := hv
  obtain ⟨p, q, t, u, hT, ht, hu, hv1⟩ := hv
  have hrl := range_from hT i
  have hts := hT.size
  obtain ⟨f1, p1, f2, q1, rfl, hpl⟩ := hv0.shape
  have hp1 : p1 = p := by
    rcases hv1 with h | ⟨_, _, _, h⟩
    · cases h; rfl
    · cases h; rfl
  subst hp1
  have hll : (fromL l i).length ≤ 131072 := by unfold fromL; rw [List.length_drop]; omega
  have hel := enumL_length (fromL l i) i.toNat
  generalize hm : fromL l i = M at hrl hll hel
  refine V_enterO Try.func18 rfl Try.ntmps18 (Nat.le_of_ble_eq_true rfl) hB ?_
  refine V_seq ?_; refine V_region (id := 0) ?_; refine vo_step (ok_box rfl rfl rfl rfl) rfl ?_; refine vo_step (ok_assign rfl rfl rfl) rfl ?_; refine vo_nil ?_; refine N_seq ?_; refine V_seq ?_; refine V_regionD (id := 1) [] mixed (by kernel_rfl) ?_; refine par_step (ok_fieldAt L rfl rfl rfl rfl) rfl ?_; refine par_step (ok_loadA L (vs := [_, _]) (src_at rfl) rfl rfl rfl rfl ⟨_, rfl⟩) rfl ?_; refine par_step (ok_move rfl rfl rfl) rfl ?_; refine par_step (ok_loadA L (vs := [_, _, _, _]) (src_at rfl) rfl rfl rfl rfl ⟨_, rfl⟩) rfl ?_; refine par_step (ok_callx L rfl rfl (blt_lt rfl) rfl rfl rfl (fun u H hH hle _ => glen_ret hH (hv0.le hle))) rfl ?_; refine par_step (ok_call (φ := IG.PS (enumL M i.toNat) true) L rfl rfl (blt_lt rfl) rfl rfl rfl IG.PS.mono (fun u H hH hle _ => IG.range_m _ _ hH (⟨_, rfl, ht.le hle⟩) (by omega) hrl)) rfl ?_; refine par_step (ok_assigns' rfl rfl rfl) rfl ?_; refine par_nil ?_; refine N_seq ?_; refine V_seq ?_; refine V_seq ?_
  by_cases h0 : M.length = 0
  · have hn : M = [] := List.eq_nil_of_length_eq_zero h0
    subst hn
    refine V_region (id := 2) ?_; refine vo_step (ok_moves' rfl rfl rfl) rfl ?_; refine vo_step (ok_lenV L rfl rfl rfl rfl) rfl ?_; refine vo_step (ok_eql rfl rfl rfl rfl (decide_eq_true (by omega))) rfl ?_; refine vo_nil ?_; refine N_seq ?_; refine V_true rfl ?_; refine V_seq ?_; refine V_region (id := 3) ?_; refine vo_step (ok_assign rfl rfl rfl) rfl ?_; refine vo_nil ?_; refine N_seq ?_
    refine V_nilE 4 tyG 3 rfl ?_
    exact V_retO rfl (fun _ _ h => h) Since.refl rfl
  · refine V_region (id := 2) ?_; refine vo_step (ok_moves' rfl rfl rfl) rfl ?_; refine vo_step (ok_lenV L rfl rfl rfl rfl) rfl ?_; refine vo_step (ok_eql rfl rfl rfl rfl (decide_eq_false (by omega))) rfl ?_; refine vo_nil ?_; refine N_seq ?_; refine V_false rfl ?_; refine V_skip ?_; refine N_seq ?_; refine V_seq ?_; refine V_region (id := 4) ?_; refine vo_step (ok_moves' rfl rfl rfl) rfl ?_; refine vo_step (ok_lenV L rfl rfl rfl rfl) rfl ?_; refine vo_step (ok_makeN L _ rfl rfl rfl el44 rfl rfl rfl rfl (by omega) (by simp only [maxLen]; omega)) rfl ?_; refine vo_step2 (ok_moveO (.inr rfl) rfl rfl rfl rfl) ?_; refine vo_nil ?_; refine N_seq ?_; refine V_seq ?_; refine V_seq ?_; refine V_region (id := 5) ?_; refine vo_step (ok_moves' rfl rfl rfl) rfl ?_; refine vo_step (ok_lenV L rfl rfl rfl rfl) rfl ?_; refine vo_step (ok_move rfl rfl rfl) rfl ?_; refine vo_nil ?_; refine N_seq ?_; refine V_block ?_
    have hzl := zsL_length (P := Try.prog) (k := (enumL M i.toNat).length * 3) el44
    generalize zsL Try.prog tyG ((enumL M i.toNat).length * 3) = zs0 at hzl
    rw [hel] at hzl ⊢
    refine V_loop (fun s : Nat × List Value => [(5, .sat (IG.PS (enumL M i.toNat) true)), (6, .own (SlE tyG 3 M.length ((M.take s.1).flatMap gcs ++ s.2))), (21, .is (.int .i64 M.length)), (22, .is (.int .i64 s.1))])
      (fun s => s.1 ≤ M.length ∧ s.2.length = (M.length - s.1) * 3) (fun s => M.length - s.1) (0, zs0) ⟨Nat.zero_le _, hzl⟩ ⟨rfl, rfl, rfl, rfl, trivial⟩ ?_
    rintro ⟨k, zs⟩ ⟨hk, hz⟩
    dsimp only at hk hz ⊢
    by_cases hlt : k < M.length
    · obtain ⟨g, hg⟩ := get_some hlt
      have hc := enum_at (a := i.toNat) hg
      have ht1 : M.take (k + 1) = M.take k ++ [g] := by rw [List.take_add_one, hg]; rfl
      have hr : List.take (0 + k * 3) ((M.take k).flatMap gcs ++ zs) ++ (gcs g ++ List.drop (0 + k * 3 + 3) ((M.take k).flatMap gcs ++ zs)) = (M.take (k + 1)).flatMap gcs ++ zs.drop 3 := by
        rw [ht1, Nat.zero_add]
        exact set_at gcs_len (M.take k) k M.length zs g (by rw [List.length_take]; omega) hz hlt
      have hlen' : ((M.take (k + 1)).flatMap gcs ++ zs.drop 3).length = M.length * 3 := by
        rw [List.length_append, gs_len, List.length_take, List.length_drop, hz]; omega
      refine V_boxE 6 (by omega) rfl fun b hb => ?_
      have hle1 : 0 + k * 3 + 3 ≤ ((M.take k).flatMap gcs ++ zs).length := by rw [hb.1]; omega
      refine V_seq ?_; refine V_region (id := 6) ?_; refine vo_step (ok_lss rfl rfl rfl rfl (decide_eq_true (by omega))) rfl ?_; refine vo_nil ?_; refine N_seq ?_; refine V_seq ?_; refine V_true rfl ?_; refine V_skip ?_; refine N_seq ?_; refine V_seq ?_; refine V_block ?_; refine V_seq ?_; refine V_region (id := 7) ?_; refine vo_step (ok_move rfl rfl rfl) rfl ?_; refine vo_step (ok_assign rfl rfl rfl) rfl ?_; refine vo_nil ?_; refine N_seq ?_; refine V_region (id := 8) ?_; refine vo_step (ok_move rfl rfl rfl) rfl ?_; refine vo_step (ok_move rfl rfl rfl) rfl ?_; refine vo_step (ok_moves' rfl rfl rfl) rfl ?_; refine vo_step (ok_move rfl rfl rfl) rfl ?_; refine vo_step (ok_indexV L _ rfl rfl rfl rfl rfl rfl rfl (by first | omega | decide) (by assumption)) rfl ?_; refine vo_step (ok_fieldAP L rfl rfl rfl rfl) rfl ?_; refine vo_step (ok_loadPA L (vs := [_, _, _]) rfl rfl rfl rfl rfl ⟨_, rfl⟩) rfl ?_; refine vo_step (ok_indexAt L _ rfl rfl rfl rfl rfl rfl rfl (by omega)) rfl ?_; refine box_store L (O1 := []) (cs' := (M.take (k + 1)).flatMap gcs ++ zs.drop 3) rfl rfl rfl rfl rfl rfl (Nat.ble_eq_true_of_le hle1) rfl hr ?_; refine vo_nil ?_; refine N_block ?_; refine N_seq ?_
      refine V_unboxE (s := 3) 6 [] rfl rfl hlen' hb.2 ?_
      refine V_region (id := 9) ?_; refine vo_step (ok_add rfl rfl rfl rfl (wrap_i64 (by omega) (by omega))) rfl ?_; refine vo_step (ok_move rfl rfl rfl) rfl ?_; refine vo_nil ?_
      exact N_round (x := (k, zs)) (k + 1, zs.drop 3) ⟨hlt, by dsimp only; rw [List.length_drop, hz]; omega⟩ (by dsimp only; omega) ⟨rfl, rfl, rfl, rfl, trivial⟩
    · obtain rfl : k = M.length := by omega
      have hzn : zs = [] := List.eq_nil_of_length_eq_zero (by rw [hz]; omega)
      rw [hzn, List.append_nil, List.take_length]
      refine V_seq ?_; refine V_region (id := 6) ?_; refine vo_step (ok_lss rfl rfl rfl rfl (decide_eq_false (by omega))) rfl ?_; refine vo_nil ?_; refine N_seq ?_; refine V_seq ?_; refine V_false rfl ?_; refine V_exit ?_; refine X_then ?_; refine X_then ?_; refine X_here ?_; refine N_seq ?_; refine V_seq ?_; refine V_region (id := 10) ?_; refine vo_step2 (ok_moveO (.inl rfl) rfl rfl rfl rfl) ?_; refine vo_step2 (ok_moveO (.inr rfl) rfl rfl rfl rfl) ?_; refine vo_nil ?_; refine N_seq ?_
      exact V_retO rfl (fun _ _ h => h) Since.refl rfl
theorem gfrom_ret {l : List G} (i : Int) (hl : l.length ≤ 131072) {v : Value} {w : World} {B : Heap} (hB : B.Le (hp w)) (hv : TabV l v B) :
    Ret Try.prog 18 [v, .int .i64 i] w B (GS (fromL l i) true) := (gfromO i hl hB hv).toRet lend_SlE
end Go.V.L23
