/- Texts on the way to TuplesKnown, part 4: one behind another. -/
import Derived.Test.YtpnmjelhnacmlaaTuplesKnownM3
import Derived.Shelf.SlSortCmp.NoneTotal
import Derived.Lib.IndexLaws
import Derived.Lib.IndexBytes
set_option linter.unusedVariables false
set_option linter.unusedSimpArgs false
/- The walk of the definition of tuples (chapter 2): parts of two lists. -/
namespace Go.V.L2
open Go.Proofs Go.RowKit Go.V
theorem ups_len : ∀ (l : List U), (l.flatMap ucs).length = l.length * 6
  | [] => rfl
  | y :: l => by rw [List.flatMap_cons, List.length_append, ups_len l, ucs_len, List.length_cons]; omega
theorem ups_plain : ∀ (l : List U), (l.flatMap ucs).all plainV = true
  | [] => rfl
  | g :: l => by rw [List.flatMap_cons, List.all_append, ups_plain l]; rfl
theorem ups_cat {κ : Kap} {s : Nat} {x y : List U} (h : κ s = some (.own (SlR tyU 6 (x.length + y.length) (x.flatMap ucs ++ y.flatMap ucs)))) : κ s = some (.own (SlR tyU 6 (x ++ y).length ((x ++ y).flatMap ucs))) := by
  rw [h, List.flatMap_append, List.length_append]
theorem filter_snoc {p : U → Bool} {l r : List U} {k : Nat} {t : U} (h : l[k]? = some t) (hr : r = (l.take k).filter p) : (l.take (k + 1)).filter p = if p t = true then r ++ [t] else r := by
  rw [take_s h, List.filter_append, hr, List.filter_cons, List.filter_nil]
  split <;> simp
attribute [local irreducible] V N X VO Par StepOK Has Ret RetL Src
set_option maxHeartbeats 4000000 in
theorem rsome_ttt {x y : List U} {fx fy : Bool} (hx : x.length ≤ 100000) (hy : y.length ≤ 100000) (zx : ∀ t ∈ x, TZ t) (zy : ∀ t ∈ y, TZ t) {vx vy : Value} {w : World} {B : Heap} (hB : B.Le (hp w)) (hvx : US x fx vx B) (hvy : US y fy vy B) :
    Ret Try.prog 48 [vx, vy, .bool true, .bool true, .bool true] w B (US (someT x y true true true) false) := by
  have lx := ups_len x
  have ly := ups_len y
  have px := ups_plain x
  have py := ups_plain y
  refine V_enter Try.func48 rfl Try.ntmps48 (Nat.le_of_ble_eq_true rfl) hB ?_
  refine V_seen 0 (US x fx) rfl SlV.mono hvx ?_
  refine V_seen 1 (US y fy) rfl SlV.mono hvy ?_
  refine V_seq ?_; refine V_region (id := 0) ?_; refine vo_step (ok_assign rfl rfl rfl) rfl ?_; refine vo_nil ?_; refine N_seq ?_; refine V_seq ?_; refine V_region (id := 1) ?_; refine vo_step (ok_assign rfl rfl rfl) rfl ?_; refine vo_nil ?_; refine N_seq ?_; refine V_seq ?_
  refine V_nilR 11 tyU 6 rfl ?_
  refine V_region (id := 2) ?_; refine vo_step (ok_moves' rfl rfl rfl) rfl ?_; refine vo_step (ok_append0 L rfl rfl rfl (apd_V rfl) rfl el81 lx px (by omega) (by omega)) rfl ?_; refine vo_step (ok_moves' rfl rfl rfl) rfl ?_; refine vo_step2 (ok_append L rfl rfl rfl (apd_V rfl) rfl el81 ly py (by omega) (by omega)) ?_; refine vo_step2 (ok_moveO (.inr rfl) rfl rfl rfl rfl) ?_; refine vo_nil ?_; refine N_seq ?_; refine V_seq ?_; refine V_seq ?_
  refine V_pubR 12 (ups_cat rfl) ?_
  have hal : (x ++ y).length ≤ 200000 := by rw [List.length_append]; omega
  have hza : ∀ t ∈ x ++ y, TZ t := fun t ht => (List.mem_append.1 ht).elim (zx t) (zy t)
  unfold someT
  generalize hall : x ++ y = l at hal hza
  refine V_region (id := 3) ?_; refine vo_step (ok_assign rfl rfl rfl) rfl ?_; refine vo_nil ?_; refine N_seq ?_; refine V_block ?_
  refine V_loop (fun s : Nat × List U => [(0, .sat (US x fx)), (1, .sat (US y fy)), (2, .is (.bool true)), (3, .is (.bool true)), (4, .is (.bool true)), (11, .own (SlR tyU 6 s.2.length (s.2.flatMap ucs))), (12, .sat (US l false)), (13, .is (.int .i64 s.1))])
    (fun s => s.1 ≤ l.length ∧ s.2.length ≤ s.1 ∧ s.2 = (l.take s.1).filter (pickT x y true true true)) (fun s => l.length - s.1) (0, []) ⟨Nat.zero_le _, Nat.le_refl _, rfl⟩ ⟨rfl, rfl, rfl, rfl, rfl, rfl, rfl, rfl, trivial⟩ ?_
  rintro ⟨i, r⟩ ⟨hi, hrl, hr⟩
  dsimp only at hi hrl hr ⊢
  by_cases hlt : i < l.length
  · obtain ⟨t, ht⟩ := get_some hlt
    have hc := us_at ht
    have hf := filter_snoc ht hr
    by_cases h1 : t ∈ x
    · have e1 : (if t ∈ x then 1 else 0 : Int) = 1 := if_pos h1
      by_cases h2 : t ∈ y
      · have e2 : (if t ∈ y then 1 else 0 : Int) = 1 := if_pos h2
        have hp : (pickT x y true true true) t = true := by simp [pickT, h1, h2]
        rw [hp, if_pos rfl] at hf
        refine V_seq ?_; refine V_seq ?_; refine V_region (id := 4) ?_; refine vo_step (ok_move rfl rfl rfl) rfl ?_; refine vo_step (ok_moves' rfl rfl rfl) rfl ?_; refine vo_step (ok_lenV L rfl rfl rfl rfl) rfl ?_; refine vo_step (ok_lss rfl rfl rfl rfl (decide_eq_true (by omega))) rfl ?_; refine vo_nil ?_; refine N_seq ?_; refine V_true rfl ?_; refine V_skip ?_; refine N_seq ?_; refine V_seq ?_; refine V_block ?_; refine V_seq ?_; refine V_regionD (id := 6) [] mixed (by kernel_rfl) ?_; refine par_step (ok_moves' rfl rfl rfl) rfl ?_; refine par_step (ok_moves' rfl rfl rfl) rfl ?_; refine par_step (ok_move rfl rfl rfl) rfl ?_; refine par_step (ok_indexV L _ rfl rfl rfl rfl rfl rfl rfl (by first | omega | decide) (by assumption)) rfl ?_; refine par_step (ok_loadPA L (vs := [_, _, _, _, _, _]) rfl rfl rfl rfl rfl ⟨_, rfl⟩) rfl ?_; refine par_step (ok_callx L rfl rfl (blt_lt rfl) rfl rfl rfl (fun u H hH _ _ v1 h3 => rin_ret (l := x) (by omega) e1 hH h3)) rfl ?_; refine par_step (ok_eql rfl rfl rfl rfl (decide_eq_true (by omega))) rfl ?_; refine par_step (ok_moves' rfl rfl rfl) rfl ?_; refine par_step (ok_moves' rfl rfl rfl) rfl ?_; refine par_step (ok_move rfl rfl rfl) rfl ?_; refine par_step (ok_indexV L _ rfl rfl rfl rfl rfl rfl rfl (by first | omega | decide) (by assumption)) rfl ?_; refine par_step (ok_loadPA L (vs := [_, _, _, _, _, _]) rfl rfl rfl rfl rfl ⟨_, rfl⟩) rfl ?_; refine par_step (ok_callx L rfl rfl (blt_lt rfl) rfl rfl rfl (fun u H hH _ _ v1 h3 => rin_ret (l := y) (by omega) e2 hH h3)) rfl ?_; refine par_step (ok_eql rfl rfl rfl rfl (decide_eq_true (by omega))) rfl ?_; refine par_step (ok_assign rfl rfl rfl) rfl ?_; refine par_step (ok_assign rfl rfl rfl) rfl ?_; refine par_nil ?_; refine N_seq ?_; refine V_seq ?_; refine V_region (id := 7) ?_; refine vo_step (ok_move rfl rfl rfl) rfl ?_; refine vo_step (ok_move rfl rfl rfl) rfl ?_; refine vo_step (ok_move rfl rfl rfl) rfl ?_; refine vo_step (ok_not rfl rfl rfl rfl) rfl ?_; refine vo_step (ok_pick rfl rfl rfl rfl) rfl ?_; refine vo_step (ok_move rfl rfl rfl) rfl ?_; refine vo_step (ok_skip rfl (blt_lt rfl) rfl) rfl ?_; refine vo_step (ok_pick rfl rfl rfl rfl) rfl ?_; refine vo_step (ok_move rfl rfl rfl) rfl ?_; refine vo_step (ok_move rfl rfl rfl) rfl ?_; refine vo_step (ok_move rfl rfl rfl) rfl ?_; refine vo_step (ok_move rfl rfl rfl) rfl ?_; refine vo_step (ok_pick rfl rfl rfl rfl) rfl ?_; refine vo_step (ok_move rfl rfl rfl) rfl ?_; refine vo_step (ok_move rfl rfl rfl) rfl ?_; refine vo_step (ok_pick rfl rfl rfl rfl) rfl ?_; refine vo_step (ok_pick rfl rfl rfl rfl) rfl ?_; refine vo_step (ok_move rfl rfl rfl) rfl ?_; refine vo_step (ok_skip rfl (blt_lt rfl) rfl) rfl ?_; refine vo_step (ok_skip rfl (blt_lt rfl) rfl) rfl ?_; refine vo_step (ok_skip rfl (blt_lt rfl) rfl) rfl ?_; refine vo_step (ok_skip rfl (blt_lt rfl) rfl) rfl ?_; refine vo_step (ok_skip rfl (blt_lt rfl) rfl) rfl ?_; refine vo_step (ok_skip rfl (blt_lt rfl) rfl) rfl ?_; refine vo_step (ok_skip rfl (blt_lt rfl) rfl) rfl ?_; refine vo_step (ok_skip rfl (blt_lt rfl) rfl) rfl ?_; refine vo_step (ok_pick rfl rfl rfl rfl) rfl ?_; refine vo_nil ?_; refine N_seq ?_; refine V_true rfl ?_; refine V_region (id := 8) ?_; refine vo_step2 (ok_moveO (.inl rfl) rfl rfl rfl rfl) ?_; refine vo_step (ok_moves' rfl rfl rfl) rfl ?_; refine vo_step (ok_move rfl rfl rfl) rfl ?_; refine vo_step (ok_indexV L _ rfl rfl rfl rfl rfl rfl rfl (by first | omega | decide) (by assumption)) rfl ?_; refine vo_step (ok_loadPA L (vs := [_, _, _, _, _, _]) rfl rfl rfl rfl rfl ⟨_, rfl⟩) rfl ?_; refine vo_step (ok_buildSlice L rfl rfl rfl rfl rfl rfl rfl rfl rfl) rfl ?_; refine vo_step2 (ok_append L rfl rfl rfl (apd_B rfl) rfl el81 rfl rfl (by omega) (by omega)) ?_; refine vo_step2 (ok_moveO (.inr rfl) rfl rfl rfl rfl) ?_; refine vo_nil ?_; refine N_block ?_; refine N_seq ?_; refine V_region (id := 5) ?_; refine vo_step (ok_move rfl rfl rfl) rfl ?_; refine vo_step (ok_add rfl rfl rfl rfl (wrap_i64 (by omega) (by omega))) rfl ?_; refine vo_step (ok_assign rfl rfl rfl) rfl ?_; refine vo_nil ?_
        exact N_round (x := (i, r)) (i + 1, r ++ [t]) ⟨hlt, by dsimp only; rw [List.length_append, List.length_singleton]; omega, hf.symm⟩ (by dsimp only; omega) ⟨rfl, rfl, rfl, rfl, rfl, ups_snoc rfl, rfl, rfl, trivial⟩
      · have e2 : (if t ∈ y then 1 else 0 : Int) = 0 := if_neg h2
        have hp : (pickT x y true true true) t = true := by simp [pickT, h1, h2]
        rw [hp, if_pos rfl] at hf
        refine V_seq ?_; refine V_seq ?_; refine V_region (id := 4) ?_; refine vo_step (ok_move rfl rfl rfl) rfl ?_; refine vo_step (ok_moves' rfl rfl rfl) rfl ?_; refine vo_step (ok_lenV L rfl rfl rfl rfl) rfl ?_; refine vo_step (ok_lss rfl rfl rfl rfl (decide_eq_true (by omega))) rfl ?_; refine vo_nil ?_; refine N_seq ?_; refine V_true rfl ?_; refine V_skip ?_; refine N_seq ?_; refine V_seq ?_; refine V_block ?_; refine V_seq ?_; refine V_regionD (id := 6) [] mixed (by kernel_rfl) ?_; refine par_step (ok_moves' rfl rfl rfl) rfl ?_; refine par_step (ok_moves' rfl rfl rfl) rfl ?_; refine par_step (ok_move rfl rfl rfl) rfl ?_; refine par_step (ok_indexV L _ rfl rfl rfl rfl rfl rfl rfl (by first | omega | decide) (by assumption)) rfl ?_; refine par_step (ok_loadPA L (vs := [_, _, _, _, _, _]) rfl rfl rfl rfl rfl ⟨_, rfl⟩) rfl ?_; refine par_step (ok_callx L rfl rfl (blt_lt rfl) rfl rfl rfl (fun u H hH _ _ v1 h3 => rin_ret (l := x) (by omega) e1 hH h3)) rfl ?_; refine par_step (ok_eql rfl rfl rfl rfl (decide_eq_true (by omega))) rfl ?_; refine par_step (ok_moves' rfl rfl rfl) rfl ?_; refine par_step (ok_moves' rfl rfl rfl) rfl ?_; refine par_step (ok_move rfl rfl rfl) rfl ?_; refine par_step (ok_indexV L _ rfl rfl rfl rfl rfl rfl rfl (by first | omega | decide) (by assumption)) rfl ?_; refine par_step (ok_loadPA L (vs := [_, _, _, _, _, _]) rfl rfl rfl rfl rfl ⟨_, rfl⟩) rfl ?_; refine par_step (ok_callx L rfl rfl (blt_lt rfl) rfl rfl rfl (fun u H hH _ _ v1 h3 => rin_ret (l := y) (by omega) e2 hH h3)) rfl ?_; refine par_step (ok_eql rfl rfl rfl rfl (decide_eq_false (by omega))) rfl ?_; refine par_step (ok_assign rfl rfl rfl) rfl ?_; refine par_step (ok_assign rfl rfl rfl) rfl ?_; refine par_nil ?_; refine N_seq ?_; refine V_seq ?_; refine V_region (id := 7) ?_; refine vo_step (ok_move rfl rfl rfl) rfl ?_; refine vo_step (ok_move rfl rfl rfl) rfl ?_; refine vo_step (ok_move rfl rfl rfl) rfl ?_; refine vo_step (ok_not rfl rfl rfl rfl) rfl ?_; refine vo_step (ok_pick rfl rfl rfl rfl) rfl ?_; refine vo_step (ok_move rfl rfl rfl) rfl ?_; refine vo_step (ok_move rfl rfl rfl) rfl ?_; refine vo_step (ok_pick rfl rfl rfl rfl) rfl ?_; refine vo_step (ok_move rfl rfl rfl) rfl ?_; refine vo_step (ok_skip rfl (blt_lt rfl) rfl) rfl ?_; refine vo_step (ok_skip rfl (blt_lt rfl) rfl) rfl ?_; refine vo_step (ok_skip rfl (blt_lt rfl) rfl) rfl ?_; refine vo_step (ok_skip rfl (blt_lt rfl) rfl) rfl ?_; refine vo_step (ok_skip rfl (blt_lt rfl) rfl) rfl ?_; refine vo_step (ok_skip rfl (blt_lt rfl) rfl) rfl ?_; refine vo_step (ok_skip rfl (blt_lt rfl) rfl) rfl ?_; refine vo_step (ok_pick rfl rfl rfl rfl) rfl ?_; refine vo_step (ok_move rfl rfl rfl) rfl ?_; refine vo_step (ok_skip rfl (blt_lt rfl) rfl) rfl ?_; refine vo_step (ok_skip rfl (blt_lt rfl) rfl) rfl ?_; refine vo_step (ok_skip rfl (blt_lt rfl) rfl) rfl ?_; refine vo_step (ok_skip rfl (blt_lt rfl) rfl) rfl ?_; refine vo_step (ok_skip rfl (blt_lt rfl) rfl) rfl ?_; refine vo_step (ok_skip rfl (blt_lt rfl) rfl) rfl ?_; refine vo_step (ok_skip rfl (blt_lt rfl) rfl) rfl ?_; refine vo_step (ok_skip rfl (blt_lt rfl) rfl) rfl ?_; refine vo_step (ok_pick rfl rfl rfl rfl) rfl ?_; refine vo_nil ?_; refine N_seq ?_; refine V_true rfl ?_; refine V_region (id := 8) ?_; refine vo_step2 (ok_moveO (.inl rfl) rfl rfl rfl rfl) ?_; refine vo_step (ok_moves' rfl rfl rfl) rfl ?_; refine vo_step (ok_move rfl rfl rfl) rfl ?_; refine vo_step (ok_indexV L _ rfl rfl rfl rfl rfl rfl rfl (by first | omega | decide) (by assumption)) rfl ?_; refine vo_step (ok_loadPA L (vs := [_, _, _, _, _, _]) rfl rfl rfl rfl rfl ⟨_, rfl⟩) rfl ?_; refine vo_step (ok_buildSlice L rfl rfl rfl rfl rfl rfl rfl rfl rfl) rfl ?_; refine vo_step2 (ok_append L rfl rfl rfl (apd_B rfl) rfl el81 rfl rfl (by omega) (by omega)) ?_; refine vo_step2 (ok_moveO (.inr rfl) rfl rfl rfl rfl) ?_; refine vo_nil ?_; refine N_block ?_; refine N_seq ?_; refine V_region (id := 5) ?_; refine vo_step (ok_move rfl rfl rfl) rfl ?_; refine vo_step (ok_add rfl rfl rfl rfl (wrap_i64 (by omega) (by omega))) rfl ?_; refine vo_step (ok_assign rfl rfl rfl) rfl ?_; refine vo_nil ?_
        exact N_round (x := (i, r)) (i + 1, r ++ [t]) ⟨hlt, by dsimp only; rw [List.length_append, List.length_singleton]; omega, hf.symm⟩ (by dsimp only; omega) ⟨rfl, rfl, rfl, rfl, rfl, ups_snoc rfl, rfl, rfl, trivial⟩
    · have e1 : (if t ∈ x then 1 else 0 : Int) = 0 := if_neg h1
      by_cases h2 : t ∈ y
      · have e2 : (if t ∈ y then 1 else 0 : Int) = 1 := if_pos h2
        have hp : (pickT x y true true true) t = true := by simp [pickT, h1, h2]
        rw [hp, if_pos rfl] at hf
        refine V_seq ?_; refine V_seq ?_; refine V_region (id := 4) ?_; refine vo_step (ok_move rfl rfl rfl) rfl ?_; refine vo_step (ok_moves' rfl rfl rfl) rfl ?_; refine vo_step (ok_lenV L rfl rfl rfl rfl) rfl ?_; refine vo_step (ok_lss rfl rfl rfl rfl (decide_eq_true (by omega))) rfl ?_; refine vo_nil ?_; refine N_seq ?_; refine V_true rfl ?_; refine V_skip ?_; refine N_seq ?_; refine V_seq ?_; refine V_block ?_; refine V_seq ?_; refine V_regionD (id := 6) [] mixed (by kernel_rfl) ?_; refine par_step (ok_moves' rfl rfl rfl) rfl ?_; refine par_step (ok_moves' rfl rfl rfl) rfl ?_; refine par_step (ok_move rfl rfl rfl) rfl ?_; refine par_step (ok_indexV L _ rfl rfl rfl rfl rfl rfl rfl (by first | omega | decide) (by assumption)) rfl ?_; refine par_step (ok_loadPA L (vs := [_, _, _, _, _, _]) rfl rfl rfl rfl rfl ⟨_, rfl⟩) rfl ?_; refine par_step (ok_callx L rfl rfl (blt_lt rfl) rfl rfl rfl (fun u H hH _ _ v1 h3 => rin_ret (l := x) (by omega) e1 hH h3)) rfl ?_; refine par_step (ok_eql rfl rfl rfl rfl (decide_eq_false (by omega))) rfl ?_; refine par_step (ok_moves' rfl rfl rfl) rfl ?_; refine par_step (ok_moves' rfl rfl rfl) rfl ?_; refine par_step (ok_move rfl rfl rfl) rfl ?_; refine par_step (ok_indexV L _ rfl rfl rfl rfl rfl rfl rfl (by first | omega | decide) (by assumption)) rfl ?_; refine par_step (ok_loadPA L (vs := [_, _, _, _, _, _]) rfl rfl rfl rfl rfl ⟨_, rfl⟩) rfl ?_; refine par_step (ok_callx L rfl rfl (blt_lt rfl) rfl rfl rfl (fun u H hH _ _ v1 h3 => rin_ret (l := y) (by omega) e2 hH h3)) rfl ?_; refine par_step (ok_eql rfl rfl rfl rfl (decide_eq_true (by omega))) rfl ?_; refine par_step (ok_assign rfl rfl rfl) rfl ?_; refine par_step (ok_assign rfl rfl rfl) rfl ?_; refine par_nil ?_; refine N_seq ?_; refine V_seq ?_; refine V_region (id := 7) ?_; refine vo_step (ok_move rfl rfl rfl) rfl ?_; refine vo_step (ok_move rfl rfl rfl) rfl ?_; refine vo_step (ok_skip rfl (blt_lt rfl) rfl) rfl ?_; refine vo_step (ok_skip rfl (blt_lt rfl) rfl) rfl ?_; refine vo_step (ok_pick rfl rfl rfl rfl) rfl ?_; refine vo_step (ok_move rfl rfl rfl) rfl ?_; refine vo_step (ok_skip rfl (blt_lt rfl) rfl) rfl ?_; refine vo_step (ok_pick rfl rfl rfl rfl) rfl ?_; refine vo_step (ok_move rfl rfl rfl) rfl ?_; refine vo_step (ok_move rfl rfl rfl) rfl ?_; refine vo_step (ok_move rfl rfl rfl) rfl ?_; refine vo_step (ok_skip rfl (blt_lt rfl) rfl) rfl ?_; refine vo_step (ok_pick rfl rfl rfl rfl) rfl ?_; refine vo_step (ok_move rfl rfl rfl) rfl ?_; refine vo_step (ok_skip rfl (blt_lt rfl) rfl) rfl ?_; refine vo_step (ok_pick rfl rfl rfl rfl) rfl ?_; refine vo_step (ok_pick rfl rfl rfl rfl) rfl ?_; refine vo_step (ok_move rfl rfl rfl) rfl ?_; refine vo_step (ok_move rfl rfl rfl) rfl ?_; refine vo_step (ok_not rfl rfl rfl rfl) rfl ?_; refine vo_step (ok_move rfl rfl rfl) rfl ?_; refine vo_step (ok_move rfl rfl rfl) rfl ?_; refine vo_step (ok_pick rfl rfl rfl rfl) rfl ?_; refine vo_step (ok_move rfl rfl rfl) rfl ?_; refine vo_step (ok_move rfl rfl rfl) rfl ?_; refine vo_step (ok_pick rfl rfl rfl rfl) rfl ?_; refine vo_step (ok_pick rfl rfl rfl rfl) rfl ?_; refine vo_nil ?_; refine N_seq ?_; refine V_true rfl ?_; refine V_region (id := 8) ?_; refine vo_step2 (ok_moveO (.inl rfl) rfl rfl rfl rfl) ?_; refine vo_step (ok_moves' rfl rfl rfl) rfl ?_; refine vo_step (ok_move rfl rfl rfl) rfl ?_; refine vo_step (ok_indexV L _ rfl rfl rfl rfl rfl rfl rfl (by first | omega | decide) (by assumption)) rfl ?_; refine vo_step (ok_loadPA L (vs := [_, _, _, _, _, _]) rfl rfl rfl rfl rfl ⟨_, rfl⟩) rfl ?_; refine vo_step (ok_buildSlice L rfl rfl rfl rfl rfl rfl rfl rfl rfl) rfl ?_; refine vo_step2 (ok_append L rfl rfl rfl (apd_B rfl) rfl el81 rfl rfl (by omega) (by omega)) ?_; refine vo_step2 (ok_moveO (.inr rfl) rfl rfl rfl rfl) ?_; refine vo_nil ?_; refine N_block ?_; refine N_seq ?_; refine V_region (id := 5) ?_; refine vo_step (ok_move rfl rfl rfl) rfl ?_; refine vo_step (ok_add rfl rfl rfl rfl (wrap_i64 (by omega) (by omega))) rfl ?_; refine vo_step (ok_assign rfl rfl rfl) rfl ?_; refine vo_nil ?_
        exact N_round (x := (i, r)) (i + 1, r ++ [t]) ⟨hlt, by dsimp only; rw [List.length_append, List.length_singleton]; omega, hf.symm⟩ (by dsimp only; omega) ⟨rfl, rfl, rfl, rfl, rfl, ups_snoc rfl, rfl, rfl, trivial⟩
      · have e2 : (if t ∈ y then 1 else 0 : Int) = 0 := if_neg h2
        have hp : (pickT x y true true true) t = false := by simp [pickT, h1, h2]
        rw [hp, if_neg (by decide)] at hf
        refine V_seq ?_; refine V_seq ?_; refine V_region (id := 4) ?_; refine vo_step (ok_move rfl rfl rfl) rfl ?_; refine vo_step (ok_moves' rfl rfl rfl) rfl ?_; refine vo_step (ok_lenV L rfl rfl rfl rfl) rfl ?_; refine vo_step (ok_lss rfl rfl rfl rfl (decide_eq_true (by omega))) rfl ?_; refine vo_nil ?_; refine N_seq ?_; refine V_true rfl ?_; refine V_skip ?_; refine N_seq ?_; refine V_seq ?_; refine V_block ?_; refine V_seq ?_; refine V_regionD (id := 6) [] mixed (by kernel_rfl) ?_; refine par_step (ok_moves' rfl rfl rfl) rfl ?_; refine par_step (ok_moves' rfl rfl rfl) rfl ?_; refine par_step (ok_move rfl rfl rfl) rfl ?_; refine par_step (ok_indexV L _ rfl rfl rfl rfl rfl rfl rfl (by first | omega | decide) (by assumption)) rfl ?_; refine par_step (ok_loadPA L (vs := [_, _, _, _, _, _]) rfl rfl rfl rfl rfl ⟨_, rfl⟩) rfl ?_; refine par_step (ok_callx L rfl rfl (blt_lt rfl) rfl rfl rfl (fun u H hH _ _ v1 h3 => rin_ret (l := x) (by omega) e1 hH h3)) rfl ?_; refine par_step (ok_eql rfl rfl rfl rfl (decide_eq_false (by omega))) rfl ?_; refine par_step (ok_moves' rfl rfl rfl) rfl ?_; refine par_step (ok_moves' rfl rfl rfl) rfl ?_; refine par_step (ok_move rfl rfl rfl) rfl ?_; refine par_step (ok_indexV L _ rfl rfl rfl rfl rfl rfl rfl (by first | omega | decide) (by assumption)) rfl ?_; refine par_step (ok_loadPA L (vs := [_, _, _, _, _, _]) rfl rfl rfl rfl rfl ⟨_, rfl⟩) rfl ?_; refine par_step (ok_callx L rfl rfl (blt_lt rfl) rfl rfl rfl (fun u H hH _ _ v1 h3 => rin_ret (l := y) (by omega) e2 hH h3)) rfl ?_; refine par_step (ok_eql rfl rfl rfl rfl (decide_eq_false (by omega))) rfl ?_; refine par_step (ok_assign rfl rfl rfl) rfl ?_; refine par_step (ok_assign rfl rfl rfl) rfl ?_; refine par_nil ?_; refine N_seq ?_; refine V_seq ?_; refine V_region (id := 7) ?_; refine vo_step (ok_move rfl rfl rfl) rfl ?_; refine vo_step (ok_move rfl rfl rfl) rfl ?_; refine vo_step (ok_skip rfl (blt_lt rfl) rfl) rfl ?_; refine vo_step (ok_skip rfl (blt_lt rfl) rfl) rfl ?_; refine vo_step (ok_pick rfl rfl rfl rfl) rfl ?_; refine vo_step (ok_move rfl rfl rfl) rfl ?_; refine vo_step (ok_skip rfl (blt_lt rfl) rfl) rfl ?_; refine vo_step (ok_pick rfl rfl rfl rfl) rfl ?_; refine vo_step (ok_move rfl rfl rfl) rfl ?_; refine vo_step (ok_move rfl rfl rfl) rfl ?_; refine vo_step (ok_move rfl rfl rfl) rfl ?_; refine vo_step (ok_skip rfl (blt_lt rfl) rfl) rfl ?_; refine vo_step (ok_pick rfl rfl rfl rfl) rfl ?_; refine vo_step (ok_move rfl rfl rfl) rfl ?_; refine vo_step (ok_skip rfl (blt_lt rfl) rfl) rfl ?_; refine vo_step (ok_pick rfl rfl rfl rfl) rfl ?_; refine vo_step (ok_pick rfl rfl rfl rfl) rfl ?_; refine vo_step (ok_move rfl rfl rfl) rfl ?_; refine vo_step (ok_move rfl rfl rfl) rfl ?_; refine vo_step (ok_not rfl rfl rfl rfl) rfl ?_; refine vo_step (ok_move rfl rfl rfl) rfl ?_; refine vo_step (ok_move rfl rfl rfl) rfl ?_; refine vo_step (ok_pick rfl rfl rfl rfl) rfl ?_; refine vo_step (ok_move rfl rfl rfl) rfl ?_; refine vo_step (ok_skip rfl (blt_lt rfl) rfl) rfl ?_; refine vo_step (ok_pick rfl rfl rfl rfl) rfl ?_; refine vo_step (ok_pick rfl rfl rfl rfl) rfl ?_; refine vo_nil ?_; refine N_seq ?_; refine V_false rfl ?_; refine V_skip ?_; refine N_block ?_; refine N_seq ?_; refine V_region (id := 5) ?_; refine vo_step (ok_move rfl rfl rfl) rfl ?_; refine vo_step (ok_add rfl rfl rfl rfl (wrap_i64 (by omega) (by omega))) rfl ?_; refine vo_step (ok_assign rfl rfl rfl) rfl ?_; refine vo_nil ?_
        exact N_round (x := (i, r)) (i + 1, r) ⟨hlt, by dsimp only; omega, hf.symm⟩ (by dsimp only; omega) ⟨rfl, rfl, rfl, rfl, rfl, rfl, rfl, rfl, trivial⟩
  · obtain rfl : i = l.length := by omega
    rw [List.take_length] at hr
    have hzr : ∀ t ∈ r, TZ t := fun t h => hza t (List.mem_filter.1 (by rw [← hr]; exact h)).1
    rw [← hr]
    refine V_pubR 11 rfl ?_
    refine V_seq ?_; refine V_seq ?_; refine V_region (id := 4) ?_; refine vo_step (ok_move rfl rfl rfl) rfl ?_; refine vo_step (ok_moves' rfl rfl rfl) rfl ?_; refine vo_step (ok_lenV L rfl rfl rfl rfl) rfl ?_; refine vo_step (ok_lss rfl rfl rfl rfl (decide_eq_false (by omega))) rfl ?_; refine vo_nil ?_; refine N_seq ?_; refine V_false rfl ?_; refine V_exit ?_; refine X_then ?_; refine X_then ?_; refine X_here ?_; refine N_seq ?_; refine V_seq ?_; refine V_region (id := 9) ?_; refine vo_step (ok_moves' rfl rfl rfl) rfl ?_; refine vo_step (ok_call L rfl rfl (blt_lt rfl) rfl rfl rfl SlV.mono (fun u H hH _ _ v1 h3 => rsorted_ret (by omega) hzr hH h3)) rfl ?_; refine vo_step (ok_assigns' rfl rfl rfl) rfl ?_; refine vo_nil ?_; refine N_seq ?_
    refine V_ret L (rs := [.tmp 10]) rfl (fun _ _ h => h) Since.refl fun u H hH hle => ?_
    exact fun v hv => hv
set_option maxHeartbeats 4000000 in
theorem rsome_ftf {x y : List U} {fx fy : Bool} (hx : x.length ≤ 100000) (hy : y.length ≤ 100000) (zx : ∀ t ∈ x, TZ t) (zy : ∀ t ∈ y, TZ t) {vx vy : Value} {w : World} {B : Heap} (hB : B.Le (hp w)) (hvx : US x fx vx B) (hvy : US y fy vy B) :
    Ret Try.prog 48 [vx, vy, .bool false, .bool true, .bool false] w B (US (someT x y false true false) false) := by
  have lx := ups_len x
  have ly := ups_len y
  have px := ups_plain x
  have py := ups_plain y
  refine V_enter Try.func48 rfl Try.ntmps48 (Nat.le_of_ble_eq_true rfl) hB ?_
  refine V_seen 0 (US x fx) rfl SlV.mono hvx ?_
  refine V_seen 1 (US y fy) rfl SlV.mono hvy ?_
  refine V_seq ?_; refine V_region (id := 0) ?_; refine vo_step (ok_assign rfl rfl rfl) rfl ?_; refine vo_nil ?_; refine N_seq ?_; refine V_seq ?_; refine V_region (id := 1) ?_; refine vo_step (ok_assign rfl rfl rfl) rfl ?_; refine vo_nil ?_; refine N_seq ?_; refine V_seq ?_
  refine V_nilR 11 tyU 6 rfl ?_
  refine V_region (id := 2) ?_; refine vo_step (ok_moves' rfl rfl rfl) rfl ?_; refine vo_step (ok_append0 L rfl rfl rfl (apd_V rfl) rfl el81 lx px (by omega) (by omega)) rfl ?_; refine vo_step (ok_moves' rfl rfl rfl) rfl ?_; refine vo_step2 (ok_append L rfl rfl rfl (apd_V rfl) rfl el81 ly py (by omega) (by omega)) ?_; refine vo_step2 (ok_moveO (.inr rfl) rfl rfl rfl rfl) ?_; refine vo_nil ?_; refine N_seq ?_; refine V_seq ?_; refine V_seq ?_
  refine V_pubR 12 (ups_cat rfl) ?_
  have hal : (x ++ y).length ≤ 200000 := by rw [List.length_append]; omega
  have hza : ∀ t ∈ x ++ y, TZ t := fun t ht => (List.mem_append.1 ht).elim (zx t) (zy t)
  unfold someT
  generalize hall : x ++ y = l at hal hza
  refine V_region (id := 3) ?_; refine vo_step (ok_assign rfl rfl rfl) rfl ?_; refine vo_nil ?_; refine N_seq ?_; refine V_block ?_
  refine V_loop (fun s : Nat × List U => [(0, .sat (US x fx)), (1, .sat (US y fy)), (2, .is (.bool false)), (3, .is (.bool true)), (4, .is (.bool false)), (11, .own (SlR tyU 6 s.2.length (s.2.flatMap ucs))), (12, .sat (US l false)), (13, .is (.int .i64 s.1))])
    (fun s => s.1 ≤ l.length ∧ s.2.length ≤ s.1 ∧ s.2 = (l.take s.1).filter (pickT x y false true false)) (fun s => l.length - s.1) (0, []) ⟨Nat.zero_le _, Nat.le_refl _, rfl⟩ ⟨rfl, rfl, rfl, rfl, rfl, rfl, rfl, rfl, trivial⟩ ?_
  rintro ⟨i, r⟩ ⟨hi, hrl, hr⟩
  dsimp only at hi hrl hr ⊢
  by_cases hlt : i < l.length
  · obtain ⟨t, ht⟩ := get_some hlt
    have hc := us_at ht
    have hf := filter_snoc ht hr
    by_cases h1 : t ∈ x
    · have e1 : (if t ∈ x then 1 else 0 : Int) = 1 := if_pos h1
      by_cases h2 : t ∈ y
      · have e2 : (if t ∈ y then 1 else 0 : Int) = 1 := if_pos h2
        have hp : (pickT x y false true false) t = true := by simp [pickT, h1, h2]
        rw [hp, if_pos rfl] at hf
        refine V_seq ?_; refine V_seq ?_; refine V_region (id := 4) ?_; refine vo_step (ok_move rfl rfl rfl) rfl ?_; refine vo_step (ok_moves' rfl rfl rfl) rfl ?_; refine vo_step (ok_lenV L rfl rfl rfl rfl) rfl ?_; refine vo_step (ok_lss rfl rfl rfl rfl (decide_eq_true (by omega))) rfl ?_; refine vo_nil ?_; refine N_seq ?_; refine V_true rfl ?_; refine V_skip ?_; refine N_seq ?_; refine V_seq ?_; refine V_block ?_; refine V_seq ?_; refine V_regionD (id := 6) [] mixed (by kernel_rfl) ?_; refine par_step (ok_moves' rfl rfl rfl) rfl ?_; refine par_step (ok_moves' rfl rfl rfl) rfl ?_; refine par_step (ok_move rfl rfl rfl) rfl ?_; refine par_step (ok_indexV L _ rfl rfl rfl rfl rfl rfl rfl (by first | omega | decide) (by assumption)) rfl ?_; refine par_step (ok_loadPA L (vs := [_, _, _, _, _, _]) rfl rfl rfl rfl rfl ⟨_, rfl⟩) rfl ?_; refine par_step (ok_callx L rfl rfl (blt_lt rfl) rfl rfl rfl (fun u H hH _ _ v1 h3 => rin_ret (l := x) (by omega) e1 hH h3)) rfl ?_; refine par_step (ok_eql rfl rfl rfl rfl (decide_eq_true (by omega))) rfl ?_; refine par_step (ok_moves' rfl rfl rfl) rfl ?_; refine par_step (ok_moves' rfl rfl rfl) rfl ?_; refine par_step (ok_move rfl rfl rfl) rfl ?_; refine par_step (ok_indexV L _ rfl rfl rfl rfl rfl rfl rfl (by first | omega | decide) (by assumption)) rfl ?_; refine par_step (ok_loadPA L (vs := [_, _, _, _, _, _]) rfl rfl rfl rfl rfl ⟨_, rfl⟩) rfl ?_; refine par_step (ok_callx L rfl rfl (blt_lt rfl) rfl rfl rfl (fun u H hH _ _ v1 h3 => rin_ret (l := y) (by omega) e2 hH h3)) rfl ?_; refine par_step (ok_eql rfl rfl rfl rfl (decide_eq_true (by omega))) rfl ?_; refine par_step (ok_assign rfl rfl rfl) rfl ?_; refine par_step (ok_assign rfl rfl rfl) rfl ?_; refine par_nil ?_; refine N_seq ?_; refine V_seq ?_; refine V_region (id := 7) ?_; refine vo_step (ok_move rfl rfl rfl) rfl ?_; refine vo_step (ok_move rfl rfl rfl) rfl ?_; refine vo_step (ok_move rfl rfl rfl) rfl ?_; refine vo_step (ok_not rfl rfl rfl rfl) rfl ?_; refine vo_step (ok_pick rfl rfl rfl rfl) rfl ?_; refine vo_step (ok_move rfl rfl rfl) rfl ?_; refine vo_step (ok_skip rfl (blt_lt rfl) rfl) rfl ?_; refine vo_step (ok_pick rfl rfl rfl rfl) rfl ?_; refine vo_step (ok_move rfl rfl rfl) rfl ?_; refine vo_step (ok_move rfl rfl rfl) rfl ?_; refine vo_step (ok_move rfl rfl rfl) rfl ?_; refine vo_step (ok_move rfl rfl rfl) rfl ?_; refine vo_step (ok_pick rfl rfl rfl rfl) rfl ?_; refine vo_step (ok_move rfl rfl rfl) rfl ?_; refine vo_step (ok_move rfl rfl rfl) rfl ?_; refine vo_step (ok_pick rfl rfl rfl rfl) rfl ?_; refine vo_step (ok_pick rfl rfl rfl rfl) rfl ?_; refine vo_step (ok_move rfl rfl rfl) rfl ?_; refine vo_step (ok_skip rfl (blt_lt rfl) rfl) rfl ?_; refine vo_step (ok_skip rfl (blt_lt rfl) rfl) rfl ?_; refine vo_step (ok_skip rfl (blt_lt rfl) rfl) rfl ?_; refine vo_step (ok_skip rfl (blt_lt rfl) rfl) rfl ?_; refine vo_step (ok_skip rfl (blt_lt rfl) rfl) rfl ?_; refine vo_step (ok_skip rfl (blt_lt rfl) rfl) rfl ?_; refine vo_step (ok_skip rfl (blt_lt rfl) rfl) rfl ?_; refine vo_step (ok_skip rfl (blt_lt rfl) rfl) rfl ?_; refine vo_step (ok_pick rfl rfl rfl rfl) rfl ?_; refine vo_nil ?_; refine N_seq ?_; refine V_true rfl ?_; refine V_region (id := 8) ?_; refine vo_step2 (ok_moveO (.inl rfl) rfl rfl rfl rfl) ?_; refine vo_step (ok_moves' rfl rfl rfl) rfl ?_; refine vo_step (ok_move rfl rfl rfl) rfl ?_; refine vo_step (ok_indexV L _ rfl rfl rfl rfl rfl rfl rfl (by first | omega | decide) (by assumption)) rfl ?_; refine vo_step (ok_loadPA L (vs := [_, _, _, _, _, _]) rfl rfl rfl rfl rfl ⟨_, rfl⟩) rfl ?_; refine vo_step (ok_buildSlice L rfl rfl rfl rfl rfl rfl rfl rfl rfl) rfl ?_; refine vo_step2 (ok_append L rfl rfl rfl (apd_B rfl) rfl el81 rfl rfl (by omega) (by omega)) ?_; refine vo_step2 (ok_moveO (.inr rfl) rfl rfl rfl rfl) ?_; refine vo_nil ?_; refine N_block ?_; refine N_seq ?_; refine V_region (id := 5) ?_; refine vo_step (ok_move rfl rfl rfl) rfl ?_; refine vo_step (ok_add rfl rfl rfl rfl (wrap_i64 (by omega) (by omega))) rfl ?_; refine vo_step (ok_assign rfl rfl rfl) rfl ?_; refine vo_nil ?_
        exact N_round (x := (i, r)) (i + 1, r ++ [t]) ⟨hlt, by dsimp only; rw [List.length_append, List.length_singleton]; omega, hf.symm⟩ (by dsimp only; omega) ⟨rfl, rfl, rfl, rfl, rfl, ups_snoc rfl, rfl, rfl, trivial⟩
      · have e2 : (if t ∈ y then 1 else 0 : Int) = 0 := if_neg h2
        have hp : (pickT x y false true false) t = false := by simp [pickT, h1, h2]
        rw [hp, if_neg (by decide)] at hf
        refine V_seq ?_; refine V_seq ?_; refine V_region (id := 4) ?_; refine vo_step (ok_move rfl rfl rfl) rfl ?_; refine vo_step (ok_moves' rfl rfl rfl) rfl ?_; refine vo_step (ok_lenV L rfl rfl rfl rfl) rfl ?_; refine vo_step (ok_lss rfl rfl rfl rfl (decide_eq_true (by omega))) rfl ?_; refine vo_nil ?_; refine N_seq ?_; refine V_true rfl ?_; refine V_skip ?_; refine N_seq ?_; refine V_seq ?_; refine V_block ?_; refine V_seq ?_; refine V_regionD (id := 6) [] mixed (by kernel_rfl) ?_; refine par_step (ok_moves' rfl rfl rfl) rfl ?_; refine par_step (ok_moves' rfl rfl rfl) rfl ?_; refine par_step (ok_move rfl rfl rfl) rfl ?_; refine par_step (ok_indexV L _ rfl rfl rfl rfl rfl rfl rfl (by first | omega | decide) (by assumption)) rfl ?_; refine par_step (ok_loadPA L (vs := [_, _, _, _, _, _]) rfl rfl rfl rfl rfl ⟨_, rfl⟩) rfl ?_; refine par_step (ok_callx L rfl rfl (blt_lt rfl) rfl rfl rfl (fun u H hH _ _ v1 h3 => rin_ret (l := x) (by omega) e1 hH h3)) rfl ?_; refine par_step (ok_eql rfl rfl rfl rfl (decide_eq_true (by omega))) rfl ?_; refine par_step (ok_moves' rfl rfl rfl) rfl ?_; refine par_step (ok_moves' rfl rfl rfl) rfl ?_; refine par_step (ok_move rfl rfl rfl) rfl ?_; refine par_step (ok_indexV L _ rfl rfl rfl rfl rfl rfl rfl (by first | omega | decide) (by assumption)) rfl ?_; refine par_step (ok_loadPA L (vs := [_, _, _, _, _, _]) rfl rfl rfl rfl rfl ⟨_, rfl⟩) rfl ?_; refine par_step (ok_callx L rfl rfl (blt_lt rfl) rfl rfl rfl (fun u H hH _ _ v1 h3 => rin_ret (l := y) (by omega) e2 hH h3)) rfl ?_; refine par_step (ok_eql rfl rfl rfl rfl (decide_eq_false (by omega))) rfl ?_; refine par_step (ok_assign rfl rfl rfl) rfl ?_; refine par_step (ok_assign rfl rfl rfl) rfl ?_; refine par_nil ?_; refine N_seq ?_; refine V_seq ?_; refine V_region (id := 7) ?_; refine vo_step (ok_move rfl rfl rfl) rfl ?_; refine vo_step (ok_move rfl rfl rfl) rfl ?_; refine vo_step (ok_move rfl rfl rfl) rfl ?_; refine vo_step (ok_not rfl rfl rfl rfl) rfl ?_; refine vo_step (ok_pick rfl rfl rfl rfl) rfl ?_; refine vo_step (ok_move rfl rfl rfl) rfl ?_; refine vo_step (ok_move rfl rfl rfl) rfl ?_; refine vo_step (ok_pick rfl rfl rfl rfl) rfl ?_; refine vo_step (ok_move rfl rfl rfl) rfl ?_; refine vo_step (ok_move rfl rfl rfl) rfl ?_; refine vo_step (ok_move rfl rfl rfl) rfl ?_; refine vo_step (ok_move rfl rfl rfl) rfl ?_; refine vo_step (ok_pick rfl rfl rfl rfl) rfl ?_; refine vo_step (ok_move rfl rfl rfl) rfl ?_; refine vo_step (ok_skip rfl (blt_lt rfl) rfl) rfl ?_; refine vo_step (ok_pick rfl rfl rfl rfl) rfl ?_; refine vo_step (ok_pick rfl rfl rfl rfl) rfl ?_; refine vo_step (ok_move rfl rfl rfl) rfl ?_; refine vo_step (ok_move rfl rfl rfl) rfl ?_; refine vo_step (ok_not rfl rfl rfl rfl) rfl ?_; refine vo_step (ok_move rfl rfl rfl) rfl ?_; refine vo_step (ok_skip rfl (blt_lt rfl) rfl) rfl ?_; refine vo_step (ok_pick rfl rfl rfl rfl) rfl ?_; refine vo_step (ok_move rfl rfl rfl) rfl ?_; refine vo_step (ok_skip rfl (blt_lt rfl) rfl) rfl ?_; refine vo_step (ok_pick rfl rfl rfl rfl) rfl ?_; refine vo_step (ok_pick rfl rfl rfl rfl) rfl ?_; refine vo_nil ?_; refine N_seq ?_; refine V_false rfl ?_; refine V_skip ?_; refine N_block ?_; refine N_seq ?_; refine V_region (id := 5) ?_; refine vo_step (ok_move rfl rfl rfl) rfl ?_; refine vo_step (ok_add rfl rfl rfl rfl (wrap_i64 (by omega) (by omega))) rfl ?_; refine vo_step (ok_assign rfl rfl rfl) rfl ?_; refine vo_nil ?_
        exact N_round (x := (i, r)) (i + 1, r) ⟨hlt, by dsimp only; omega, hf.symm⟩ (by dsimp only; omega) ⟨rfl, rfl, rfl, rfl, rfl, rfl, rfl, rfl, trivial⟩
    · have e1 : (if t ∈ x then 1 else 0 : Int) = 0 := if_neg h1
      by_cases h2 : t ∈ y
      · have e2 : (if t ∈ y then 1 else 0 : Int) = 1 := if_pos h2
        have hp : (pickT x y false true false) t = false := by simp [pickT, h1, h2]
        rw [hp, if_neg (by decide)] at hf
        refine V_seq ?_; refine V_seq ?_; refine V_region (id := 4) ?_; refine vo_step (ok_move rfl rfl rfl) rfl ?_; refine vo_step (ok_moves' rfl rfl rfl) rfl ?_; refine vo_step (ok_lenV L rfl rfl rfl rfl) rfl ?_; refine vo_step (ok_lss rfl rfl rfl rfl (decide_eq_true (by omega))) rfl ?_; refine vo_nil ?_; refine N_seq ?_; refine V_true rfl ?_; refine V_skip ?_; refine N_seq ?_; refine V_seq ?_; refine V_block ?_; refine V_seq ?_; refine V_regionD (id := 6) [] mixed (by kernel_rfl) ?_; refine par_step (ok_moves' rfl rfl rfl) rfl ?_; refine par_step (ok_moves' rfl rfl rfl) rfl ?_; refine par_step (ok_move rfl rfl rfl) rfl ?_; refine par_step (ok_indexV L _ rfl rfl rfl rfl rfl rfl rfl (by first | omega | decide) (by assumption)) rfl ?_; refine par_step (ok_loadPA L (vs := [_, _, _, _, _, _]) rfl rfl rfl rfl rfl ⟨_, rfl⟩) rfl ?_; refine par_step (ok_callx L rfl rfl (blt_lt rfl) rfl rfl rfl (fun u H hH _ _ v1 h3 => rin_ret (l := x) (by omega) e1 hH h3)) rfl ?_; refine par_step (ok_eql rfl rfl rfl rfl (decide_eq_false (by omega))) rfl ?_; refine par_step (ok_moves' rfl rfl rfl) rfl ?_; refine par_step (ok_moves' rfl rfl rfl) rfl ?_; refine par_step (ok_move rfl rfl rfl) rfl ?_; refine par_step (ok_indexV L _ rfl rfl rfl rfl rfl rfl rfl (by first | omega | decide) (by assumption)) rfl ?_; refine par_step (ok_loadPA L (vs := [_, _, _, _, _, _]) rfl rfl rfl rfl rfl ⟨_, rfl⟩) rfl ?_; refine par_step (ok_callx L rfl rfl (blt_lt rfl) rfl rfl rfl (fun u H hH _ _ v1 h3 => rin_ret (l := y) (by omega) e2 hH h3)) rfl ?_; refine par_step (ok_eql rfl rfl rfl rfl (decide_eq_true (by omega))) rfl ?_; refine par_step (ok_assign rfl rfl rfl) rfl ?_; refine par_step (ok_assign rfl rfl rfl) rfl ?_; refine par_nil ?_; refine N_seq ?_; refine V_seq ?_; refine V_region (id := 7) ?_; refine vo_step (ok_move rfl rfl rfl) rfl ?_; refine vo_step (ok_move rfl rfl rfl) rfl ?_; refine vo_step (ok_skip rfl (blt_lt rfl) rfl) rfl ?_; refine vo_step (ok_skip rfl (blt_lt rfl) rfl) rfl ?_; refine vo_step (ok_pick rfl rfl rfl rfl) rfl ?_; refine vo_step (ok_move rfl rfl rfl) rfl ?_; refine vo_step (ok_skip rfl (blt_lt rfl) rfl) rfl ?_; refine vo_step (ok_pick rfl rfl rfl rfl) rfl ?_; refine vo_step (ok_move rfl rfl rfl) rfl ?_; refine vo_step (ok_move rfl rfl rfl) rfl ?_; refine vo_step (ok_move rfl rfl rfl) rfl ?_; refine vo_step (ok_skip rfl (blt_lt rfl) rfl) rfl ?_; refine vo_step (ok_pick rfl rfl rfl rfl) rfl ?_; refine vo_step (ok_move rfl rfl rfl) rfl ?_; refine vo_step (ok_skip rfl (blt_lt rfl) rfl) rfl ?_; refine vo_step (ok_pick rfl rfl rfl rfl) rfl ?_; refine vo_step (ok_pick rfl rfl rfl rfl) rfl ?_; refine vo_step (ok_move rfl rfl rfl) rfl ?_; refine vo_step (ok_move rfl rfl rfl) rfl ?_; refine vo_step (ok_not rfl rfl rfl rfl) rfl ?_; refine vo_step (ok_move rfl rfl rfl) rfl ?_; refine vo_step (ok_move rfl rfl rfl) rfl ?_; refine vo_step (ok_pick rfl rfl rfl rfl) rfl ?_; refine vo_step (ok_move rfl rfl rfl) rfl ?_; refine vo_step (ok_move rfl rfl rfl) rfl ?_; refine vo_step (ok_pick rfl rfl rfl rfl) rfl ?_; refine vo_step (ok_pick rfl rfl rfl rfl) rfl ?_; refine vo_nil ?_; refine N_seq ?_; refine V_false rfl ?_; refine V_skip ?_; refine N_block ?_; refine N_seq ?_; refine V_region (id := 5) ?_; refine vo_step (ok_move rfl rfl rfl) rfl ?_; refine vo_step (ok_add rfl rfl rfl rfl (wrap_i64 (by omega) (by omega))) rfl ?_; refine vo_step (ok_assign rfl rfl rfl) rfl ?_; refine vo_nil ?_
        exact N_round (x := (i, r)) (i + 1, r) ⟨hlt, by dsimp only; omega, hf.symm⟩ (by dsimp only; omega) ⟨rfl, rfl, rfl, rfl, rfl, rfl, rfl, rfl, trivial⟩
      · have e2 : (if t ∈ y then 1 else 0 : Int) = 0 := if_neg h2
        have hp : (pickT x y false true false) t = false := by simp [pickT, h1, h2]
        rw [hp, if_neg (by decide)] at hf
        refine V_seq ?_; refine V_seq ?_; refine V_region (id := 4) ?_; refine vo_step (ok_move rfl rfl rfl) rfl ?_; refine vo_step (ok_moves' rfl rfl rfl) rfl ?_; refine vo_step (ok_lenV L rfl rfl rfl rfl) rfl ?_; refine vo_step (ok_lss rfl rfl rfl rfl (decide_eq_true (by omega))) rfl ?_; refine vo_nil ?_; refine N_seq ?_; refine V_true rfl ?_; refine V_skip ?_; refine N_seq ?_; refine V_seq ?_; refine V_block ?_; refine V_seq ?_; refine V_regionD (id := 6) [] mixed (by kernel_rfl) ?_; refine par_step (ok_moves' rfl rfl rfl) rfl ?_; refine par_step (ok_moves' rfl rfl rfl) rfl ?_; refine par_step (ok_move rfl rfl rfl) rfl ?_; refine par_step (ok_indexV L _ rfl rfl rfl rfl rfl rfl rfl (by first | omega | decide) (by assumption)) rfl ?_; refine par_step (ok_loadPA L (vs := [_, _, _, _, _, _]) rfl rfl rfl rfl rfl ⟨_, rfl⟩) rfl ?_; refine par_step (ok_callx L rfl rfl (blt_lt rfl) rfl rfl rfl (fun u H hH _ _ v1 h3 => rin_ret (l := x) (by omega) e1 hH h3)) rfl ?_; refine par_step (ok_eql rfl rfl rfl rfl (decide_eq_false (by omega))) rfl ?_; refine par_step (ok_moves' rfl rfl rfl) rfl ?_; refine par_step (ok_moves' rfl rfl rfl) rfl ?_; refine par_step (ok_move rfl rfl rfl) rfl ?_; refine par_step (ok_indexV L _ rfl rfl rfl rfl rfl rfl rfl (by first | omega | decide) (by assumption)) rfl ?_; refine par_step (ok_loadPA L (vs := [_, _, _, _, _, _]) rfl rfl rfl rfl rfl ⟨_, rfl⟩) rfl ?_; refine par_step (ok_callx L rfl rfl (blt_lt rfl) rfl rfl rfl (fun u H hH _ _ v1 h3 => rin_ret (l := y) (by omega) e2 hH h3)) rfl ?_; refine par_step (ok_eql rfl rfl rfl rfl (decide_eq_false (by omega))) rfl ?_; refine par_step (ok_assign rfl rfl rfl) rfl ?_; refine par_step (ok_assign rfl rfl rfl) rfl ?_; refine par_nil ?_; refine N_seq ?_; refine V_seq ?_; refine V_region (id := 7) ?_; refine vo_step (ok_move rfl rfl rfl) rfl ?_; refine vo_step (ok_move rfl rfl rfl) rfl ?_; refine vo_step (ok_skip rfl (blt_lt rfl) rfl) rfl ?_; refine vo_step (ok_skip rfl (blt_lt rfl) rfl) rfl ?_; refine vo_step (ok_pick rfl rfl rfl rfl) rfl ?_; refine vo_step (ok_move rfl rfl rfl) rfl ?_; refine vo_step (ok_skip rfl (blt_lt rfl) rfl) rfl ?_; refine vo_step (ok_pick rfl rfl rfl rfl) rfl ?_; refine vo_step (ok_move rfl rfl rfl) rfl ?_; refine vo_step (ok_move rfl rfl rfl) rfl ?_; refine vo_step (ok_move rfl rfl rfl) rfl ?_; refine vo_step (ok_skip rfl (blt_lt rfl) rfl) rfl ?_; refine vo_step (ok_pick rfl rfl rfl rfl) rfl ?_; refine vo_step (ok_move rfl rfl rfl) rfl ?_; refine vo_step (ok_skip rfl (blt_lt rfl) rfl) rfl ?_; refine vo_step (ok_pick rfl rfl rfl rfl) rfl ?_; refine vo_step (ok_pick rfl rfl rfl rfl) rfl ?_; refine vo_step (ok_move rfl rfl rfl) rfl ?_; refine vo_step (ok_move rfl rfl rfl) rfl ?_; refine vo_step (ok_not rfl rfl rfl rfl) rfl ?_; refine vo_step (ok_move rfl rfl rfl) rfl ?_; refine vo_step (ok_move rfl rfl rfl) rfl ?_; refine vo_step (ok_pick rfl rfl rfl rfl) rfl ?_; refine vo_step (ok_move rfl rfl rfl) rfl ?_; refine vo_step (ok_skip rfl (blt_lt rfl) rfl) rfl ?_; refine vo_step (ok_pick rfl rfl rfl rfl) rfl ?_; refine vo_step (ok_pick rfl rfl rfl rfl) rfl ?_; refine vo_nil ?_; refine N_seq ?_; refine V_false rfl ?_; refine V_skip ?_; refine N_block ?_; refine N_seq ?_; refine V_region (id := 5) ?_; refine vo_step (ok_move rfl rfl rfl) rfl ?_; refine vo_step (ok_add rfl rfl rfl rfl (wrap_i64 (by omega) (by omega))) rfl ?_; refine vo_step (ok_assign rfl rfl rfl) rfl ?_; refine vo_nil ?_
        exact N_round (x := (i, r)) (i + 1, r) ⟨hlt, by dsimp only; omega, hf.symm⟩ (by dsimp only; omega) ⟨rfl, rfl, rfl, rfl, rfl, rfl, rfl, rfl, trivial⟩
  · obtain rfl : i = l.length := by omega
    rw [List.take_length] at hr
    have hzr : ∀ t ∈ r, TZ t := fun t h => hza t (List.mem_filter.1 (by rw [← hr]; exact h)).1
    rw [← hr]
    refine V_pubR 11 rfl ?_
    refine V_seq ?_; refine V_seq ?_; refine V_region (id := 4) ?_; refine vo_step (ok_move rfl rfl rfl) rfl ?_; refine vo_step (ok_moves' rfl rfl rfl) rfl ?_; refine vo_step (ok_lenV L rfl rfl rfl rfl) rfl ?_; refine vo_step (ok_lss rfl rfl rfl rfl (decide_eq_false (by omega))) rfl ?_; refine vo_nil ?_; refine N_seq ?_; refine V_false rfl ?_; refine V_exit ?_; refine X_then ?_; refine X_then ?_; refine X_here ?_; refine N_seq ?_; refine V_seq ?_; refine V_region (id := 9) ?_; refine vo_step (ok_moves' rfl rfl rfl) rfl ?_; refine vo_step (ok_call L rfl rfl (blt_lt rfl) rfl rfl rfl SlV.mono (fun u H hH _ _ v1 h3 => rsorted_ret (by omega) hzr hH h3)) rfl ?_; refine vo_step (ok_assigns' rfl rfl rfl) rfl ?_; refine vo_nil ?_; refine N_seq ?_
    refine V_ret L (rs := [.tmp 10]) rfl (fun _ _ h => h) Since.refl fun u H hH hle => ?_
    exact fun v hv => hv
set_option maxHeartbeats 4000000 in
theorem rsome_tff {x y : List U} {fx fy : Bool} (hx : x.length ≤ 100000) (hy : y.length ≤ 100000) (zx : ∀ t ∈ x, TZ t) (zy : ∀ t ∈ y, TZ t) {vx vy : Value} {w : World} {B : Heap} (hB : B.Le (hp w)) (hvx : US x fx vx B) (hvy : US y fy vy B) :
    Ret Try.prog 48 [vx, vy, .bool true, .bool false, .bool false] w B (US (someT x y true false false) false) := by
  have lx := ups_len x
  have ly := ups_len y
  have px := ups_plain x
  have py := ups_plain y
  refine V_enter Try.func48 rfl Try.ntmps48 (Nat.le_of_ble_eq_true rfl) hB ?_
  refine V_seen 0 (US x fx) rfl SlV.mono hvx ?_
  refine V_seen 1 (US y fy) rfl SlV.mono hvy ?_
  refine V_seq ?_; refine V_region (id := 0) ?_; refine vo_step (ok_assign rfl rfl rfl) rfl ?_; refine vo_nil ?_; refine N_seq ?_; refine V_seq ?_; refine V_region (id := 1) ?_; refine vo_step (ok_assign rfl rfl rfl) rfl ?_; refine vo_nil ?_; refine N_seq ?_; refine V_seq ?_
  refine V_nilR 11 tyU 6 rfl ?_
  refine V_region (id := 2) ?_; refine vo_step (ok_moves' rfl rfl rfl) rfl ?_; refine vo_step (ok_append0 L rfl rfl rfl (apd_V rfl) rfl el81 lx px (by omega) (by omega)) rfl ?_; refine vo_step (ok_moves' rfl rfl rfl) rfl ?_; refine vo_step2 (ok_append L rfl rfl rfl (apd_V rfl) rfl el81 ly py (by omega) (by omega)) ?_; refine vo_step2 (ok_moveO (.inr rfl) rfl rfl rfl rfl) ?_; refine vo_nil ?_; refine N_seq ?_; refine V_seq ?_; refine V_seq ?_
  refine V_pubR 12 (ups_cat rfl) ?_
  have hal : (x ++ y).length ≤ 200000 := by rw [List.length_append]; omega
  have hza : ∀ t ∈ x ++ y, TZ t := fun t ht => (List.mem_append.1 ht).elim (zx t) (zy t)
  unfold someT
  generalize hall : x ++ y = l at hal hza
  refine V_region (id := 3) ?_; refine vo_step (ok_assign rfl rfl rfl) rfl ?_; refine vo_nil ?_; refine N_seq ?_; refine V_block ?_
  refine V_loop (fun s : Nat × List U => [(0, .sat (US x fx)), (1, .sat (US y fy)), (2, .is (.bool true)), (3, .is (.bool false)), (4, .is (.bool false)), (11, .own (SlR tyU 6 s.2.length (s.2.flatMap ucs))), (12, .sat (US l false)), (13, .is (.int .i64 s.1))])
    (fun s => s.1 ≤ l.length ∧ s.2.length ≤ s.1 ∧ s.2 = (l.take s.1).filter (pickT x y true false false)) (fun s => l.length - s.1) (0, []) ⟨Nat.zero_le _, Nat.le_refl _, rfl⟩ ⟨rfl, rfl, rfl, rfl, rfl, rfl, rfl, rfl, trivial⟩ ?_
  rintro ⟨i, r⟩ ⟨hi, hrl, hr⟩
  dsimp only at hi hrl hr ⊢
  by_cases hlt : i < l.length
  · obtain ⟨t, ht⟩ := get_some hlt
    have hc := us_at ht
    have hf := filter_snoc ht hr
    by_cases h1 : t ∈ x
    · have e1 : (if t ∈ x then 1 else 0 : Int) = 1 := if_pos h1
      by_cases h2 : t ∈ y
      · have e2 : (if t ∈ y then 1 else 0 : Int) = 1 := if_pos h2
        have hp : (pickT x y true false false) t = false := by simp [pickT, h1, h2]
        rw [hp, if_neg (by decide)] at hf
        refine V_seq ?_; refine V_seq ?_; refine V_region (id := 4) ?_; refine vo_step (ok_move rfl rfl rfl) rfl ?_; refine vo_step (ok_moves' rfl rfl rfl) rfl ?_; refine vo_step (ok_lenV L rfl rfl rfl rfl) rfl ?_; refine vo_step (ok_lss rfl rfl rfl rfl (decide_eq_true (by omega))) rfl ?_; refine vo_nil ?_; refine N_seq ?_; refine V_true rfl ?_; refine V_skip ?_; refine N_seq ?_; refine V_seq ?_; refine V_block ?_; refine V_seq ?_; refine V_regionD (id := 6) [] mixed (by kernel_rfl) ?_; refine par_step (ok_moves' rfl rfl rfl) rfl ?_; refine par_step (ok_moves' rfl rfl rfl) rfl ?_; refine par_step (ok_move rfl rfl rfl) rfl ?_; refine par_step (ok_indexV L _ rfl rfl rfl rfl rfl rfl rfl (by first | omega | decide) (by assumption)) rfl ?_; refine par_step (ok_loadPA L (vs := [_, _, _, _, _, _]) rfl rfl rfl rfl rfl ⟨_, rfl⟩) rfl ?_; refine par_step (ok_callx L rfl rfl (blt_lt rfl) rfl rfl rfl (fun u H hH _ _ v1 h3 => rin_ret (l := x) (by omega) e1 hH h3)) rfl ?_; refine par_step (ok_eql rfl rfl rfl rfl (decide_eq_true (by omega))) rfl ?_; refine par_step (ok_moves' rfl rfl rfl) rfl ?_; refine par_step (ok_moves' rfl rfl rfl) rfl ?_; refine par_step (ok_move rfl rfl rfl) rfl ?_; refine par_step (ok_indexV L _ rfl rfl rfl rfl rfl rfl rfl (by first | omega | decide) (by assumption)) rfl ?_; refine par_step (ok_loadPA L (vs := [_, _, _, _, _, _]) rfl rfl rfl rfl rfl ⟨_, rfl⟩) rfl ?_; refine par_step (ok_callx L rfl rfl (blt_lt rfl) rfl rfl rfl (fun u H hH _ _ v1 h3 => rin_ret (l := y) (by omega) e2 hH h3)) rfl ?_; refine par_step (ok_eql rfl rfl rfl rfl (decide_eq_true (by omega))) rfl ?_; refine par_step (ok_assign rfl rfl rfl) rfl ?_; refine par_step (ok_assign rfl rfl rfl) rfl ?_; refine par_nil ?_; refine N_seq ?_; refine V_seq ?_; refine V_region (id := 7) ?_; refine vo_step (ok_move rfl rfl rfl) rfl ?_; refine vo_step (ok_move rfl rfl rfl) rfl ?_; refine vo_step (ok_move rfl rfl rfl) rfl ?_; refine vo_step (ok_not rfl rfl rfl rfl) rfl ?_; refine vo_step (ok_pick rfl rfl rfl rfl) rfl ?_; refine vo_step (ok_move rfl rfl rfl) rfl ?_; refine vo_step (ok_skip rfl (blt_lt rfl) rfl) rfl ?_; refine vo_step (ok_pick rfl rfl rfl rfl) rfl ?_; refine vo_step (ok_move rfl rfl rfl) rfl ?_; refine vo_step (ok_move rfl rfl rfl) rfl ?_; refine vo_step (ok_move rfl rfl rfl) rfl ?_; refine vo_step (ok_move rfl rfl rfl) rfl ?_; refine vo_step (ok_pick rfl rfl rfl rfl) rfl ?_; refine vo_step (ok_move rfl rfl rfl) rfl ?_; refine vo_step (ok_move rfl rfl rfl) rfl ?_; refine vo_step (ok_pick rfl rfl rfl rfl) rfl ?_; refine vo_step (ok_pick rfl rfl rfl rfl) rfl ?_; refine vo_step (ok_move rfl rfl rfl) rfl ?_; refine vo_step (ok_move rfl rfl rfl) rfl ?_; refine vo_step (ok_not rfl rfl rfl rfl) rfl ?_; refine vo_step (ok_move rfl rfl rfl) rfl ?_; refine vo_step (ok_skip rfl (blt_lt rfl) rfl) rfl ?_; refine vo_step (ok_pick rfl rfl rfl rfl) rfl ?_; refine vo_step (ok_move rfl rfl rfl) rfl ?_; refine vo_step (ok_skip rfl (blt_lt rfl) rfl) rfl ?_; refine vo_step (ok_pick rfl rfl rfl rfl) rfl ?_; refine vo_step (ok_pick rfl rfl rfl rfl) rfl ?_; refine vo_nil ?_; refine N_seq ?_; refine V_false rfl ?_; refine V_skip ?_; refine N_block ?_; refine N_seq ?_; refine V_region (id := 5) ?_; refine vo_step (ok_move rfl rfl rfl) rfl ?_; refine vo_step (ok_add rfl rfl rfl rfl (wrap_i64 (by omega) (by omega))) rfl ?_; refine vo_step (ok_assign rfl rfl rfl) rfl ?_; refine vo_nil ?_
        exact N_round (x := (i, r)) (i + 1, r) ⟨hlt, by dsimp only; omega, hf.symm⟩ (by dsimp only; omega) ⟨rfl, rfl, rfl, rfl, rfl, rfl, rfl, rfl, trivial⟩
      · have e2 : (if t ∈ y then 1 else 0 : Int) = 0 := if_neg h2
        have hp : (pickT x y true false false) t = true := by simp [pickT, h1, h2]
        rw [hp, if_pos rfl] at hf
        refine V_seq ?_; refine V_seq ?_; refine V_region (id := 4) ?_; refine vo_step (ok_move rfl rfl rfl) rfl ?_; refine vo_step (ok_moves' rfl rfl rfl) rfl ?_; refine vo_step (ok_lenV L rfl rfl rfl rfl) rfl ?_; refine vo_step (ok_lss rfl rfl rfl rfl (decide_eq_true (by omega))) rfl ?_; refine vo_nil ?_; refine N_seq ?_; refine V_true rfl ?_; refine V_skip ?_; refine N_seq ?_; refine V_seq ?_; refine V_block ?_; refine V_seq ?_; refine V_regionD (id := 6) [] mixed (by kernel_rfl) ?_; refine par_step (ok_moves' rfl rfl rfl) rfl ?_; refine par_step (ok_moves' rfl rfl rfl) rfl ?_; refine par_step (ok_move rfl rfl rfl) rfl ?_; refine par_step (ok_indexV L _ rfl rfl rfl rfl rfl rfl rfl (by first | omega | decide) (by assumption)) rfl ?_; refine par_step (ok_loadPA L (vs := [_, _, _, _, _, _]) rfl rfl rfl rfl rfl ⟨_, rfl⟩) rfl ?_; refine par_step (ok_callx L rfl rfl (blt_lt rfl) rfl rfl rfl (fun u H hH _ _ v1 h3 => rin_ret (l := x) (by omega) e1 hH h3)) rfl ?_; refine par_step (ok_eql rfl rfl rfl rfl (decide_eq_true (by omega))) rfl ?_; refine par_step (ok_moves' rfl rfl rfl) rfl ?_; refine par_step (ok_moves' rfl rfl rfl) rfl ?_; refine par_step (ok_move rfl rfl rfl) rfl ?_; refine par_step (ok_indexV L _ rfl rfl rfl rfl rfl rfl rfl (by first | omega | decide) (by assumption)) rfl ?_; refine par_step (ok_loadPA L (vs := [_, _, _, _, _, _]) rfl rfl rfl rfl rfl ⟨_, rfl⟩) rfl ?_; refine par_step (ok_callx L rfl rfl (blt_lt rfl) rfl rfl rfl (fun u H hH _ _ v1 h3 => rin_ret (l := y) (by omega) e2 hH h3)) rfl ?_; refine par_step (ok_eql rfl rfl rfl rfl (decide_eq_false (by omega))) rfl ?_; refine par_step (ok_assign rfl rfl rfl) rfl ?_; refine par_step (ok_assign rfl rfl rfl) rfl ?_; refine par_nil ?_; refine N_seq ?_; refine V_seq ?_; refine V_region (id := 7) ?_; refine vo_step (ok_move rfl rfl rfl) rfl ?_; refine vo_step (ok_move rfl rfl rfl) rfl ?_; refine vo_step (ok_move rfl rfl rfl) rfl ?_; refine vo_step (ok_not rfl rfl rfl rfl) rfl ?_; refine vo_step (ok_pick rfl rfl rfl rfl) rfl ?_; refine vo_step (ok_move rfl rfl rfl) rfl ?_; refine vo_step (ok_move rfl rfl rfl) rfl ?_; refine vo_step (ok_pick rfl rfl rfl rfl) rfl ?_; refine vo_step (ok_move rfl rfl rfl) rfl ?_; refine vo_step (ok_skip rfl (blt_lt rfl) rfl) rfl ?_; refine vo_step (ok_skip rfl (blt_lt rfl) rfl) rfl ?_; refine vo_step (ok_skip rfl (blt_lt rfl) rfl) rfl ?_; refine vo_step (ok_skip rfl (blt_lt rfl) rfl) rfl ?_; refine vo_step (ok_skip rfl (blt_lt rfl) rfl) rfl ?_; refine vo_step (ok_skip rfl (blt_lt rfl) rfl) rfl ?_; refine vo_step (ok_skip rfl (blt_lt rfl) rfl) rfl ?_; refine vo_step (ok_pick rfl rfl rfl rfl) rfl ?_; refine vo_step (ok_move rfl rfl rfl) rfl ?_; refine vo_step (ok_skip rfl (blt_lt rfl) rfl) rfl ?_; refine vo_step (ok_skip rfl (blt_lt rfl) rfl) rfl ?_; refine vo_step (ok_skip rfl (blt_lt rfl) rfl) rfl ?_; refine vo_step (ok_skip rfl (blt_lt rfl) rfl) rfl ?_; refine vo_step (ok_skip rfl (blt_lt rfl) rfl) rfl ?_; refine vo_step (ok_skip rfl (blt_lt rfl) rfl) rfl ?_; refine vo_step (ok_skip rfl (blt_lt rfl) rfl) rfl ?_; refine vo_step (ok_skip rfl (blt_lt rfl) rfl) rfl ?_; refine vo_step (ok_pick rfl rfl rfl rfl) rfl ?_; refine vo_nil ?_; refine N_seq ?_; refine V_true rfl ?_; refine V_region (id := 8) ?_; refine vo_step2 (ok_moveO (.inl rfl) rfl rfl rfl rfl) ?_; refine vo_step (ok_moves' rfl rfl rfl) rfl ?_; refine vo_step (ok_move rfl rfl rfl) rfl ?_; refine vo_step (ok_indexV L _ rfl rfl rfl rfl rfl rfl rfl (by first | omega | decide) (by assumption)) rfl ?_; refine vo_step (ok_loadPA L (vs := [_, _, _, _, _, _]) rfl rfl rfl rfl rfl ⟨_, rfl⟩) rfl ?_; refine vo_step (ok_buildSlice L rfl rfl rfl rfl rfl rfl rfl rfl rfl) rfl ?_; refine vo_step2 (ok_append L rfl rfl rfl (apd_B rfl) rfl el81 rfl rfl (by omega) (by omega)) ?_; refine vo_step2 (ok_moveO (.inr rfl) rfl rfl rfl rfl) ?_; refine vo_nil ?_; refine N_block ?_; refine N_seq ?_; refine V_region (id := 5) ?_; refine vo_step (ok_move rfl rfl rfl) rfl ?_; refine vo_step (ok_add rfl rfl rfl rfl (wrap_i64 (by omega) (by omega))) rfl ?_; refine vo_step (ok_assign rfl rfl rfl) rfl ?_; refine vo_nil ?_
        exact N_round (x := (i, r)) (i + 1, r ++ [t]) ⟨hlt, by dsimp only; rw [List.length_append, List.length_singleton]; omega, hf.symm⟩ (by dsimp only; omega) ⟨rfl, rfl, rfl, rfl, rfl, ups_snoc rfl, rfl, rfl, trivial⟩
    · have e1 : (if t ∈ x then 1 else 0 : Int) = 0 := if_neg h1
      by_cases h2 : t ∈ y
      · have e2 : (if t ∈ y then 1 else 0 : Int) = 1 := if_pos h2
        have hp : (pickT x y true false false) t = false := by simp [pickT, h1, h2]
        rw [hp, if_neg (by decide)] at hf
        refine V_seq ?_; refine V_seq ?_; refine V_region (id := 4) ?_; refine vo_step (ok_move rfl rfl rfl) rfl ?_; refine vo_step (ok_moves' rfl rfl rfl) rfl ?_; refine vo_step (ok_lenV L rfl rfl rfl rfl) rfl ?_; refine vo_step (ok_lss rfl rfl rfl rfl (decide_eq_true (by omega))) rfl ?_; refine vo_nil ?_; refine N_seq ?_; refine V_true rfl ?_; refine V_skip ?_; refine N_seq ?_; refine V_seq ?_; refine V_block ?_; refine V_seq ?_; refine V_regionD (id := 6) [] mixed (by kernel_rfl) ?_; refine par_step (ok_moves' rfl rfl rfl) rfl ?_; refine par_step (ok_moves' rfl rfl rfl) rfl ?_; refine par_step (ok_move rfl rfl rfl) rfl ?_; refine par_step (ok_indexV L _ rfl rfl rfl rfl rfl rfl rfl (by first | omega | decide) (by assumption)) rfl ?_; refine par_step (ok_loadPA L (vs := [_, _, _, _, _, _]) rfl rfl rfl rfl rfl ⟨_, rfl⟩) rfl ?_; refine par_step (ok_callx L rfl rfl (blt_lt rfl) rfl rfl rfl (fun u H hH _ _ v1 h3 => rin_ret (l := x) (by omega) e1 hH h3)) rfl ?_; refine par_step (ok_eql rfl rfl rfl rfl (decide_eq_false (by omega))) rfl ?_; refine par_step (ok_moves' rfl rfl rfl) rfl ?_; refine par_step (ok_moves' rfl rfl rfl) rfl ?_; refine par_step (ok_move rfl rfl rfl) rfl ?_; refine par_step (ok_indexV L _ rfl rfl rfl rfl rfl rfl rfl (by first | omega | decide) (by assumption)) rfl ?_; refine par_step (ok_loadPA L (vs := [_, _, _, _, _, _]) rfl rfl rfl rfl rfl ⟨_, rfl⟩) rfl ?_; refine par_step (ok_callx L rfl rfl (blt_lt rfl) rfl rfl rfl (fun u H hH _ _ v1 h3 => rin_ret (l := y) (by omega) e2 hH h3)) rfl ?_; refine par_step (ok_eql rfl rfl rfl rfl (decide_eq_true (by omega))) rfl ?_; refine par_step (ok_assign rfl rfl rfl) rfl ?_; refine par_step (ok_assign rfl rfl rfl) rfl ?_; refine par_nil ?_; refine N_seq ?_; refine V_seq ?_; refine V_region (id := 7) ?_; refine vo_step (ok_move rfl rfl rfl) rfl ?_; refine vo_step (ok_move rfl rfl rfl) rfl ?_; refine vo_step (ok_skip rfl (blt_lt rfl) rfl) rfl ?_; refine vo_step (ok_skip rfl (blt_lt rfl) rfl) rfl ?_; refine vo_step (ok_pick rfl rfl rfl rfl) rfl ?_; refine vo_step (ok_move rfl rfl rfl) rfl ?_; refine vo_step (ok_skip rfl (blt_lt rfl) rfl) rfl ?_; refine vo_step (ok_pick rfl rfl rfl rfl) rfl ?_; refine vo_step (ok_move rfl rfl rfl) rfl ?_; refine vo_step (ok_move rfl rfl rfl) rfl ?_; refine vo_step (ok_move rfl rfl rfl) rfl ?_; refine vo_step (ok_skip rfl (blt_lt rfl) rfl) rfl ?_; refine vo_step (ok_pick rfl rfl rfl rfl) rfl ?_; refine vo_step (ok_move rfl rfl rfl) rfl ?_; refine vo_step (ok_skip rfl (blt_lt rfl) rfl) rfl ?_; refine vo_step (ok_pick rfl rfl rfl rfl) rfl ?_; refine vo_step (ok_pick rfl rfl rfl rfl) rfl ?_; refine vo_step (ok_move rfl rfl rfl) rfl ?_; refine vo_step (ok_move rfl rfl rfl) rfl ?_; refine vo_step (ok_not rfl rfl rfl rfl) rfl ?_; refine vo_step (ok_move rfl rfl rfl) rfl ?_; refine vo_step (ok_move rfl rfl rfl) rfl ?_; refine vo_step (ok_pick rfl rfl rfl rfl) rfl ?_; refine vo_step (ok_move rfl rfl rfl) rfl ?_; refine vo_step (ok_move rfl rfl rfl) rfl ?_; refine vo_step (ok_pick rfl rfl rfl rfl) rfl ?_; refine vo_step (ok_pick rfl rfl rfl rfl) rfl ?_; refine vo_nil ?_; refine N_seq ?_; refine V_false rfl ?_; refine V_skip ?_; refine N_block ?_; refine N_seq ?_; refine V_region (id := 5) ?_; refine vo_step (ok_move rfl rfl rfl) rfl ?_; refine vo_step (ok_add rfl rfl rfl rfl (wrap_i64 (by omega) (by omega))) rfl ?_; refine vo_step (ok_assign rfl rfl rfl) rfl ?_; refine vo_nil ?_
        exact N_round (x := (i, r)) (i + 1, r) ⟨hlt, by dsimp only; omega, hf.symm⟩ (by dsimp only; omega) ⟨rfl, rfl, rfl, rfl, rfl, rfl, rfl, rfl, trivial⟩
      · have e2 : (if t ∈ y then 1 else 0 : Int) = 0 := if_neg h2
        have hp : (pickT x y true false false) t = false := by simp [pickT, h1, h2]
        rw [hp, if_neg (by decide)] at hf
        refine V_seq ?_; refine V_seq ?_; refine V_region (id := 4) ?_; refine vo_step (ok_move rfl rfl rfl) rfl ?_; refine vo_step (ok_moves' rfl rfl rfl) rfl ?_; refine vo_step (ok_lenV L rfl rfl rfl rfl) rfl ?_; refine vo_step (ok_lss rfl rfl rfl rfl (decide_eq_true (by omega))) rfl ?_; refine vo_nil ?_; refine N_seq ?_; refine V_true rfl ?_; refine V_skip ?_; refine N_seq ?_; refine V_seq ?_; refine V_block ?_; refine V_seq ?_; refine V_regionD (id := 6) [] mixed (by kernel_rfl) ?_; refine par_step (ok_moves' rfl rfl rfl) rfl ?_; refine par_step (ok_moves' rfl rfl rfl) rfl ?_; refine par_step (ok_move rfl rfl rfl) rfl ?_; refine par_step (ok_indexV L _ rfl rfl rfl rfl rfl rfl rfl (by first | omega | decide) (by assumption)) rfl ?_; refine par_step (ok_loadPA L (vs := [_, _, _, _, _, _]) rfl rfl rfl rfl rfl ⟨_, rfl⟩) rfl ?_; refine par_step (ok_callx L rfl rfl (blt_lt rfl) rfl rfl rfl (fun u H hH _ _ v1 h3 => rin_ret (l := x) (by omega) e1 hH h3)) rfl ?_; refine par_step (ok_eql rfl rfl rfl rfl (decide_eq_false (by omega))) rfl ?_; refine par_step (ok_moves' rfl rfl rfl) rfl ?_; refine par_step (ok_moves' rfl rfl rfl) rfl ?_; refine par_step (ok_move rfl rfl rfl) rfl ?_; refine par_step (ok_indexV L _ rfl rfl rfl rfl rfl rfl rfl (by first | omega | decide) (by assumption)) rfl ?_; refine par_step (ok_loadPA L (vs := [_, _, _, _, _, _]) rfl rfl rfl rfl rfl ⟨_, rfl⟩) rfl ?_; refine par_step (ok_callx L rfl rfl (blt_lt rfl) rfl rfl rfl (fun u H hH _ _ v1 h3 => rin_ret (l := y) (by omega) e2 hH h3)) rfl ?_; refine par_step (ok_eql rfl rfl rfl rfl (decide_eq_false (by omega))) rfl ?_; refine par_step (ok_assign rfl rfl rfl) rfl ?_; refine par_step (ok_assign rfl rfl rfl) rfl ?_; refine par_nil ?_; refine N_seq ?_; refine V_seq ?_; refine V_region (id := 7) ?_; refine vo_step (ok_move rfl rfl rfl) rfl ?_; refine vo_step (ok_move rfl rfl rfl) rfl ?_; refine vo_step (ok_skip rfl (blt_lt rfl) rfl) rfl ?_; refine vo_step (ok_skip rfl (blt_lt rfl) rfl) rfl ?_; refine vo_step (ok_pick rfl rfl rfl rfl) rfl ?_; refine vo_step (ok_move rfl rfl rfl) rfl ?_; refine vo_step (ok_skip rfl (blt_lt rfl) rfl) rfl ?_; refine vo_step (ok_pick rfl rfl rfl rfl) rfl ?_; refine vo_step (ok_move rfl rfl rfl) rfl ?_; refine vo_step (ok_move rfl rfl rfl) rfl ?_; refine vo_step (ok_move rfl rfl rfl) rfl ?_; refine vo_step (ok_skip rfl (blt_lt rfl) rfl) rfl ?_; refine vo_step (ok_pick rfl rfl rfl rfl) rfl ?_; refine vo_step (ok_move rfl rfl rfl) rfl ?_; refine vo_step (ok_skip rfl (blt_lt rfl) rfl) rfl ?_; refine vo_step (ok_pick rfl rfl rfl rfl) rfl ?_; refine vo_step (ok_pick rfl rfl rfl rfl) rfl ?_; refine vo_step (ok_move rfl rfl rfl) rfl ?_; refine vo_step (ok_move rfl rfl rfl) rfl ?_; refine vo_step (ok_not rfl rfl rfl rfl) rfl ?_; refine vo_step (ok_move rfl rfl rfl) rfl ?_; refine vo_step (ok_move rfl rfl rfl) rfl ?_; refine vo_step (ok_pick rfl rfl rfl rfl) rfl ?_; refine vo_step (ok_move rfl rfl rfl) rfl ?_; refine vo_step (ok_skip rfl (blt_lt rfl) rfl) rfl ?_; refine vo_step (ok_pick rfl rfl rfl rfl) rfl ?_; refine vo_step (ok_pick rfl rfl rfl rfl) rfl ?_; refine vo_nil ?_; refine N_seq ?_; refine V_false rfl ?_; refine V_skip ?_; refine N_block ?_; refine N_seq ?_; refine V_region (id := 5) ?_; refine vo_step (ok_move rfl rfl rfl) rfl ?_; refine vo_step (ok_add rfl rfl rfl rfl (wrap_i64 (by omega) (by omega))) rfl ?_; refine vo_step (ok_assign rfl rfl rfl) rfl ?_; refine vo_nil ?_
        exact N_round (x := (i, r)) (i + 1, r) ⟨hlt, by dsimp only; omega, hf.symm⟩ (by dsimp only; omega) ⟨rfl, rfl, rfl, rfl, rfl, rfl, rfl, rfl, trivial⟩
  · obtain rfl : i = l.length := by omega
    rw [List.take_length] at hr
    have hzr : ∀ t ∈ r, TZ t := fun t h => hza t (List.mem_filter.1 (by rw [← hr]; exact h)).1
    rw [← hr]
    refine V_pubR 11 rfl ?_
    refine V_seq ?_; refine V_seq ?_; refine V_region (id := 4) ?_; refine vo_step (ok_move rfl rfl rfl) rfl ?_; refine vo_step (ok_moves' rfl rfl rfl) rfl ?_; refine vo_step (ok_lenV L rfl rfl rfl rfl) rfl ?_; refine vo_step (ok_lss rfl rfl rfl rfl (decide_eq_false (by omega))) rfl ?_; refine vo_nil ?_; refine N_seq ?_; refine V_false rfl ?_; refine V_exit ?_; refine X_then ?_; refine X_then ?_; refine X_here ?_; refine N_seq ?_; refine V_seq ?_; refine V_region (id := 9) ?_; refine vo_step (ok_moves' rfl rfl rfl) rfl ?_; refine vo_step (ok_call L rfl rfl (blt_lt rfl) rfl rfl rfl SlV.mono (fun u H hH _ _ v1 h3 => rsorted_ret (by omega) hzr hH h3)) rfl ?_; refine vo_step (ok_assigns' rfl rfl rfl) rfl ?_; refine vo_nil ?_; refine N_seq ?_
    refine V_ret L (rs := [.tmp 10]) rfl (fun _ _ h => h) Since.refl fun u H hH hle => ?_
    exact fun v hv => hv
end Go.V.L2
/- The walks of tuples (chapter 2): two sorted lists are merged. -/
namespace Go.V.L2
open Go.Proofs Go.RowKit Go.V
theorem tups2 {φ : Value → Heap → Prop} {a tv : Value} {H : Heap} (h : φ tv H) : TupS [φ, fun v _ => v = a] (.tuple #[tv, a]) H :=
  ⟨[tv, a], rfl, rfl, fun i ψ x hi hx => by
    rcases i with _ | _ | i
    · simp at hi hx; subst hi hx; exact h
    · simp at hi hx; subst hi hx; rfl
    · simp at hi⟩
theorem tups2_mono {φ : Value → Heap → Prop} {a : Value} (h : Kn.mono (.sat φ)) : Kn.mono (.sat (TupS [φ, fun v _ => v = a])) := TupS.mono fun ψ hψ => by
  rcases List.mem_cons.1 hψ with rfl | hψ
  · exact h
  · rw [List.mem_singleton] at hψ
    subst hψ
    exact fun _ _ _ h _ => h
theorem mrgS_length {α : Type} {c : α → α → Int} {f : Bool → Bool → Bool} : ∀ (n : Nat) (l m : List α), l.length + m.length ≤ n → (mrgS c f n l m).length ≤ l.length + m.length
  | 0, _, _, _ => by simp [mrgS]
  | n + 1, [], [], _ => by simp [mrgS]
  | n + 1, a :: l, [], h => by
    have := mrgS_length (c := c) (f := f) n l [] (by simp only [List.length_cons, List.length_nil] at h ⊢; omega)
    simp only [mrgS, List.length_append, List.length_cons, List.length_nil] at this ⊢
    split <;> simp only [List.length_cons, List.length_nil] <;> omega
  | n + 1, [], b :: m, h => by
    have := mrgS_length (c := c) (f := f) n [] m (by simp only [List.length_cons, List.length_nil] at h ⊢; omega)
    simp only [mrgS, List.length_append, List.length_cons, List.length_nil] at this ⊢
    split <;> simp only [List.length_cons, List.length_nil] <;> omega
  | n + 1, a :: l, b :: m, h => by
    simp only [List.length_cons] at h
    have h1 := mrgS_length (c := c) (f := f) n l (b :: m) (by simp only [List.length_cons]; omega)
    have h2 := mrgS_length (c := c) (f := f) n (a :: l) m (by simp only [List.length_cons]; omega)
    have h3 := mrgS_length (c := c) (f := f) n l m (by omega)
    simp only [List.length_cons] at h1 h2
    simp only [mrgS]
    split
    · rw [List.length_append]; split <;> simp only [List.length_cons, List.length_nil] <;> omega
    · split
      · rw [List.length_append]; split <;> simp only [List.length_cons, List.length_nil] <;> omega
      · rw [List.length_append]; split <;> simp only [List.length_cons, List.length_nil] <;> omega
/-- What merging answers. -/
def mrgR (f : Bool → Bool → Bool) (l m : List U) : List U × Int :=
  if 4096 < l.length ∨ 4096 < m.length then ([], 3) else if (isB l && isB m) = true then (mrgS cmpT f (l.length + m.length) l m, 0) else ([], 18)
/-- A list, and an error. -/
abbrev LE (r : List U × Int) : Value → Heap → Prop := TupS [US r.1 true, fun v _ => v = .int .i64 r.2]
theorem LE.mono {r : List U × Int} : Kn.mono (.sat (LE r)) := tups2_mono SlV.mono
theorem tail_cut (a : U) (l : List U) : (((a :: l).flatMap ucs).drop (1 * 6)).take (((a :: l).length - 1) * 6) = l.flatMap ucs := by
  rw [List.flatMap_cons, List.drop_left' (by rfl), List.length_cons, Nat.add_sub_cancel, List.take_of_length_le (Nat.le_of_eq (flatMap_len ucs_len l))]
theorem us_snoc {κ : Kap} {s : Nat} {out : List U} {t : U} (h : κ s = some (.own (SlR tyU 6 (out.length + 1) (out.flatMap ucs ++ [.string t.1.1.1, .string t.1.1.2, .string t.1.2, .string t.2.1.1, .string t.2.1.2, .string t.2.2])))) : κ s = some (.own (SlR tyU 6 (out ++ [t]).length ((out ++ [t]).flatMap ucs))) := by
  rw [h, List.flatMap_append, List.length_append]; simp [ucs]
attribute [local irreducible] V N X VO Par StepOK Has Ret RetL Src
set_option maxHeartbeats 4000000 in
theorem merge_ret {f : Bool → Bool → Bool} {tf : Nat} (hfn : L.fn tf = some ()) (hf : ∀ (p q : Bool) (u : World) (H : Heap), H.Le (hp u) → Ret Try.prog tf [.bool p, .bool q] u H (fun v _ => v = .bool (f p q))) {l m : List U} {fa fb : Bool}
    {r : List U × Int} (hr : mrgR f l m = r) {v v2 : Value} {w : World} {B : Heap} (hB : B.Le (hp w)) (hv : US l fa v B) (hv2 : US m fb v2 B) :
    Ret Try.prog 76 [v, v2, .func (.func tf) #[] #[]] w B (LE r) := by
  subst hr
  unfold mrgR
  refine V_enter Try.func76 rfl Try.ntmps76 (Nat.le_of_ble_eq_true rfl) hB ?_
  refine V_seen 0 (US l fa) rfl SlV.mono hv ?_
  refine V_seen 1 (US m fb) rfl SlV.mono hv2 ?_
  by_cases z1 : 4096 < l.length
  · rw [if_pos (.inl z1)]
    refine V_seq ?_; refine V_region (id := 0) ?_; refine vo_step (ok_assign rfl rfl rfl) rfl ?_; refine vo_step (ok_assign rfl rfl rfl) rfl ?_; refine vo_nil ?_; refine N_seq ?_; refine V_seq ?_; refine V_seq ?_; refine V_region (id := 1) ?_; refine vo_step (ok_moves' rfl rfl rfl) rfl ?_; refine vo_step (ok_lenV L rfl rfl rfl rfl) rfl ?_; refine vo_step (ok_gtr rfl rfl rfl rfl (decide_eq_true (by omega))) rfl ?_; refine vo_step (ok_move rfl rfl rfl) rfl ?_; refine vo_step (ok_skip rfl (blt_lt rfl) rfl) rfl ?_; refine vo_step (ok_skip rfl (blt_lt rfl) rfl) rfl ?_; refine vo_step (ok_skip rfl (blt_lt rfl) rfl) rfl ?_; refine vo_step (ok_pick rfl rfl rfl rfl) rfl ?_; refine vo_nil ?_; refine N_seq ?_; refine V_true rfl ?_; refine V_seq ?_; refine V_region (id := 2) ?_; refine vo_step (ok_assign rfl rfl rfl) rfl ?_; refine vo_step (ok_assign rfl rfl rfl) rfl ?_; refine vo_nil ?_; refine N_seq ?_
    refine V_ret L (rs := [.tmp 6, .tmp 7]) rfl (fun _ _ h => h) Since.refl fun u H hH hle => ?_
    exact tups2 SlV.nil
  · by_cases z2 : 4096 < m.length
    · rw [if_pos (.inr z2)]
      refine V_seq ?_; refine V_region (id := 0) ?_; refine vo_step (ok_assign rfl rfl rfl) rfl ?_; refine vo_step (ok_assign rfl rfl rfl) rfl ?_; refine vo_nil ?_; refine N_seq ?_; refine V_seq ?_; refine V_seq ?_; refine V_region (id := 1) ?_; refine vo_step (ok_moves' rfl rfl rfl) rfl ?_; refine vo_step (ok_lenV L rfl rfl rfl rfl) rfl ?_; refine vo_step (ok_gtr rfl rfl rfl rfl (decide_eq_false (by omega))) rfl ?_; refine vo_step (ok_move rfl rfl rfl) rfl ?_; refine vo_step (ok_moves' rfl rfl rfl) rfl ?_; refine vo_step (ok_lenV L rfl rfl rfl rfl) rfl ?_; refine vo_step (ok_gtr rfl rfl rfl rfl (decide_eq_true (by omega))) rfl ?_; refine vo_step (ok_pick rfl rfl rfl rfl) rfl ?_; refine vo_nil ?_; refine N_seq ?_; refine V_true rfl ?_; refine V_seq ?_; refine V_region (id := 2) ?_; refine vo_step (ok_assign rfl rfl rfl) rfl ?_; refine vo_step (ok_assign rfl rfl rfl) rfl ?_; refine vo_nil ?_; refine N_seq ?_
      refine V_ret L (rs := [.tmp 6, .tmp 7]) rfl (fun _ _ h => h) Since.refl fun u H hH hle => ?_
      exact tups2 SlV.nil
    · rw [if_neg (by omega)]
      cases h1 : isB l
      · rw [if_neg (by simp)]
        refine V_seq ?_; refine V_region (id := 0) ?_; refine vo_step (ok_assign rfl rfl rfl) rfl ?_; refine vo_step (ok_assign rfl rfl rfl) rfl ?_; refine vo_nil ?_; refine N_seq ?_; refine V_seq ?_; refine V_seq ?_; refine V_region (id := 1) ?_; refine vo_step (ok_moves' rfl rfl rfl) rfl ?_; refine vo_step (ok_lenV L rfl rfl rfl rfl) rfl ?_; refine vo_step (ok_gtr rfl rfl rfl rfl (decide_eq_false (by omega))) rfl ?_; refine vo_step (ok_move rfl rfl rfl) rfl ?_; refine vo_step (ok_moves' rfl rfl rfl) rfl ?_; refine vo_step (ok_lenV L rfl rfl rfl rfl) rfl ?_; refine vo_step (ok_gtr rfl rfl rfl rfl (decide_eq_false (by omega))) rfl ?_; refine vo_step (ok_pick rfl rfl rfl rfl) rfl ?_; refine vo_nil ?_; refine N_seq ?_; refine V_false rfl ?_; refine V_skip ?_; refine N_seq ?_; refine V_seq ?_; refine V_seq ?_; refine V_region (id := 3) ?_; refine vo_step (ok_moves' rfl rfl rfl) rfl ?_; refine vo_step (ok_callx L rfl rfl (blt_lt rfl) rfl rfl rfl (fun u H hH _ _ v1 hv1 => tis_ret (by omega) h1 hH hv1)) rfl ?_; refine vo_step (ok_not rfl rfl rfl rfl) rfl ?_; refine vo_step (ok_move rfl rfl rfl) rfl ?_; refine vo_step (ok_skip rfl (blt_lt rfl) rfl) rfl ?_; refine vo_step (ok_skip rfl (blt_lt rfl) rfl) rfl ?_; refine vo_step (ok_skip rfl (blt_lt rfl) rfl) rfl ?_; refine vo_step (ok_pick rfl rfl rfl rfl) rfl ?_; refine vo_nil ?_; refine N_seq ?_; refine V_true rfl ?_; refine V_seq ?_; refine V_region (id := 4) ?_; refine vo_step (ok_assign rfl rfl rfl) rfl ?_; refine vo_step (ok_assign rfl rfl rfl) rfl ?_; refine vo_nil ?_; refine N_seq ?_
        refine V_ret L (rs := [.tmp 6, .tmp 7]) rfl (fun _ _ h => h) Since.refl fun u H hH hle => ?_
        exact tups2 SlV.nil
      · cases h2 : isB m
        · rw [if_neg (by simp)]
          refine V_seq ?_; refine V_region (id := 0) ?_; refine vo_step (ok_assign rfl rfl rfl) rfl ?_; refine vo_step (ok_assign rfl rfl rfl) rfl ?_; refine vo_nil ?_; refine N_seq ?_; refine V_seq ?_; refine V_seq ?_; refine V_region (id := 1) ?_; refine vo_step (ok_moves' rfl rfl rfl) rfl ?_; refine vo_step (ok_lenV L rfl rfl rfl rfl) rfl ?_; refine vo_step (ok_gtr rfl rfl rfl rfl (decide_eq_false (by omega))) rfl ?_; refine vo_step (ok_move rfl rfl rfl) rfl ?_; refine vo_step (ok_moves' rfl rfl rfl) rfl ?_; refine vo_step (ok_lenV L rfl rfl rfl rfl) rfl ?_; refine vo_step (ok_gtr rfl rfl rfl rfl (decide_eq_false (by omega))) rfl ?_; refine vo_step (ok_pick rfl rfl rfl rfl) rfl ?_; refine vo_nil ?_; refine N_seq ?_; refine V_false rfl ?_; refine V_skip ?_; refine N_seq ?_; refine V_seq ?_; refine V_seq ?_; refine V_region (id := 3) ?_; refine vo_step (ok_moves' rfl rfl rfl) rfl ?_; refine vo_step (ok_callx L rfl rfl (blt_lt rfl) rfl rfl rfl (fun u H hH _ _ v1 hv1 => tis_ret (by omega) h1 hH hv1)) rfl ?_; refine vo_step (ok_not rfl rfl rfl rfl) rfl ?_; refine vo_step (ok_move rfl rfl rfl) rfl ?_; refine vo_step (ok_moves' rfl rfl rfl) rfl ?_; refine vo_step (ok_callx L rfl rfl (blt_lt rfl) rfl rfl rfl (fun u H hH _ _ v1 hv1 => tis_ret (by omega) h2 hH hv1)) rfl ?_; refine vo_step (ok_not rfl rfl rfl rfl) rfl ?_; refine vo_step (ok_pick rfl rfl rfl rfl) rfl ?_; refine vo_nil ?_; refine N_seq ?_; refine V_true rfl ?_; refine V_seq ?_; refine V_region (id := 4) ?_; refine vo_step (ok_assign rfl rfl rfl) rfl ?_; refine vo_step (ok_assign rfl rfl rfl) rfl ?_; refine vo_nil ?_; refine N_seq ?_
          refine V_ret L (rs := [.tmp 6, .tmp 7]) rfl (fun _ _ h => h) Since.refl fun u H hH hle => ?_
          exact tups2 SlV.nil
        · rw [if_pos (by rfl)]
          refine V_seq ?_; refine V_region (id := 0) ?_; refine vo_step (ok_assign rfl rfl rfl) rfl ?_; refine vo_step (ok_assign rfl rfl rfl) rfl ?_; refine vo_nil ?_; refine N_seq ?_; refine V_seq ?_; refine V_seq ?_; refine V_region (id := 1) ?_; refine vo_step (ok_moves' rfl rfl rfl) rfl ?_; refine vo_step (ok_lenV L rfl rfl rfl rfl) rfl ?_; refine vo_step (ok_gtr rfl rfl rfl rfl (decide_eq_false (by omega))) rfl ?_; refine vo_step (ok_move rfl rfl rfl) rfl ?_; refine vo_step (ok_moves' rfl rfl rfl) rfl ?_; refine vo_step (ok_lenV L rfl rfl rfl rfl) rfl ?_; refine vo_step (ok_gtr rfl rfl rfl rfl (decide_eq_false (by omega))) rfl ?_; refine vo_step (ok_pick rfl rfl rfl rfl) rfl ?_; refine vo_nil ?_; refine N_seq ?_; refine V_false rfl ?_; refine V_skip ?_; refine N_seq ?_; refine V_seq ?_; refine V_seq ?_; refine V_region (id := 3) ?_; refine vo_step (ok_moves' rfl rfl rfl) rfl ?_; refine vo_step (ok_callx L rfl rfl (blt_lt rfl) rfl rfl rfl (fun u H hH _ _ v1 hv1 => tis_ret (by omega) h1 hH hv1)) rfl ?_; refine vo_step (ok_not rfl rfl rfl rfl) rfl ?_; refine vo_step (ok_move rfl rfl rfl) rfl ?_; refine vo_step (ok_moves' rfl rfl rfl) rfl ?_; refine vo_step (ok_callx L rfl rfl (blt_lt rfl) rfl rfl rfl (fun u H hH _ _ v1 hv1 => tis_ret (by omega) h2 hH hv1)) rfl ?_; refine vo_step (ok_not rfl rfl rfl rfl) rfl ?_; refine vo_step (ok_pick rfl rfl rfl rfl) rfl ?_; refine vo_nil ?_; refine N_seq ?_; refine V_false rfl ?_; refine V_skip ?_; refine N_seq ?_; refine V_seq ?_; refine V_region (id := 5) ?_; refine vo_step (ok_assign rfl rfl rfl) rfl ?_; refine vo_nil ?_; refine N_seq ?_; refine V_seq ?_; refine V_block ?_
          refine V_imp 0 (US l false) rfl SlV.mono (fun _ _ h => h.nofu) ?_
          refine V_imp 1 (US m false) rfl SlV.mono (fun _ _ h => h.nofu) ?_
          refine V_nilR 8 tyU 6 rfl ?_
          refine V_loop (fun s : Nat × List U × List U × List U => [(0, .sat (US s.2.1 false)), (1, .sat (US s.2.2.1 false)), (2, .is (.func (.func tf) #[] #[])), (8, .own (SlR tyU 6 s.2.2.2.length (s.2.2.2.flatMap ucs)))])
            (fun s => s.2.1.length + s.2.2.1.length ≤ s.1 ∧ s.2.2.2 ++ mrgS cmpT f s.1 s.2.1 s.2.2.1 = mrgS cmpT f (l.length + m.length) l m ∧ s.2.2.2.length + s.2.1.length + s.2.2.1.length ≤ 8192) (fun s => s.1) (l.length + m.length, l, m, []) ⟨Nat.le_refl _, rfl, by simp only [List.length_nil]; omega⟩ ⟨rfl, rfl, rfl, rfl, trivial⟩ ?_
          generalize mrgS cmpT f (l.length + m.length) l m = R
          clear h1 h2 z1 z2 hv hv2
          rintro ⟨n, x, y, out⟩ ⟨hn, hR, hz⟩
          dsimp only at hn hR hz ⊢
          rcases x with _ | ⟨a, x⟩
          · rcases y with _ | ⟨b, y⟩
            · have hR : out = R := by rw [← hR]; cases n <;> simp [mrgS]
              subst hR
              have l0 : ([] : List U).length = 0 := rfl
              refine V_seq ?_; refine V_seq ?_; refine V_region (id := 6) ?_; refine vo_step (ok_moves' rfl rfl rfl) rfl ?_; refine vo_step (ok_lenV L rfl rfl rfl rfl) rfl ?_; refine vo_step (ok_gtr rfl rfl rfl rfl (decide_eq_false (by omega))) rfl ?_; refine vo_step (ok_move rfl rfl rfl) rfl ?_; refine vo_step (ok_moves' rfl rfl rfl) rfl ?_; refine vo_step (ok_lenV L rfl rfl rfl rfl) rfl ?_; refine vo_step (ok_gtr rfl rfl rfl rfl (decide_eq_false (by omega))) rfl ?_; refine vo_step (ok_pick rfl rfl rfl rfl) rfl ?_; refine vo_nil ?_; refine N_seq ?_; refine V_false rfl ?_; refine V_exit ?_; refine X_then ?_; refine X_then ?_; refine X_here ?_; refine N_seq ?_; refine V_seq ?_
              refine V_pubR 8 rfl ?_
              refine V_region (id := 22) ?_; refine vo_step (ok_moves' rfl rfl rfl) rfl ?_; refine vo_step (ok_moves' rfl rfl rfl) rfl ?_; refine vo_step (ok_lenV L rfl rfl rfl rfl) rfl ?_; refine vo_step (ok_moves' rfl rfl rfl) rfl ?_; refine vo_step (ok_lenV L rfl rfl rfl rfl) rfl ?_; refine vo_step (ok_clipV L rfl rfl rfl rfl rfl rfl rfl) rfl ?_; refine vo_step (ok_assigns' rfl rfl rfl) rfl ?_; refine vo_step (ok_assign rfl rfl rfl) rfl ?_; refine vo_nil ?_; refine N_seq ?_
              refine V_ret L (rs := [.tmp 6, .tmp 7]) rfl (fun _ _ h => h) Since.refl fun u H hH hle => ?_
              exact fun v hv => tups2 hv
            · have l0 : ([] : List U).length = 0 := rfl
              have lb : (b :: y).length = y.length + 1 := rfl
              have hb := us_at (l := b :: y) (i := 0) (t := b) rfl
              have tb := tail_cut b y
              rcases n with _ | n
              · simp only [List.length_cons, List.length_nil] at hn; omega
              cases hft : f false true
              · have hR : out ++ mrgS cmpT f n [] y = R := by rw [← hR]; simp [mrgS, hft]
                have hfv : ∀ (u : World) (H : Heap), H.Le (hp u) → Ret Try.prog tf [.bool false, .bool true] u H (fun v _ => v = .bool false) := fun u H h => by have := hf false true u H h; rwa [hft] at this
                refine V_seq ?_; refine V_seq ?_; refine V_region (id := 6) ?_; refine vo_step (ok_moves' rfl rfl rfl) rfl ?_; refine vo_step (ok_lenV L rfl rfl rfl rfl) rfl ?_; refine vo_step (ok_gtr rfl rfl rfl rfl (decide_eq_false (by omega))) rfl ?_; refine vo_step (ok_move rfl rfl rfl) rfl ?_; refine vo_step (ok_moves' rfl rfl rfl) rfl ?_; refine vo_step (ok_lenV L rfl rfl rfl rfl) rfl ?_; refine vo_step (ok_gtr rfl rfl rfl rfl (decide_eq_true (by omega))) rfl ?_; refine vo_step (ok_pick rfl rfl rfl rfl) rfl ?_; refine vo_nil ?_; refine N_seq ?_; refine V_true rfl ?_; refine V_skip ?_; refine N_seq ?_; refine V_block ?_; refine V_seq ?_; refine V_region (id := 7) ?_; refine vo_step (ok_assign rfl rfl rfl) rfl ?_; refine vo_nil ?_; refine N_seq ?_; refine V_seq ?_; refine V_block ?_; refine V_seq ?_; refine V_region (id := 9) ?_; refine vo_step (ok_moves' rfl rfl rfl) rfl ?_; refine vo_step (ok_lenV L rfl rfl rfl rfl) rfl ?_; refine vo_step (ok_eql rfl rfl rfl rfl (decide_eq_true (by omega))) rfl ?_; refine vo_step (ok_assign rfl rfl rfl) rfl ?_; refine vo_nil ?_; refine N_seq ?_; refine V_true rfl ?_; refine V_region (id := 10) ?_; refine vo_step (ok_assign rfl rfl rfl) rfl ?_; refine vo_nil ?_; refine N_block ?_; refine N_seq ?_; refine V_seq ?_; refine V_region (id := 13) ?_; refine vo_step (ok_build (cs := [_, _, _, _, _, _]) rfl rfl pl81 rfl rfl) rfl ?_; refine vo_step (ok_alloc L rfl rfl rfl rfl) rfl ?_; refine vo_step (ok_store L rfl rfl rfl rfl rfl rfl rfl rfl) rfl ?_; refine vo_nil ?_; refine N_seq ?_; refine V_seq ?_; refine V_seq ?_; refine V_region (id := 14) ?_; refine vo_step (ok_move rfl rfl rfl) rfl ?_; refine vo_step (ok_gtr rfl rfl rfl rfl (decide_eq_true (by omega))) rfl ?_; refine vo_nil ?_; refine N_seq ?_; refine V_true rfl ?_; refine V_region (id := 15) ?_; refine vo_step (ok_moves' rfl rfl rfl) rfl ?_; refine vo_step (ok_indexV L 0 rfl rfl rfl rfl rfl rfl rfl (by first | omega | decide) (by assumption)) rfl ?_; refine vo_step (ok_loadPA L (vs := [_, _, _, _, _, _]) rfl rfl rfl rfl rfl ⟨_, rfl⟩) rfl ?_; refine vo_step (ok_store L rfl rfl rfl rfl rfl rfl rfl rfl) rfl ?_; refine vo_nil ?_; refine N_seq ?_; refine V_seq ?_; refine V_seq ?_; refine V_region (id := 18) ?_; refine vo_step (ok_move rfl rfl rfl) rfl ?_; refine vo_step (ok_geq rfl rfl rfl rfl (decide_eq_true (by omega))) rfl ?_; refine vo_nil ?_; refine N_seq ?_; refine V_true rfl ?_; refine V_region (id := 19) ?_; refine vo_step (ok_moves' rfl rfl rfl) rfl ?_; refine vo_step (ok_sliceV L (kh := .i64) (ph := 0) (km := .i64) (pm := 0) 1 _ false rfl rfl rfl rfl rfl ⟨rfl, rfl⟩ ⟨rfl, rfl⟩ (fun h => by cases h) (by omega) (by omega) (by assumption)) rfl ?_; refine vo_step (ok_assigns' rfl rfl rfl) rfl ?_; refine vo_nil ?_; refine N_seq ?_; refine V_seq ?_; refine V_region (id := 20) ?_; refine vo_step (ok_move rfl rfl rfl) rfl ?_; refine vo_step (ok_move rfl rfl rfl) rfl ?_; refine vo_step (ok_leq rfl rfl rfl rfl (decide_eq_false (by omega))) rfl ?_; refine vo_step (ok_move rfl rfl rfl) rfl ?_; refine vo_step (ok_geq rfl rfl rfl rfl (decide_eq_true (by omega))) rfl ?_; refine vo_step (ok_callx L rfl rfl (blt_lt rfl) rfl rfl hfn (fun u H hH _ _ => hfv u H hH)) rfl ?_; refine vo_nil ?_; refine N_seq ?_; refine V_false rfl ?_; refine V_skip ?_; refine N_block ?_
                exact N_round (x := (n + 1, [], b :: y, out)) (n, [], y, out) ⟨by simp only [List.length_cons, List.length_nil] at hn ⊢; omega, hR, by simp only [List.length_cons, List.length_nil, List.length_append] at hz ⊢; omega⟩ (by dsimp only; omega) ⟨rfl, rfl, rfl, rfl, trivial⟩
              · have hR : out ++ [b] ++ mrgS cmpT f n [] y = R := by rw [← hR]; simp [mrgS, hft]
                have hfv : ∀ (u : World) (H : Heap), H.Le (hp u) → Ret Try.prog tf [.bool false, .bool true] u H (fun v _ => v = .bool true) := fun u H h => by have := hf false true u H h; rwa [hft] at this
                refine V_seq ?_; refine V_seq ?_; refine V_region (id := 6) ?_; refine vo_step (ok_moves' rfl rfl rfl) rfl ?_; refine vo_step (ok_lenV L rfl rfl rfl rfl) rfl ?_; refine vo_step (ok_gtr rfl rfl rfl rfl (decide_eq_false (by omega))) rfl ?_; refine vo_step (ok_move rfl rfl rfl) rfl ?_; refine vo_step (ok_moves' rfl rfl rfl) rfl ?_; refine vo_step (ok_lenV L rfl rfl rfl rfl) rfl ?_; refine vo_step (ok_gtr rfl rfl rfl rfl (decide_eq_true (by omega))) rfl ?_; refine vo_step (ok_pick rfl rfl rfl rfl) rfl ?_; refine vo_nil ?_; refine N_seq ?_; refine V_true rfl ?_; refine V_skip ?_; refine N_seq ?_; refine V_block ?_; refine V_seq ?_; refine V_region (id := 7) ?_; refine vo_step (ok_assign rfl rfl rfl) rfl ?_; refine vo_nil ?_; refine N_seq ?_; refine V_seq ?_; refine V_block ?_; refine V_seq ?_; refine V_region (id := 9) ?_; refine vo_step (ok_moves' rfl rfl rfl) rfl ?_; refine vo_step (ok_lenV L rfl rfl rfl rfl) rfl ?_; refine vo_step (ok_eql rfl rfl rfl rfl (decide_eq_true (by omega))) rfl ?_; refine vo_step (ok_assign rfl rfl rfl) rfl ?_; refine vo_nil ?_; refine N_seq ?_; refine V_true rfl ?_; refine V_region (id := 10) ?_; refine vo_step (ok_assign rfl rfl rfl) rfl ?_; refine vo_nil ?_; refine N_block ?_; refine N_seq ?_; refine V_seq ?_; refine V_region (id := 13) ?_; refine vo_step (ok_build (cs := [_, _, _, _, _, _]) rfl rfl pl81 rfl rfl) rfl ?_; refine vo_step (ok_alloc L rfl rfl rfl rfl) rfl ?_; refine vo_step (ok_store L rfl rfl rfl rfl rfl rfl rfl rfl) rfl ?_; refine vo_nil ?_; refine N_seq ?_; refine V_seq ?_; refine V_seq ?_; refine V_region (id := 14) ?_; refine vo_step (ok_move rfl rfl rfl) rfl ?_; refine vo_step (ok_gtr rfl rfl rfl rfl (decide_eq_true (by omega))) rfl ?_; refine vo_nil ?_; refine N_seq ?_; refine V_true rfl ?_; refine V_region (id := 15) ?_; refine vo_step (ok_moves' rfl rfl rfl) rfl ?_; refine vo_step (ok_indexV L 0 rfl rfl rfl rfl rfl rfl rfl (by first | omega | decide) (by assumption)) rfl ?_; refine vo_step (ok_loadPA L (vs := [_, _, _, _, _, _]) rfl rfl rfl rfl rfl ⟨_, rfl⟩) rfl ?_; refine vo_step (ok_store L rfl rfl rfl rfl rfl rfl rfl rfl) rfl ?_; refine vo_nil ?_; refine N_seq ?_; refine V_seq ?_; refine V_seq ?_; refine V_region (id := 18) ?_; refine vo_step (ok_move rfl rfl rfl) rfl ?_; refine vo_step (ok_geq rfl rfl rfl rfl (decide_eq_true (by omega))) rfl ?_; refine vo_nil ?_; refine N_seq ?_; refine V_true rfl ?_; refine V_region (id := 19) ?_; refine vo_step (ok_moves' rfl rfl rfl) rfl ?_; refine vo_step (ok_sliceV L (kh := .i64) (ph := 0) (km := .i64) (pm := 0) 1 _ false rfl rfl rfl rfl rfl ⟨rfl, rfl⟩ ⟨rfl, rfl⟩ (fun h => by cases h) (by omega) (by omega) (by assumption)) rfl ?_; refine vo_step (ok_assigns' rfl rfl rfl) rfl ?_; refine vo_nil ?_; refine N_seq ?_; refine V_seq ?_; refine V_region (id := 20) ?_; refine vo_step (ok_move rfl rfl rfl) rfl ?_; refine vo_step (ok_move rfl rfl rfl) rfl ?_; refine vo_step (ok_leq rfl rfl rfl rfl (decide_eq_false (by omega))) rfl ?_; refine vo_step (ok_move rfl rfl rfl) rfl ?_; refine vo_step (ok_geq rfl rfl rfl rfl (decide_eq_true (by omega))) rfl ?_; refine vo_step (ok_callx L rfl rfl (blt_lt rfl) rfl rfl hfn (fun u H hH _ _ => hfv u H hH)) rfl ?_; refine vo_nil ?_; refine N_seq ?_; refine V_true rfl ?_; refine V_region (id := 21) ?_; refine vo_step2 (ok_moveO (.inl rfl) rfl rfl rfl rfl) ?_; refine vo_step (ok_loadA L (vs := [_, _, _, _, _, _]) (src_own rfl) rfl rfl rfl rfl ⟨_, rfl⟩) rfl ?_; refine vo_step (ok_buildSlice L rfl rfl rfl rfl rfl rfl rfl rfl rfl) rfl ?_; refine vo_step2 (ok_append L rfl rfl rfl (apd_B rfl) rfl el81 rfl rfl (by omega) (by omega)) ?_; refine vo_step2 (ok_moveO (.inr rfl) rfl rfl rfl rfl) ?_; refine vo_nil ?_; refine N_block ?_
                exact N_round (x := (n + 1, [], b :: y, out)) (n, [], y, out ++ [b]) ⟨by simp only [List.length_cons, List.length_nil] at hn ⊢; omega, hR, by simp only [List.length_cons, List.length_nil, List.length_append] at hz ⊢; omega⟩ (by dsimp only; omega) ⟨rfl, rfl, rfl, us_snoc rfl, trivial⟩
          · have la : (a :: x).length = x.length + 1 := rfl
            have ha := us_at (l := a :: x) (i := 0) (t := a) rfl
            have ta := tail_cut a x
            rcases y with _ | ⟨b, y⟩
            · have l0 : ([] : List U).length = 0 := rfl
              rcases n with _ | n
              · simp only [List.length_cons, List.length_nil] at hn; omega
              cases hft : f true false
              · have hR : out ++ mrgS cmpT f n x [] = R := by rw [← hR]; simp [mrgS, hft]
                have hfv : ∀ (u : World) (H : Heap), H.Le (hp u) → Ret Try.prog tf [.bool true, .bool false] u H (fun v _ => v = .bool false) := fun u H h => by have := hf true false u H h; rwa [hft] at this
                refine V_seq ?_; refine V_seq ?_; refine V_region (id := 6) ?_; refine vo_step (ok_moves' rfl rfl rfl) rfl ?_; refine vo_step (ok_lenV L rfl rfl rfl rfl) rfl ?_; refine vo_step (ok_gtr rfl rfl rfl rfl (decide_eq_true (by omega))) rfl ?_; refine vo_step (ok_move rfl rfl rfl) rfl ?_; refine vo_step (ok_skip rfl (blt_lt rfl) rfl) rfl ?_; refine vo_step (ok_skip rfl (blt_lt rfl) rfl) rfl ?_; refine vo_step (ok_skip rfl (blt_lt rfl) rfl) rfl ?_; refine vo_step (ok_pick rfl rfl rfl rfl) rfl ?_; refine vo_nil ?_; refine N_seq ?_; refine V_true rfl ?_; refine V_skip ?_; refine N_seq ?_; refine V_block ?_; refine V_seq ?_; refine V_region (id := 7) ?_; refine vo_step (ok_assign rfl rfl rfl) rfl ?_; refine vo_nil ?_; refine N_seq ?_; refine V_seq ?_; refine V_block ?_; refine V_seq ?_; refine V_region (id := 9) ?_; refine vo_step (ok_moves' rfl rfl rfl) rfl ?_; refine vo_step (ok_lenV L rfl rfl rfl rfl) rfl ?_; refine vo_step (ok_eql rfl rfl rfl rfl (decide_eq_false (by omega))) rfl ?_; refine vo_step (ok_assign rfl rfl rfl) rfl ?_; refine vo_nil ?_; refine N_seq ?_; refine V_false rfl ?_; refine V_seq ?_; refine V_region (id := 11) ?_; refine vo_step (ok_moves' rfl rfl rfl) rfl ?_; refine vo_step (ok_lenV L rfl rfl rfl rfl) rfl ?_; refine vo_step (ok_eql rfl rfl rfl rfl (decide_eq_true (by omega))) rfl ?_; refine vo_step (ok_assign rfl rfl rfl) rfl ?_; refine vo_nil ?_; refine N_seq ?_; refine V_true rfl ?_; refine V_region (id := 12) ?_; refine vo_step (ok_assign rfl rfl rfl) rfl ?_; refine vo_nil ?_; refine N_block ?_; refine N_seq ?_; refine V_seq ?_; refine V_region (id := 13) ?_; refine vo_step (ok_build (cs := [_, _, _, _, _, _]) rfl rfl pl81 rfl rfl) rfl ?_; refine vo_step (ok_alloc L rfl rfl rfl rfl) rfl ?_; refine vo_step (ok_store L rfl rfl rfl rfl rfl rfl rfl rfl) rfl ?_; refine vo_nil ?_; refine N_seq ?_; refine V_seq ?_; refine V_seq ?_; refine V_region (id := 14) ?_; refine vo_step (ok_move rfl rfl rfl) rfl ?_; refine vo_step (ok_gtr rfl rfl rfl rfl (decide_eq_false (by omega))) rfl ?_; refine vo_nil ?_; refine N_seq ?_; refine V_false rfl ?_; refine V_seq ?_; refine V_region (id := 16) ?_; refine vo_step (ok_moves' rfl rfl rfl) rfl ?_; refine vo_step (ok_indexV L 0 rfl rfl rfl rfl rfl rfl rfl (by first | omega | decide) (by assumption)) rfl ?_; refine vo_step (ok_loadPA L (vs := [_, _, _, _, _, _]) rfl rfl rfl rfl rfl ⟨_, rfl⟩) rfl ?_; refine vo_step (ok_store L rfl rfl rfl rfl rfl rfl rfl rfl) rfl ?_; refine vo_nil ?_; refine N_seq ?_; refine V_region (id := 17) ?_; refine vo_step (ok_moves' rfl rfl rfl) rfl ?_; refine vo_step (ok_sliceV L (kh := .i64) (ph := 0) (km := .i64) (pm := 0) 1 _ false rfl rfl rfl rfl rfl ⟨rfl, rfl⟩ ⟨rfl, rfl⟩ (fun h => by cases h) (by omega) (by omega) (by assumption)) rfl ?_; refine vo_step (ok_assigns' rfl rfl rfl) rfl ?_; refine vo_nil ?_; refine N_seq ?_; refine V_seq ?_; refine V_seq ?_; refine V_region (id := 18) ?_; refine vo_step (ok_move rfl rfl rfl) rfl ?_; refine vo_step (ok_geq rfl rfl rfl rfl (decide_eq_false (by omega))) rfl ?_; refine vo_nil ?_; refine N_seq ?_; refine V_false rfl ?_; refine V_skip ?_; refine N_seq ?_; refine V_seq ?_; refine V_region (id := 20) ?_; refine vo_step (ok_move rfl rfl rfl) rfl ?_; refine vo_step (ok_move rfl rfl rfl) rfl ?_; refine vo_step (ok_leq rfl rfl rfl rfl (decide_eq_true (by omega))) rfl ?_; refine vo_step (ok_move rfl rfl rfl) rfl ?_; refine vo_step (ok_geq rfl rfl rfl rfl (decide_eq_false (by omega))) rfl ?_; refine vo_step (ok_callx L rfl rfl (blt_lt rfl) rfl rfl hfn (fun u H hH _ _ => hfv u H hH)) rfl ?_; refine vo_nil ?_; refine N_seq ?_; refine V_false rfl ?_; refine V_skip ?_; refine N_block ?_
                exact N_round (x := (n + 1, a :: x, [], out)) (n, x, [], out) ⟨by simp only [List.length_cons, List.length_nil] at hn ⊢; omega, hR, by simp only [List.length_cons, List.length_nil, List.length_append] at hz ⊢; omega⟩ (by dsimp only; omega) ⟨rfl, rfl, rfl, rfl, trivial⟩
              · have hR : out ++ [a] ++ mrgS cmpT f n x [] = R := by rw [← hR]; simp [mrgS, hft]
                have hfv : ∀ (u : World) (H : Heap), H.Le (hp u) → Ret Try.prog tf [.bool true, .bool false] u H (fun v _ => v = .bool true) := fun u H h => by have := hf true false u H h; rwa [hft] at this
                refine V_seq ?_; refine V_seq ?_; refine V_region (id := 6) ?_; refine vo_step (ok_moves' rfl rfl rfl) rfl ?_; refine vo_step (ok_lenV L rfl rfl rfl rfl) rfl ?_; refine vo_step (ok_gtr rfl rfl rfl rfl (decide_eq_true (by omega))) rfl ?_; refine vo_step (ok_move rfl rfl rfl) rfl ?_; refine vo_step (ok_skip rfl (blt_lt rfl) rfl) rfl ?_; refine vo_step (ok_skip rfl (blt_lt rfl) rfl) rfl ?_; refine vo_step (ok_skip rfl (blt_lt rfl) rfl) rfl ?_; refine vo_step (ok_pick rfl rfl rfl rfl) rfl ?_; refine vo_nil ?_; refine N_seq ?_; refine V_true rfl ?_; refine V_skip ?_; refine N_seq ?_; refine V_block ?_; refine V_seq ?_; refine V_region (id := 7) ?_; refine vo_step (ok_assign rfl rfl rfl) rfl ?_; refine vo_nil ?_; refine N_seq ?_; refine V_seq ?_; refine V_block ?_; refine V_seq ?_; refine V_region (id := 9) ?_; refine vo_step (ok_moves' rfl rfl rfl) rfl ?_; refine vo_step (ok_lenV L rfl rfl rfl rfl) rfl ?_; refine vo_step (ok_eql rfl rfl rfl rfl (decide_eq_false (by omega))) rfl ?_; refine vo_step (ok_assign rfl rfl rfl) rfl ?_; refine vo_nil ?_; refine N_seq ?_; refine V_false rfl ?_; refine V_seq ?_; refine V_region (id := 11) ?_; refine vo_step (ok_moves' rfl rfl rfl) rfl ?_; refine vo_step (ok_lenV L rfl rfl rfl rfl) rfl ?_; refine vo_step (ok_eql rfl rfl rfl rfl (decide_eq_true (by omega))) rfl ?_; refine vo_step (ok_assign rfl rfl rfl) rfl ?_; refine vo_nil ?_; refine N_seq ?_; refine V_true rfl ?_; refine V_region (id := 12) ?_; refine vo_step (ok_assign rfl rfl rfl) rfl ?_; refine vo_nil ?_; refine N_block ?_; refine N_seq ?_; refine V_seq ?_; refine V_region (id := 13) ?_; refine vo_step (ok_build (cs := [_, _, _, _, _, _]) rfl rfl pl81 rfl rfl) rfl ?_; refine vo_step (ok_alloc L rfl rfl rfl rfl) rfl ?_; refine vo_step (ok_store L rfl rfl rfl rfl rfl rfl rfl rfl) rfl ?_; refine vo_nil ?_; refine N_seq ?_; refine V_seq ?_; refine V_seq ?_; refine V_region (id := 14) ?_; refine vo_step (ok_move rfl rfl rfl) rfl ?_; refine vo_step (ok_gtr rfl rfl rfl rfl (decide_eq_false (by omega))) rfl ?_; refine vo_nil ?_; refine N_seq ?_; refine V_false rfl ?_; refine V_seq ?_; refine V_region (id := 16) ?_; refine vo_step (ok_moves' rfl rfl rfl) rfl ?_; refine vo_step (ok_indexV L 0 rfl rfl rfl rfl rfl rfl rfl (by first | omega | decide) (by assumption)) rfl ?_; refine vo_step (ok_loadPA L (vs := [_, _, _, _, _, _]) rfl rfl rfl rfl rfl ⟨_, rfl⟩) rfl ?_; refine vo_step (ok_store L rfl rfl rfl rfl rfl rfl rfl rfl) rfl ?_; refine vo_nil ?_; refine N_seq ?_; refine V_region (id := 17) ?_; refine vo_step (ok_moves' rfl rfl rfl) rfl ?_; refine vo_step (ok_sliceV L (kh := .i64) (ph := 0) (km := .i64) (pm := 0) 1 _ false rfl rfl rfl rfl rfl ⟨rfl, rfl⟩ ⟨rfl, rfl⟩ (fun h => by cases h) (by omega) (by omega) (by assumption)) rfl ?_; refine vo_step (ok_assigns' rfl rfl rfl) rfl ?_; refine vo_nil ?_; refine N_seq ?_; refine V_seq ?_; refine V_seq ?_; refine V_region (id := 18) ?_; refine vo_step (ok_move rfl rfl rfl) rfl ?_; refine vo_step (ok_geq rfl rfl rfl rfl (decide_eq_false (by omega))) rfl ?_; refine vo_nil ?_; refine N_seq ?_; refine V_false rfl ?_; refine V_skip ?_; refine N_seq ?_; refine V_seq ?_; refine V_region (id := 20) ?_; refine vo_step (ok_move rfl rfl rfl) rfl ?_; refine vo_step (ok_move rfl rfl rfl) rfl ?_; refine vo_step (ok_leq rfl rfl rfl rfl (decide_eq_true (by omega))) rfl ?_; refine vo_step (ok_move rfl rfl rfl) rfl ?_; refine vo_step (ok_geq rfl rfl rfl rfl (decide_eq_false (by omega))) rfl ?_; refine vo_step (ok_callx L rfl rfl (blt_lt rfl) rfl rfl hfn (fun u H hH _ _ => hfv u H hH)) rfl ?_; refine vo_nil ?_; refine N_seq ?_; refine V_true rfl ?_; refine V_region (id := 21) ?_; refine vo_step2 (ok_moveO (.inl rfl) rfl rfl rfl rfl) ?_; refine vo_step (ok_loadA L (vs := [_, _, _, _, _, _]) (src_own rfl) rfl rfl rfl rfl ⟨_, rfl⟩) rfl ?_; refine vo_step (ok_buildSlice L rfl rfl rfl rfl rfl rfl rfl rfl rfl) rfl ?_; refine vo_step2 (ok_append L rfl rfl rfl (apd_B rfl) rfl el81 rfl rfl (by omega) (by omega)) ?_; refine vo_step2 (ok_moveO (.inr rfl) rfl rfl rfl rfl) ?_; refine vo_nil ?_; refine N_block ?_
                exact N_round (x := (n + 1, a :: x, [], out)) (n, x, [], out ++ [a]) ⟨by simp only [List.length_cons, List.length_nil] at hn ⊢; omega, hR, by simp only [List.length_cons, List.length_nil, List.length_append] at hz ⊢; omega⟩ (by dsimp only; omega) ⟨rfl, rfl, rfl, us_snoc rfl, trivial⟩
            · have lb : (b :: y).length = y.length + 1 := rfl
              have hb := us_at (l := b :: y) (i := 0) (t := b) rfl
              have tb := tail_cut b y
              by_cases c1 : cmpT a b < 0
              · rcases n with _ | n
                · simp only [List.length_cons, List.length_nil] at hn; omega
                cases hft : f true false
                · have hR : out ++ mrgS cmpT f n x (b :: y) = R := by rw [← hR]; simp [mrgS, c1, hft]
                  have hfv : ∀ (u : World) (H : Heap), H.Le (hp u) → Ret Try.prog tf [.bool true, .bool false] u H (fun v _ => v = .bool false) := fun u H h => by have := hf true false u H h; rwa [hft] at this
                  refine V_seq ?_; refine V_seq ?_; refine V_region (id := 6) ?_; refine vo_step (ok_moves' rfl rfl rfl) rfl ?_; refine vo_step (ok_lenV L rfl rfl rfl rfl) rfl ?_; refine vo_step (ok_gtr rfl rfl rfl rfl (decide_eq_true (by omega))) rfl ?_; refine vo_step (ok_move rfl rfl rfl) rfl ?_; refine vo_step (ok_skip rfl (blt_lt rfl) rfl) rfl ?_; refine vo_step (ok_skip rfl (blt_lt rfl) rfl) rfl ?_; refine vo_step (ok_skip rfl (blt_lt rfl) rfl) rfl ?_; refine vo_step (ok_pick rfl rfl rfl rfl) rfl ?_; refine vo_nil ?_; refine N_seq ?_; refine V_true rfl ?_; refine V_skip ?_; refine N_seq ?_; refine V_block ?_; refine V_seq ?_; refine V_region (id := 7) ?_; refine vo_step (ok_assign rfl rfl rfl) rfl ?_; refine vo_nil ?_; refine N_seq ?_; refine V_seq ?_; refine V_block ?_; refine V_seq ?_; refine V_region (id := 9) ?_; refine vo_step (ok_moves' rfl rfl rfl) rfl ?_; refine vo_step (ok_lenV L rfl rfl rfl rfl) rfl ?_; refine vo_step (ok_eql rfl rfl rfl rfl (decide_eq_false (by omega))) rfl ?_; refine vo_step (ok_assign rfl rfl rfl) rfl ?_; refine vo_nil ?_; refine N_seq ?_; refine V_false rfl ?_; refine V_seq ?_; refine V_region (id := 11) ?_; refine vo_step (ok_moves' rfl rfl rfl) rfl ?_; refine vo_step (ok_lenV L rfl rfl rfl rfl) rfl ?_; refine vo_step (ok_eql rfl rfl rfl rfl (decide_eq_false (by omega))) rfl ?_; refine vo_step (ok_assign rfl rfl rfl) rfl ?_; refine vo_nil ?_; refine N_seq ?_; refine V_false rfl ?_; refine V_regionD (id := 8) [] mixed (by kernel_rfl) ?_; refine par_step (ok_moves' rfl rfl rfl) rfl ?_; refine par_step (ok_indexV L 0 rfl rfl rfl rfl rfl rfl rfl (by first | omega | decide) (by assumption)) rfl ?_; refine par_step (ok_loadPA L (vs := [_, _, _, _, _, _]) rfl rfl rfl rfl rfl ⟨_, rfl⟩) rfl ?_; refine par_step (ok_moves' rfl rfl rfl) rfl ?_; refine par_step (ok_indexV L 0 rfl rfl rfl rfl rfl rfl rfl (by first | omega | decide) (by assumption)) rfl ?_; refine par_step (ok_loadPA L (vs := [_, _, _, _, _, _]) rfl rfl rfl rfl rfl ⟨_, rfl⟩) rfl ?_; refine par_step (ok_callx L rfl rfl (blt_lt rfl) rfl rfl rfl (fun u H hH _ _ => tcmp_ret hH)) rfl ?_; refine par_step (ok_assign rfl rfl rfl) rfl ?_; refine par_nil ?_; refine N_block ?_; refine N_seq ?_; refine V_seq ?_; refine V_region (id := 13) ?_; refine vo_step (ok_build (cs := [_, _, _, _, _, _]) rfl rfl pl81 rfl rfl) rfl ?_; refine vo_step (ok_alloc L rfl rfl rfl rfl) rfl ?_; refine vo_step (ok_store L rfl rfl rfl rfl rfl rfl rfl rfl) rfl ?_; refine vo_nil ?_; refine N_seq ?_; refine V_seq ?_; refine V_seq ?_; refine V_region (id := 14) ?_; refine vo_step (ok_move rfl rfl rfl) rfl ?_; refine vo_step (ok_gtr rfl rfl rfl rfl (decide_eq_false (by omega))) rfl ?_; refine vo_nil ?_; refine N_seq ?_; refine V_false rfl ?_; refine V_seq ?_; refine V_region (id := 16) ?_; refine vo_step (ok_moves' rfl rfl rfl) rfl ?_; refine vo_step (ok_indexV L 0 rfl rfl rfl rfl rfl rfl rfl (by first | omega | decide) (by assumption)) rfl ?_; refine vo_step (ok_loadPA L (vs := [_, _, _, _, _, _]) rfl rfl rfl rfl rfl ⟨_, rfl⟩) rfl ?_; refine vo_step (ok_store L rfl rfl rfl rfl rfl rfl rfl rfl) rfl ?_; refine vo_nil ?_; refine N_seq ?_; refine V_region (id := 17) ?_; refine vo_step (ok_moves' rfl rfl rfl) rfl ?_; refine vo_step (ok_sliceV L (kh := .i64) (ph := 0) (km := .i64) (pm := 0) 1 _ false rfl rfl rfl rfl rfl ⟨rfl, rfl⟩ ⟨rfl, rfl⟩ (fun h => by cases h) (by omega) (by omega) (by assumption)) rfl ?_; refine vo_step (ok_assigns' rfl rfl rfl) rfl ?_; refine vo_nil ?_; refine N_seq ?_; refine V_seq ?_; refine V_seq ?_; refine V_region (id := 18) ?_; refine vo_step (ok_move rfl rfl rfl) rfl ?_; refine vo_step (ok_geq rfl rfl rfl rfl (decide_eq_false (by omega))) rfl ?_; refine vo_nil ?_; refine N_seq ?_; refine V_false rfl ?_; refine V_skip ?_; refine N_seq ?_; refine V_seq ?_; refine V_region (id := 20) ?_; refine vo_step (ok_move rfl rfl rfl) rfl ?_; refine vo_step (ok_move rfl rfl rfl) rfl ?_; refine vo_step (ok_leq rfl rfl rfl rfl (decide_eq_true (by omega))) rfl ?_; refine vo_step (ok_move rfl rfl rfl) rfl ?_; refine vo_step (ok_geq rfl rfl rfl rfl (decide_eq_false (by omega))) rfl ?_; refine vo_step (ok_callx L rfl rfl (blt_lt rfl) rfl rfl hfn (fun u H hH _ _ => hfv u H hH)) rfl ?_; refine vo_nil ?_; refine N_seq ?_; refine V_false rfl ?_; refine V_skip ?_; refine N_block ?_
                  exact N_round (x := (n + 1, a :: x, b :: y, out)) (n, x, (b :: y), out) ⟨by simp only [List.length_cons, List.length_nil] at hn ⊢; omega, hR, by simp only [List.length_cons, List.length_nil, List.length_append] at hz ⊢; omega⟩ (by dsimp only; omega) ⟨rfl, rfl, rfl, rfl, trivial⟩
                · have hR : out ++ [a] ++ mrgS cmpT f n x (b :: y) = R := by rw [← hR]; simp [mrgS, c1, hft]
                  have hfv : ∀ (u : World) (H : Heap), H.Le (hp u) → Ret Try.prog tf [.bool true, .bool false] u H (fun v _ => v = .bool true) := fun u H h => by have := hf true false u H h; rwa [hft] at this
                  refine V_seq ?_; refine V_seq ?_; refine V_region (id := 6) ?_; refine vo_step (ok_moves' rfl rfl rfl) rfl ?_; refine vo_step (ok_lenV L rfl rfl rfl rfl) rfl ?_; refine vo_step (ok_gtr rfl rfl rfl rfl (decide_eq_true (by omega))) rfl ?_; refine vo_step (ok_move rfl rfl rfl) rfl ?_; refine vo_step (ok_skip rfl (blt_lt rfl) rfl) rfl ?_; refine vo_step (ok_skip rfl (blt_lt rfl) rfl) rfl ?_; refine vo_step (ok_skip rfl (blt_lt rfl) rfl) rfl ?_; refine vo_step (ok_pick rfl rfl rfl rfl) rfl ?_; refine vo_nil ?_; refine N_seq ?_; refine V_true rfl ?_; refine V_skip ?_; refine N_seq ?_; refine V_block ?_; refine V_seq ?_; refine V_region (id := 7) ?_; refine vo_step (ok_assign rfl rfl rfl) rfl ?_; refine vo_nil ?_; refine N_seq ?_; refine V_seq ?_; refine V_block ?_; refine V_seq ?_; refine V_region (id := 9) ?_; refine vo_step (ok_moves' rfl rfl rfl) rfl ?_; refine vo_step (ok_lenV L rfl rfl rfl rfl) rfl ?_; refine vo_step (ok_eql rfl rfl rfl rfl (decide_eq_false (by omega))) rfl ?_; refine vo_step (ok_assign rfl rfl rfl) rfl ?_; refine vo_nil ?_; refine N_seq ?_; refine V_false rfl ?_; refine V_seq ?_; refine V_region (id := 11) ?_; refine vo_step (ok_moves' rfl rfl rfl) rfl ?_; refine vo_step (ok_lenV L rfl rfl rfl rfl) rfl ?_; refine vo_step (ok_eql rfl rfl rfl rfl (decide_eq_false (by omega))) rfl ?_; refine vo_step (ok_assign rfl rfl rfl) rfl ?_; refine vo_nil ?_; refine N_seq ?_; refine V_false rfl ?_; refine V_regionD (id := 8) [] mixed (by kernel_rfl) ?_; refine par_step (ok_moves' rfl rfl rfl) rfl ?_; refine par_step (ok_indexV L 0 rfl rfl rfl rfl rfl rfl rfl (by first | omega | decide) (by assumption)) rfl ?_; refine par_step (ok_loadPA L (vs := [_, _, _, _, _, _]) rfl rfl rfl rfl rfl ⟨_, rfl⟩) rfl ?_; refine par_step (ok_moves' rfl rfl rfl) rfl ?_; refine par_step (ok_indexV L 0 rfl rfl rfl rfl rfl rfl rfl (by first | omega | decide) (by assumption)) rfl ?_; refine par_step (ok_loadPA L (vs := [_, _, _, _, _, _]) rfl rfl rfl rfl rfl ⟨_, rfl⟩) rfl ?_; refine par_step (ok_callx L rfl rfl (blt_lt rfl) rfl rfl rfl (fun u H hH _ _ => tcmp_ret hH)) rfl ?_; refine par_step (ok_assign rfl rfl rfl) rfl ?_; refine par_nil ?_; refine N_block ?_; refine N_seq ?_; refine V_seq ?_; refine V_region (id := 13) ?_; refine vo_step (ok_build (cs := [_, _, _, _, _, _]) rfl rfl pl81 rfl rfl) rfl ?_; refine vo_step (ok_alloc L rfl rfl rfl rfl) rfl ?_; refine vo_step (ok_store L rfl rfl rfl rfl rfl rfl rfl rfl) rfl ?_; refine vo_nil ?_; refine N_seq ?_; refine V_seq ?_; refine V_seq ?_; refine V_region (id := 14) ?_; refine vo_step (ok_move rfl rfl rfl) rfl ?_; refine vo_step (ok_gtr rfl rfl rfl rfl (decide_eq_false (by omega))) rfl ?_; refine vo_nil ?_; refine N_seq ?_; refine V_false rfl ?_; refine V_seq ?_; refine V_region (id := 16) ?_; refine vo_step (ok_moves' rfl rfl rfl) rfl ?_; refine vo_step (ok_indexV L 0 rfl rfl rfl rfl rfl rfl rfl (by first | omega | decide) (by assumption)) rfl ?_; refine vo_step (ok_loadPA L (vs := [_, _, _, _, _, _]) rfl rfl rfl rfl rfl ⟨_, rfl⟩) rfl ?_; refine vo_step (ok_store L rfl rfl rfl rfl rfl rfl rfl rfl) rfl ?_; refine vo_nil ?_; refine N_seq ?_; refine V_region (id := 17) ?_; refine vo_step (ok_moves' rfl rfl rfl) rfl ?_; refine vo_step (ok_sliceV L (kh := .i64) (ph := 0) (km := .i64) (pm := 0) 1 _ false rfl rfl rfl rfl rfl ⟨rfl, rfl⟩ ⟨rfl, rfl⟩ (fun h => by cases h) (by omega) (by omega) (by assumption)) rfl ?_; refine vo_step (ok_assigns' rfl rfl rfl) rfl ?_; refine vo_nil ?_; refine N_seq ?_; refine V_seq ?_; refine V_seq ?_; refine V_region (id := 18) ?_; refine vo_step (ok_move rfl rfl rfl) rfl ?_; refine vo_step (ok_geq rfl rfl rfl rfl (decide_eq_false (by omega))) rfl ?_; refine vo_nil ?_; refine N_seq ?_; refine V_false rfl ?_; refine V_skip ?_; refine N_seq ?_; refine V_seq ?_; refine V_region (id := 20) ?_; refine vo_step (ok_move rfl rfl rfl) rfl ?_; refine vo_step (ok_move rfl rfl rfl) rfl ?_; refine vo_step (ok_leq rfl rfl rfl rfl (decide_eq_true (by omega))) rfl ?_; refine vo_step (ok_move rfl rfl rfl) rfl ?_; refine vo_step (ok_geq rfl rfl rfl rfl (decide_eq_false (by omega))) rfl ?_; refine vo_step (ok_callx L rfl rfl (blt_lt rfl) rfl rfl hfn (fun u H hH _ _ => hfv u H hH)) rfl ?_; refine vo_nil ?_; refine N_seq ?_; refine V_true rfl ?_; refine V_region (id := 21) ?_; refine vo_step2 (ok_moveO (.inl rfl) rfl rfl rfl rfl) ?_; refine vo_step (ok_loadA L (vs := [_, _, _, _, _, _]) (src_own rfl) rfl rfl rfl rfl ⟨_, rfl⟩) rfl ?_; refine vo_step (ok_buildSlice L rfl rfl rfl rfl rfl rfl rfl rfl rfl) rfl ?_; refine vo_step2 (ok_append L rfl rfl rfl (apd_B rfl) rfl el81 rfl rfl (by omega) (by omega)) ?_; refine vo_step2 (ok_moveO (.inr rfl) rfl rfl rfl rfl) ?_; refine vo_nil ?_; refine N_block ?_
                  exact N_round (x := (n + 1, a :: x, b :: y, out)) (n, x, (b :: y), out ++ [a]) ⟨by simp only [List.length_cons, List.length_nil] at hn ⊢; omega, hR, by simp only [List.length_cons, List.length_nil, List.length_append] at hz ⊢; omega⟩ (by dsimp only; omega) ⟨rfl, rfl, rfl, us_snoc rfl, trivial⟩
              · by_cases c2 : 0 < cmpT a b
                · rcases n with _ | n
                  · simp only [List.length_cons, List.length_nil] at hn; omega
                  cases hft : f false true
                  · have hR : out ++ mrgS cmpT f n (a :: x) y = R := by rw [← hR]; simp [mrgS, c1, c2, hft]
                    have hfv : ∀ (u : World) (H : Heap), H.Le (hp u) → Ret Try.prog tf [.bool false, .bool true] u H (fun v _ => v = .bool false) := fun u H h => by have := hf false true u H h; rwa [hft] at this
                    refine V_seq ?_; refine V_seq ?_; refine V_region (id := 6) ?_; refine vo_step (ok_moves' rfl rfl rfl) rfl ?_; refine vo_step (ok_lenV L rfl rfl rfl rfl) rfl ?_; refine vo_step (ok_gtr rfl rfl rfl rfl (decide_eq_true (by omega))) rfl ?_; refine vo_step (ok_move rfl rfl rfl) rfl ?_; refine vo_step (ok_skip rfl (blt_lt rfl) rfl) rfl ?_; refine vo_step (ok_skip rfl (blt_lt rfl) rfl) rfl ?_; refine vo_step (ok_skip rfl (blt_lt rfl) rfl) rfl ?_; refine vo_step (ok_pick rfl rfl rfl rfl) rfl ?_; refine vo_nil ?_; refine N_seq ?_; refine V_true rfl ?_; refine V_skip ?_; refine N_seq ?_; refine V_block ?_; refine V_seq ?_; refine V_region (id := 7) ?_; refine vo_step (ok_assign rfl rfl rfl) rfl ?_; refine vo_nil ?_; refine N_seq ?_; refine V_seq ?_; refine V_block ?_; refine V_seq ?_; refine V_region (id := 9) ?_; refine vo_step (ok_moves' rfl rfl rfl) rfl ?_; refine vo_step (ok_lenV L rfl rfl rfl rfl) rfl ?_; refine vo_step (ok_eql rfl rfl rfl rfl (decide_eq_false (by omega))) rfl ?_; refine vo_step (ok_assign rfl rfl rfl) rfl ?_; refine vo_nil ?_; refine N_seq ?_; refine V_false rfl ?_; refine V_seq ?_; refine V_region (id := 11) ?_; refine vo_step (ok_moves' rfl rfl rfl) rfl ?_; refine vo_step (ok_lenV L rfl rfl rfl rfl) rfl ?_; refine vo_step (ok_eql rfl rfl rfl rfl (decide_eq_false (by omega))) rfl ?_; refine vo_step (ok_assign rfl rfl rfl) rfl ?_; refine vo_nil ?_; refine N_seq ?_; refine V_false rfl ?_; refine V_regionD (id := 8) [] mixed (by kernel_rfl) ?_; refine par_step (ok_moves' rfl rfl rfl) rfl ?_; refine par_step (ok_indexV L 0 rfl rfl rfl rfl rfl rfl rfl (by first | omega | decide) (by assumption)) rfl ?_; refine par_step (ok_loadPA L (vs := [_, _, _, _, _, _]) rfl rfl rfl rfl rfl ⟨_, rfl⟩) rfl ?_; refine par_step (ok_moves' rfl rfl rfl) rfl ?_; refine par_step (ok_indexV L 0 rfl rfl rfl rfl rfl rfl rfl (by first | omega | decide) (by assumption)) rfl ?_; refine par_step (ok_loadPA L (vs := [_, _, _, _, _, _]) rfl rfl rfl rfl rfl ⟨_, rfl⟩) rfl ?_; refine par_step (ok_callx L rfl rfl (blt_lt rfl) rfl rfl rfl (fun u H hH _ _ => tcmp_ret hH)) rfl ?_; refine par_step (ok_assign rfl rfl rfl) rfl ?_; refine par_nil ?_; refine N_block ?_; refine N_seq ?_; refine V_seq ?_; refine V_region (id := 13) ?_; refine vo_step (ok_build (cs := [_, _, _, _, _, _]) rfl rfl pl81 rfl rfl) rfl ?_; refine vo_step (ok_alloc L rfl rfl rfl rfl) rfl ?_; refine vo_step (ok_store L rfl rfl rfl rfl rfl rfl rfl rfl) rfl ?_; refine vo_nil ?_; refine N_seq ?_; refine V_seq ?_; refine V_seq ?_; refine V_region (id := 14) ?_; refine vo_step (ok_move rfl rfl rfl) rfl ?_; refine vo_step (ok_gtr rfl rfl rfl rfl (decide_eq_true (by omega))) rfl ?_; refine vo_nil ?_; refine N_seq ?_; refine V_true rfl ?_; refine V_region (id := 15) ?_; refine vo_step (ok_moves' rfl rfl rfl) rfl ?_; refine vo_step (ok_indexV L 0 rfl rfl rfl rfl rfl rfl rfl (by first | omega | decide) (by assumption)) rfl ?_; refine vo_step (ok_loadPA L (vs := [_, _, _, _, _, _]) rfl rfl rfl rfl rfl ⟨_, rfl⟩) rfl ?_; refine vo_step (ok_store L rfl rfl rfl rfl rfl rfl rfl rfl) rfl ?_; refine vo_nil ?_; refine N_seq ?_; refine V_seq ?_; refine V_seq ?_; refine V_region (id := 18) ?_; refine vo_step (ok_move rfl rfl rfl) rfl ?_; refine vo_step (ok_geq rfl rfl rfl rfl (decide_eq_true (by omega))) rfl ?_; refine vo_nil ?_; refine N_seq ?_; refine V_true rfl ?_; refine V_region (id := 19) ?_; refine vo_step (ok_moves' rfl rfl rfl) rfl ?_; refine vo_step (ok_sliceV L (kh := .i64) (ph := 0) (km := .i64) (pm := 0) 1 _ false rfl rfl rfl rfl rfl ⟨rfl, rfl⟩ ⟨rfl, rfl⟩ (fun h => by cases h) (by omega) (by omega) (by assumption)) rfl ?_; refine vo_step (ok_assigns' rfl rfl rfl) rfl ?_; refine vo_nil ?_; refine N_seq ?_; refine V_seq ?_; refine V_region (id := 20) ?_; refine vo_step (ok_move rfl rfl rfl) rfl ?_; refine vo_step (ok_move rfl rfl rfl) rfl ?_; refine vo_step (ok_leq rfl rfl rfl rfl (decide_eq_false (by omega))) rfl ?_; refine vo_step (ok_move rfl rfl rfl) rfl ?_; refine vo_step (ok_geq rfl rfl rfl rfl (decide_eq_true (by omega))) rfl ?_; refine vo_step (ok_callx L rfl rfl (blt_lt rfl) rfl rfl hfn (fun u H hH _ _ => hfv u H hH)) rfl ?_; refine vo_nil ?_; refine N_seq ?_; refine V_false rfl ?_; refine V_skip ?_; refine N_block ?_
                    exact N_round (x := (n + 1, a :: x, b :: y, out)) (n, (a :: x), y, out) ⟨by simp only [List.length_cons, List.length_nil] at hn ⊢; omega, hR, by simp only [List.length_cons, List.length_nil, List.length_append] at hz ⊢; omega⟩ (by dsimp only; omega) ⟨rfl, rfl, rfl, rfl, trivial⟩
                  · have hR : out ++ [b] ++ mrgS cmpT f n (a :: x) y = R := by rw [← hR]; simp [mrgS, c1, c2, hft]
                    have hfv : ∀ (u : World) (H : Heap), H.Le (hp u) → Ret Try.prog tf [.bool false, .bool true] u H (fun v _ => v = .bool true) := fun u H h => by have := hf false true u H h; rwa [hft] at this
                    refine V_seq ?_; refine V_seq ?_; refine V_region (id := 6) ?_; refine vo_step (ok_moves' rfl rfl rfl) rfl ?_; refine vo_step (ok_lenV L rfl rfl rfl rfl) rfl ?_; refine vo_step (ok_gtr rfl rfl rfl rfl (decide_eq_true (by omega))) rfl ?_; refine vo_step (ok_move rfl rfl rfl) rfl ?_; refine vo_step (ok_skip rfl (blt_lt rfl) rfl) rfl ?_; refine vo_step (ok_skip rfl (blt_lt rfl) rfl) rfl ?_; refine vo_step (ok_skip rfl (blt_lt rfl) rfl) rfl ?_; refine vo_step (ok_pick rfl rfl rfl rfl) rfl ?_; refine vo_nil ?_; refine N_seq ?_; refine V_true rfl ?_; refine V_skip ?_; refine N_seq ?_; refine V_block ?_; refine V_seq ?_; refine V_region (id := 7) ?_; refine vo_step (ok_assign rfl rfl rfl) rfl ?_; refine vo_nil ?_; refine N_seq ?_; refine V_seq ?_; refine V_block ?_; refine V_seq ?_; refine V_region (id := 9) ?_; refine vo_step (ok_moves' rfl rfl rfl) rfl ?_; refine vo_step (ok_lenV L rfl rfl rfl rfl) rfl ?_; refine vo_step (ok_eql rfl rfl rfl rfl (decide_eq_false (by omega))) rfl ?_; refine vo_step (ok_assign rfl rfl rfl) rfl ?_; refine vo_nil ?_; refine N_seq ?_; refine V_false rfl ?_; refine V_seq ?_; refine V_region (id := 11) ?_; refine vo_step (ok_moves' rfl rfl rfl) rfl ?_; refine vo_step (ok_lenV L rfl rfl rfl rfl) rfl ?_; refine vo_step (ok_eql rfl rfl rfl rfl (decide_eq_false (by omega))) rfl ?_; refine vo_step (ok_assign rfl rfl rfl) rfl ?_; refine vo_nil ?_; refine N_seq ?_; refine V_false rfl ?_; refine V_regionD (id := 8) [] mixed (by kernel_rfl) ?_; refine par_step (ok_moves' rfl rfl rfl) rfl ?_; refine par_step (ok_indexV L 0 rfl rfl rfl rfl rfl rfl rfl (by first | omega | decide) (by assumption)) rfl ?_; refine par_step (ok_loadPA L (vs := [_, _, _, _, _, _]) rfl rfl rfl rfl rfl ⟨_, rfl⟩) rfl ?_; refine par_step (ok_moves' rfl rfl rfl) rfl ?_; refine par_step (ok_indexV L 0 rfl rfl rfl rfl rfl rfl rfl (by first | omega | decide) (by assumption)) rfl ?_; refine par_step (ok_loadPA L (vs := [_, _, _, _, _, _]) rfl rfl rfl rfl rfl ⟨_, rfl⟩) rfl ?_; refine par_step (ok_callx L rfl rfl (blt_lt rfl) rfl rfl rfl (fun u H hH _ _ => tcmp_ret hH)) rfl ?_; refine par_step (ok_assign rfl rfl rfl) rfl ?_; refine par_nil ?_; refine N_block ?_; refine N_seq ?_; refine V_seq ?_; refine V_region (id := 13) ?_; refine vo_step (ok_build (cs := [_, _, _, _, _, _]) rfl rfl pl81 rfl rfl) rfl ?_; refine vo_step (ok_alloc L rfl rfl rfl rfl) rfl ?_; refine vo_step (ok_store L rfl rfl rfl rfl rfl rfl rfl rfl) rfl ?_; refine vo_nil ?_; refine N_seq ?_; refine V_seq ?_; refine V_seq ?_; refine V_region (id := 14) ?_; refine vo_step (ok_move rfl rfl rfl) rfl ?_; refine vo_step (ok_gtr rfl rfl rfl rfl (decide_eq_true (by omega))) rfl ?_; refine vo_nil ?_; refine N_seq ?_; refine V_true rfl ?_; refine V_region (id := 15) ?_; refine vo_step (ok_moves' rfl rfl rfl) rfl ?_; refine vo_step (ok_indexV L 0 rfl rfl rfl rfl rfl rfl rfl (by first | omega | decide) (by assumption)) rfl ?_; refine vo_step (ok_loadPA L (vs := [_, _, _, _, _, _]) rfl rfl rfl rfl rfl ⟨_, rfl⟩) rfl ?_; refine vo_step (ok_store L rfl rfl rfl rfl rfl rfl rfl rfl) rfl ?_; refine vo_nil ?_; refine N_seq ?_; refine V_seq ?_; refine V_seq ?_; refine V_region (id := 18) ?_; refine vo_step (ok_move rfl rfl rfl) rfl ?_; refine vo_step (ok_geq rfl rfl rfl rfl (decide_eq_true (by omega))) rfl ?_; refine vo_nil ?_; refine N_seq ?_; refine V_true rfl ?_; refine V_region (id := 19) ?_; refine vo_step (ok_moves' rfl rfl rfl) rfl ?_; refine vo_step (ok_sliceV L (kh := .i64) (ph := 0) (km := .i64) (pm := 0) 1 _ false rfl rfl rfl rfl rfl ⟨rfl, rfl⟩ ⟨rfl, rfl⟩ (fun h => by cases h) (by omega) (by omega) (by assumption)) rfl ?_; refine vo_step (ok_assigns' rfl rfl rfl) rfl ?_; refine vo_nil ?_; refine N_seq ?_; refine V_seq ?_; refine V_region (id := 20) ?_; refine vo_step (ok_move rfl rfl rfl) rfl ?_; refine vo_step (ok_move rfl rfl rfl) rfl ?_; refine vo_step (ok_leq rfl rfl rfl rfl (decide_eq_false (by omega))) rfl ?_; refine vo_step (ok_move rfl rfl rfl) rfl ?_; refine vo_step (ok_geq rfl rfl rfl rfl (decide_eq_true (by omega))) rfl ?_; refine vo_step (ok_callx L rfl rfl (blt_lt rfl) rfl rfl hfn (fun u H hH _ _ => hfv u H hH)) rfl ?_; refine vo_nil ?_; refine N_seq ?_; refine V_true rfl ?_; refine V_region (id := 21) ?_; refine vo_step2 (ok_moveO (.inl rfl) rfl rfl rfl rfl) ?_; refine vo_step (ok_loadA L (vs := [_, _, _, _, _, _]) (src_own rfl) rfl rfl rfl rfl ⟨_, rfl⟩) rfl ?_; refine vo_step (ok_buildSlice L rfl rfl rfl rfl rfl rfl rfl rfl rfl) rfl ?_; refine vo_step2 (ok_append L rfl rfl rfl (apd_B rfl) rfl el81 rfl rfl (by omega) (by omega)) ?_; refine vo_step2 (ok_moveO (.inr rfl) rfl rfl rfl rfl) ?_; refine vo_nil ?_; refine N_block ?_
                    exact N_round (x := (n + 1, a :: x, b :: y, out)) (n, (a :: x), y, out ++ [b]) ⟨by simp only [List.length_cons, List.length_nil] at hn ⊢; omega, hR, by simp only [List.length_cons, List.length_nil, List.length_append] at hz ⊢; omega⟩ (by dsimp only; omega) ⟨rfl, rfl, rfl, us_snoc rfl, trivial⟩
                · rcases n with _ | n
                  · simp only [List.length_cons, List.length_nil] at hn; omega
                  cases hft : f true true
                  · have hR : out ++ mrgS cmpT f n x y = R := by rw [← hR]; simp [mrgS, c1, c2, hft]
                    have hfv : ∀ (u : World) (H : Heap), H.Le (hp u) → Ret Try.prog tf [.bool true, .bool true] u H (fun v _ => v = .bool false) := fun u H h => by have := hf true true u H h; rwa [hft] at this
                    refine V_seq ?_; refine V_seq ?_; refine V_region (id := 6) ?_; refine vo_step (ok_moves' rfl rfl rfl) rfl ?_; refine vo_step (ok_lenV L rfl rfl rfl rfl) rfl ?_; refine vo_step (ok_gtr rfl rfl rfl rfl (decide_eq_true (by omega))) rfl ?_; refine vo_step (ok_move rfl rfl rfl) rfl ?_; refine vo_step (ok_skip rfl (blt_lt rfl) rfl) rfl ?_; refine vo_step (ok_skip rfl (blt_lt rfl) rfl) rfl ?_; refine vo_step (ok_skip rfl (blt_lt rfl) rfl) rfl ?_; refine vo_step (ok_pick rfl rfl rfl rfl) rfl ?_; refine vo_nil ?_; refine N_seq ?_; refine V_true rfl ?_; refine V_skip ?_; refine N_seq ?_; refine V_block ?_; refine V_seq ?_; refine V_region (id := 7) ?_; refine vo_step (ok_assign rfl rfl rfl) rfl ?_; refine vo_nil ?_; refine N_seq ?_; refine V_seq ?_; refine V_block ?_; refine V_seq ?_; refine V_region (id := 9) ?_; refine vo_step (ok_moves' rfl rfl rfl) rfl ?_; refine vo_step (ok_lenV L rfl rfl rfl rfl) rfl ?_; refine vo_step (ok_eql rfl rfl rfl rfl (decide_eq_false (by omega))) rfl ?_; refine vo_step (ok_assign rfl rfl rfl) rfl ?_; refine vo_nil ?_; refine N_seq ?_; refine V_false rfl ?_; refine V_seq ?_; refine V_region (id := 11) ?_; refine vo_step (ok_moves' rfl rfl rfl) rfl ?_; refine vo_step (ok_lenV L rfl rfl rfl rfl) rfl ?_; refine vo_step (ok_eql rfl rfl rfl rfl (decide_eq_false (by omega))) rfl ?_; refine vo_step (ok_assign rfl rfl rfl) rfl ?_; refine vo_nil ?_; refine N_seq ?_; refine V_false rfl ?_; refine V_regionD (id := 8) [] mixed (by kernel_rfl) ?_; refine par_step (ok_moves' rfl rfl rfl) rfl ?_; refine par_step (ok_indexV L 0 rfl rfl rfl rfl rfl rfl rfl (by first | omega | decide) (by assumption)) rfl ?_; refine par_step (ok_loadPA L (vs := [_, _, _, _, _, _]) rfl rfl rfl rfl rfl ⟨_, rfl⟩) rfl ?_; refine par_step (ok_moves' rfl rfl rfl) rfl ?_; refine par_step (ok_indexV L 0 rfl rfl rfl rfl rfl rfl rfl (by first | omega | decide) (by assumption)) rfl ?_; refine par_step (ok_loadPA L (vs := [_, _, _, _, _, _]) rfl rfl rfl rfl rfl ⟨_, rfl⟩) rfl ?_; refine par_step (ok_callx L rfl rfl (blt_lt rfl) rfl rfl rfl (fun u H hH _ _ => tcmp_ret hH)) rfl ?_; refine par_step (ok_assign rfl rfl rfl) rfl ?_; refine par_nil ?_; refine N_block ?_; refine N_seq ?_; refine V_seq ?_; refine V_region (id := 13) ?_; refine vo_step (ok_build (cs := [_, _, _, _, _, _]) rfl rfl pl81 rfl rfl) rfl ?_; refine vo_step (ok_alloc L rfl rfl rfl rfl) rfl ?_; refine vo_step (ok_store L rfl rfl rfl rfl rfl rfl rfl rfl) rfl ?_; refine vo_nil ?_; refine N_seq ?_; refine V_seq ?_; refine V_seq ?_; refine V_region (id := 14) ?_; refine vo_step (ok_move rfl rfl rfl) rfl ?_; refine vo_step (ok_gtr rfl rfl rfl rfl (decide_eq_false (by omega))) rfl ?_; refine vo_nil ?_; refine N_seq ?_; refine V_false rfl ?_; refine V_seq ?_; refine V_region (id := 16) ?_; refine vo_step (ok_moves' rfl rfl rfl) rfl ?_; refine vo_step (ok_indexV L 0 rfl rfl rfl rfl rfl rfl rfl (by first | omega | decide) (by assumption)) rfl ?_; refine vo_step (ok_loadPA L (vs := [_, _, _, _, _, _]) rfl rfl rfl rfl rfl ⟨_, rfl⟩) rfl ?_; refine vo_step (ok_store L rfl rfl rfl rfl rfl rfl rfl rfl) rfl ?_; refine vo_nil ?_; refine N_seq ?_; refine V_region (id := 17) ?_; refine vo_step (ok_moves' rfl rfl rfl) rfl ?_; refine vo_step (ok_sliceV L (kh := .i64) (ph := 0) (km := .i64) (pm := 0) 1 _ false rfl rfl rfl rfl rfl ⟨rfl, rfl⟩ ⟨rfl, rfl⟩ (fun h => by cases h) (by omega) (by omega) (by assumption)) rfl ?_; refine vo_step (ok_assigns' rfl rfl rfl) rfl ?_; refine vo_nil ?_; refine N_seq ?_; refine V_seq ?_; refine V_seq ?_; refine V_region (id := 18) ?_; refine vo_step (ok_move rfl rfl rfl) rfl ?_; refine vo_step (ok_geq rfl rfl rfl rfl (decide_eq_true (by omega))) rfl ?_; refine vo_nil ?_; refine N_seq ?_; refine V_true rfl ?_; refine V_region (id := 19) ?_; refine vo_step (ok_moves' rfl rfl rfl) rfl ?_; refine vo_step (ok_sliceV L (kh := .i64) (ph := 0) (km := .i64) (pm := 0) 1 _ false rfl rfl rfl rfl rfl ⟨rfl, rfl⟩ ⟨rfl, rfl⟩ (fun h => by cases h) (by omega) (by omega) (by assumption)) rfl ?_; refine vo_step (ok_assigns' rfl rfl rfl) rfl ?_; refine vo_nil ?_; refine N_seq ?_; refine V_seq ?_; refine V_region (id := 20) ?_; refine vo_step (ok_move rfl rfl rfl) rfl ?_; refine vo_step (ok_move rfl rfl rfl) rfl ?_; refine vo_step (ok_leq rfl rfl rfl rfl (decide_eq_true (by omega))) rfl ?_; refine vo_step (ok_move rfl rfl rfl) rfl ?_; refine vo_step (ok_geq rfl rfl rfl rfl (decide_eq_true (by omega))) rfl ?_; refine vo_step (ok_callx L rfl rfl (blt_lt rfl) rfl rfl hfn (fun u H hH _ _ => hfv u H hH)) rfl ?_; refine vo_nil ?_; refine N_seq ?_; refine V_false rfl ?_; refine V_skip ?_; refine N_block ?_
                    exact N_round (x := (n + 1, a :: x, b :: y, out)) (n, x, y, out) ⟨by simp only [List.length_cons, List.length_nil] at hn ⊢; omega, hR, by simp only [List.length_cons, List.length_nil, List.length_append] at hz ⊢; omega⟩ (by dsimp only; omega) ⟨rfl, rfl, rfl, rfl, trivial⟩
                  · have hR : out ++ [a] ++ mrgS cmpT f n x y = R := by rw [← hR]; simp [mrgS, c1, c2, hft]
                    have hfv : ∀ (u : World) (H : Heap), H.Le (hp u) → Ret Try.prog tf [.bool true, .bool true] u H (fun v _ => v = .bool true) := fun u H h => by have := hf true true u H h; rwa [hft] at this
                    refine V_seq ?_; refine V_seq ?_; refine V_region (id := 6) ?_; refine vo_step (ok_moves' rfl rfl rfl) rfl ?_; refine vo_step (ok_lenV L rfl rfl rfl rfl) rfl ?_; refine vo_step (ok_gtr rfl rfl rfl rfl (decide_eq_true (by omega))) rfl ?_; refine vo_step (ok_move rfl rfl rfl) rfl ?_; refine vo_step (ok_skip rfl (blt_lt rfl) rfl) rfl ?_; refine vo_step (ok_skip rfl (blt_lt rfl) rfl) rfl ?_; refine vo_step (ok_skip rfl (blt_lt rfl) rfl) rfl ?_; refine vo_step (ok_pick rfl rfl rfl rfl) rfl ?_; refine vo_nil ?_; refine N_seq ?_; refine V_true rfl ?_; refine V_skip ?_; refine N_seq ?_; refine V_block ?_; refine V_seq ?_; refine V_region (id := 7) ?_; refine vo_step (ok_assign rfl rfl rfl) rfl ?_; refine vo_nil ?_; refine N_seq ?_; refine V_seq ?_; refine V_block ?_; refine V_seq ?_; refine V_region (id := 9) ?_; refine vo_step (ok_moves' rfl rfl rfl) rfl ?_; refine vo_step (ok_lenV L rfl rfl rfl rfl) rfl ?_; refine vo_step (ok_eql rfl rfl rfl rfl (decide_eq_false (by omega))) rfl ?_; refine vo_step (ok_assign rfl rfl rfl) rfl ?_; refine vo_nil ?_; refine N_seq ?_; refine V_false rfl ?_; refine V_seq ?_; refine V_region (id := 11) ?_; refine vo_step (ok_moves' rfl rfl rfl) rfl ?_; refine vo_step (ok_lenV L rfl rfl rfl rfl) rfl ?_; refine vo_step (ok_eql rfl rfl rfl rfl (decide_eq_false (by omega))) rfl ?_; refine vo_step (ok_assign rfl rfl rfl) rfl ?_; refine vo_nil ?_; refine N_seq ?_; refine V_false rfl ?_; refine V_regionD (id := 8) [] mixed (by kernel_rfl) ?_; refine par_step (ok_moves' rfl rfl rfl) rfl ?_; refine par_step (ok_indexV L 0 rfl rfl rfl rfl rfl rfl rfl (by first | omega | decide) (by assumption)) rfl ?_; refine par_step (ok_loadPA L (vs := [_, _, _, _, _, _]) rfl rfl rfl rfl rfl ⟨_, rfl⟩) rfl ?_; refine par_step (ok_moves' rfl rfl rfl) rfl ?_; refine par_step (ok_indexV L 0 rfl rfl rfl rfl rfl rfl rfl (by first | omega | decide) (by assumption)) rfl ?_; refine par_step (ok_loadPA L (vs := [_, _, _, _, _, _]) rfl rfl rfl rfl rfl ⟨_, rfl⟩) rfl ?_; refine par_step (ok_callx L rfl rfl (blt_lt rfl) rfl rfl rfl (fun u H hH _ _ => tcmp_ret hH)) rfl ?_; refine par_step (ok_assign rfl rfl rfl) rfl ?_; refine par_nil ?_; refine N_block ?_; refine N_seq ?_; refine V_seq ?_; refine V_region (id := 13) ?_; refine vo_step (ok_build (cs := [_, _, _, _, _, _]) rfl rfl pl81 rfl rfl) rfl ?_; refine vo_step (ok_alloc L rfl rfl rfl rfl) rfl ?_; refine vo_step (ok_store L rfl rfl rfl rfl rfl rfl rfl rfl) rfl ?_; refine vo_nil ?_; refine N_seq ?_; refine V_seq ?_; refine V_seq ?_; refine V_region (id := 14) ?_; refine vo_step (ok_move rfl rfl rfl) rfl ?_; refine vo_step (ok_gtr rfl rfl rfl rfl (decide_eq_false (by omega))) rfl ?_; refine vo_nil ?_; refine N_seq ?_; refine V_false rfl ?_; refine V_seq ?_; refine V_region (id := 16) ?_; refine vo_step (ok_moves' rfl rfl rfl) rfl ?_; refine vo_step (ok_indexV L 0 rfl rfl rfl rfl rfl rfl rfl (by first | omega | decide) (by assumption)) rfl ?_; refine vo_step (ok_loadPA L (vs := [_, _, _, _, _, _]) rfl rfl rfl rfl rfl ⟨_, rfl⟩) rfl ?_; refine vo_step (ok_store L rfl rfl rfl rfl rfl rfl rfl rfl) rfl ?_; refine vo_nil ?_; refine N_seq ?_; refine V_region (id := 17) ?_; refine vo_step (ok_moves' rfl rfl rfl) rfl ?_; refine vo_step (ok_sliceV L (kh := .i64) (ph := 0) (km := .i64) (pm := 0) 1 _ false rfl rfl rfl rfl rfl ⟨rfl, rfl⟩ ⟨rfl, rfl⟩ (fun h => by cases h) (by omega) (by omega) (by assumption)) rfl ?_; refine vo_step (ok_assigns' rfl rfl rfl) rfl ?_; refine vo_nil ?_; refine N_seq ?_; refine V_seq ?_; refine V_seq ?_; refine V_region (id := 18) ?_; refine vo_step (ok_move rfl rfl rfl) rfl ?_; refine vo_step (ok_geq rfl rfl rfl rfl (decide_eq_true (by omega))) rfl ?_; refine vo_nil ?_; refine N_seq ?_; refine V_true rfl ?_; refine V_region (id := 19) ?_; refine vo_step (ok_moves' rfl rfl rfl) rfl ?_; refine vo_step (ok_sliceV L (kh := .i64) (ph := 0) (km := .i64) (pm := 0) 1 _ false rfl rfl rfl rfl rfl ⟨rfl, rfl⟩ ⟨rfl, rfl⟩ (fun h => by cases h) (by omega) (by omega) (by assumption)) rfl ?_; refine vo_step (ok_assigns' rfl rfl rfl) rfl ?_; refine vo_nil ?_; refine N_seq ?_; refine V_seq ?_; refine V_region (id := 20) ?_; refine vo_step (ok_move rfl rfl rfl) rfl ?_; refine vo_step (ok_move rfl rfl rfl) rfl ?_; refine vo_step (ok_leq rfl rfl rfl rfl (decide_eq_true (by omega))) rfl ?_; refine vo_step (ok_move rfl rfl rfl) rfl ?_; refine vo_step (ok_geq rfl rfl rfl rfl (decide_eq_true (by omega))) rfl ?_; refine vo_step (ok_callx L rfl rfl (blt_lt rfl) rfl rfl hfn (fun u H hH _ _ => hfv u H hH)) rfl ?_; refine vo_nil ?_; refine N_seq ?_; refine V_true rfl ?_; refine V_region (id := 21) ?_; refine vo_step2 (ok_moveO (.inl rfl) rfl rfl rfl rfl) ?_; refine vo_step (ok_loadA L (vs := [_, _, _, _, _, _]) (src_own rfl) rfl rfl rfl rfl ⟨_, rfl⟩) rfl ?_; refine vo_step (ok_buildSlice L rfl rfl rfl rfl rfl rfl rfl rfl rfl) rfl ?_; refine vo_step2 (ok_append L rfl rfl rfl (apd_B rfl) rfl el81 rfl rfl (by omega) (by omega)) ?_; refine vo_step2 (ok_moveO (.inr rfl) rfl rfl rfl rfl) ?_; refine vo_nil ?_; refine N_block ?_
                    exact N_round (x := (n + 1, a :: x, b :: y, out)) (n, x, y, out ++ [a]) ⟨by simp only [List.length_cons, List.length_nil] at hn ⊢; omega, hR, by simp only [List.length_cons, List.length_nil, List.length_append] at hz ⊢; omega⟩ (by dsimp only; omega) ⟨rfl, rfl, rfl, us_snoc rfl, trivial⟩
end Go.V.L2
/- The kit's floor of sorting: what a slot owns is sorted, by the library's contract. -/
namespace Go.V
open Go.Proofs Go.RowKit
/-- What has been kept has grown by blocks, and by draws. -/
theorem keep_grow {w u : World} (h : Keep noL w u) : u = Go.Sort.grow (w.drewN (u.drawn - w.drawn)) (u.heap.extract w.heap.size u.heap.size) := by
  obtain ⟨h1, h2, h3, h4, h5, h6⟩ := h
  have hh : u.heap = w.heap ++ u.heap.extract w.heap.size u.heap.size := by
    apply Array.ext_getElem?
    intro k
    rw [Array.getElem?_append]
    split
    · rename_i hk
      exact h5 k hk (fun e => e)
    · rename_i hk
      rw [Array.getElem?_extract]
      have e : w.heap.size + (k - w.heap.size) = k := by omega
      split
      · rw [e]
      · exact Array.getElem?_eq_none (by omega)
  have hd : u.drawn = w.drawn + (u.drawn - w.drawn) := by omega
  obtain ⟨a1, a2, a3, a4, a5⟩ := u
  obtain ⟨b1, b2, b3, b4, b5⟩ := w
  simp only at h1 h2 h3 hh hd
  simp only [Go.Sort.grow, World.drewN, World.mk.injEq]
  exact ⟨hh, h2, hd, h1, h3⟩
theorem cmpLays {P : Program} {α : Type} [Inhabited α] {g : Nat} {cb : List Value} {enc : α → List Value} {k : Nat} {cf : α → α → Int}
    (h : ∀ (x y : α) (u : World), Ret P g ([.agg (enc x).toArray, .agg (enc y).toArray] ++ cb) u (fun _ => none) (fun v _ => v = .int .i64 (cf x y))) (blk off size : Nat) (w : World) : CmpLays P g cb.toArray enc k cf blk off size w := fun m os dk _ x y => by
  have h1 := h x y (Go.Proofs.sortWorldK enc k w blk off m dk os)
  have e : (#[Value.agg (enc x).toArray, Value.agg (enc y).toArray] ++ cb.toArray : Array Value) = ([Value.agg (enc x).toArray, Value.agg (enc y).toArray] ++ cb).toArray := by simp
  rw [e]
  refine Calls.mono h1 fun e w' hp => ?_
  obtain ⟨v, rfl, H, g', rfl⟩ := hp
  exact ⟨rfl, _, _, keep_grow g'.keep⟩
section
variable {α : Type} [Inhabited α] {enc : α → List Value} {k : Nat}
theorem flatK_list (hk : ∀ x, (enc x).length = k) (d : Array α) : (Go.Sort.flatK enc k d).toList = d.toList.flatMap enc := by
  apply List.ext_getElem?
  intro t
  have hlen : (d.toList.flatMap enc).length = d.size * k := by rw [flatMap_len hk, Array.length_toList]
  by_cases ht : t < d.size * k
  · have k0 : 0 < k := by
      rcases Nat.eq_zero_or_pos k with h | h
      · subst h; simp at ht
      · exact h
    have hd : t / k < d.size := Nat.div_lt_of_lt_mul (by rwa [Nat.mul_comm] at ht)
    have h1 := flatMap_at hk d.toList (t / k) d[t / k] (by simp [hd])
    have h2 := congrArg (·[t % k]?) h1
    simp only [List.getElem?_take, List.getElem?_drop, Nat.mod_lt t k0, if_true] at h2
    rw [Nat.div_add_mod' t k] at h2
    rw [h2]
    have h3 := Go.Sort.get_flatK enc k d t ht
    have hs : t < (Go.Sort.flatK enc k d).size := by rw [Go.Sort.size_flatK]; exact ht
    rw [getElem!_pos (Go.Sort.flatK enc k d) t hs, getElem!_pos d _ hd] at h3
    have h4 : t % k < (enc d[t / k]).length := by rw [hk]; exact Nat.mod_lt t k0
    rw [getElem!_pos (enc d[t / k]) (t % k) h4] at h3
    rw [Array.getElem?_toList, Array.getElem?_eq_getElem hs, h3, List.getElem?_eq_getElem h4]
  · rw [List.getElem?_eq_none (l := d.toList.flatMap enc) (by omega), List.getElem?_eq_none (by rw [Array.length_toList, Go.Sort.size_flatK]; omega)]
theorem holdsK_of (hk : ∀ x, (enc x).length = k) {u : World} {b : Nat} {d : Array α} {rest : List Value} {e : TypeId} (hb : u.heap[b]? = some (.cells (d.toList.flatMap enc ++ rest).toArray e)) : Go.Sort.HoldsK enc k u b 0 d := by
  intro j hj
  rw [← flatK_list hk] at hb
  have h1 : (Go.Sort.flatK enc k d).toList[j]? = some (Go.Sort.flatK enc k d)[j]! := by
    rw [Array.getElem?_toList, Array.getElem?_eq_getElem hj, getElem!_pos _ j hj]
  refine ⟨?_, ?_⟩
  · rw [Nat.zero_add, cell_of_heap hb, List.getElem?_toArray, List.getElem?_append_left (by simpa using hj), h1]
    rfl
  · simp [World.frozen?, hb]
theorem putCells_list {F : Array Value} {xs rest : List Value} (h : F.size = xs.length) : Go.Sort.putCells id 0 F (xs ++ rest).toArray = (F.toList ++ rest).toArray := by
  apply Array.ext_getElem?
  intro t
  simp only [Go.Sort.putCells, Array.getElem?_mapIdx, List.getElem?_toArray]
  by_cases ht : t < F.size
  · rw [List.getElem?_append_left (by omega), List.getElem?_append_left (by simpa using ht), List.getElem?_eq_getElem (by omega), Array.getElem?_toList, Array.getElem?_eq_getElem ht]
    simp only [Option.map_some, Nat.zero_le, Nat.zero_add, ht, and_self, if_true, Nat.sub_zero, id]
    rw [getElem!_pos F t ht]
  · rw [List.getElem?_append_right (by omega), List.getElem?_append_right (by simpa using ht)]
    have e : rest[t - F.toList.length]? = rest[t - xs.length]? := by rw [Array.length_toList, h]
    rw [e]
    cases hr : rest[t - xs.length]? with
    | none => rfl
    | some y =>
      simp only [Option.map_some, Nat.zero_le, Nat.zero_add, true_and]
      rw [if_neg (by omega)]
theorem sortWorldK_cells (hk : ∀ x, (enc x).length = k) {u : World} {b m : Nat} {d d' : Array α} {os : Array Obj} {rest : List Value} {e : TypeId} (hs : d'.size = d.size) (hb : u.heap[b]? = some (.cells (d.toList.flatMap enc ++ rest).toArray e)) :
    (Go.Proofs.sortWorldK enc k u b 0 m d' os).heap[b]? = some (.cells (d'.toList.flatMap enc ++ rest).toArray e) := by
  have hlt : b < u.heap.size := size_of_heap hb
  have hl : (Go.Sort.flatK enc k d').size = (d.toList.flatMap enc).length := by rw [Go.Sort.size_flatK, flatMap_len hk, Array.length_toList, hs]
  show ((u.heap.modify b (Go.Sort.onCells (Go.Sort.putCells id 0 (Go.Sort.flatK enc k d')))) ++ os)[b]? = _
  rw [Array.getElem?_append_left (by rw [Array.size_modify]; exact hlt), Array.getElem?_modify, if_pos rfl, hb]
  show some (Obj.cells (Go.Sort.putCells id 0 (Go.Sort.flatK enc k d') (d.toList.flatMap enc ++ rest).toArray) e) = _
  rw [putCells_list hl, flatK_list hk]
theorem sortWorldK_keep {u : World} {b m : Nat} {d' : Array α} {os : Array Obj} : Keep (fun k => k = b) u (Go.Proofs.sortWorldK enc k u b 0 m d' os) := by
  refine ⟨rfl, rfl, rfl, ?_, fun j hj hn => ?_, Nat.le_add_right _ _⟩
  · show u.heap.size ≤ ((u.heap.modify b (Go.Sort.onCells (Go.Sort.putCells id 0 (Go.Sort.flatK enc k d')))) ++ os).size
    rw [Array.size_append, Array.size_modify]; exact Nat.le_add_right _ _
  · show ((u.heap.modify b (Go.Sort.onCells (Go.Sort.putCells id 0 (Go.Sort.flatK enc k d')))) ++ os)[j]? = _
    rw [Array.getElem?_append_left (by rw [Array.size_modify]; exact hj), Array.getElem?_modify, if_neg (fun e => hn e.symm)]
end
/-- What is asked of a sorting function. -/
structure SortC (P : Program) (α : Type) [Inhabited α] (f g : Nat) (cb : List Value) (enc : α → List Value) (k : Nat) (cf : α → α → Int) : Prop where
  none : ∀ (p : Option Addr) (cap : Nat) (w : World), Calls P f #[.slice p 0 cap, .func (.func g) #[] cb.toArray] w fun e w' => e = .returned (.tuple #[]) ∧ w' = w
  some : ∀ (b cap : Nat) (d : Array α) (w : World), Go.Sort.HoldsK enc k w b 0 d → b < w.heap.size → d.size < 4611686018427387904 →
    Calls P f #[.slice (some ⟨b, 0, .none⟩) d.size cap, .func (.func g) #[] cb.toArray] w fun e w' => e = .returned (.tuple #[]) ∧ ∃ d' n os, Go.Sort.PermIn 0 d.size d d' ∧ Go.Sort.SortedIn (Go.Proofs.ltOf cf) 0 d.size d' ∧ w' = Go.Proofs.sortWorldK enc k w b 0 n d' os
/-- A sorted permutation. -/
def SoP {α : Type} (cf : α → α → Int) (l l' : List α) : Prop := l'.Perm l ∧ l'.Pairwise fun a b => ¬ cf b a < 0
theorem sop_of {α : Type} [Inhabited α] {cf : α → α → Int} {d d' : Array α} (h1 : Go.Sort.PermIn 0 d.size d d') (h2 : Go.Sort.SortedIn (Go.Proofs.ltOf cf) 0 d.size d') : SoP cf d.toList d'.toList := by
  obtain ⟨hs, _, hp⟩ := h1
  have e1 : d.extract 0 d.size = d := by simp
  have e2 : d'.extract 0 d.size = d' := by rw [← hs]; simp
  rw [e1, e2] at hp
  refine ⟨hp, List.pairwise_iff_getElem.2 fun i j hi hj hij => ?_⟩
  rw [Array.length_toList] at hi hj
  have h3 := h2 i j (Nat.zero_le _) hij (by omega)
  rw [getElem!_pos d' j hj, getElem!_pos d' i hi] at h3
  have h4 : ¬ cf d'[j] d'[i] < 0 := by simpa [Go.Proofs.ltOf] using h3
  simpa using h4
section
variable {P : Program} {F : Fr} {B : Heap} {O : Boxes} {n : Nat} {ops : Array Oper} {κ : Kap} {ty : TypeId} {pos : String} {aft : Array Edge} {g : Option (Nat × Bool)}
/-- What a slot owns, sorted. -/
def SoR {α : Type} (e : TypeId) (s : Nat) (enc : α → List Value) (cf : α → α → Int) (l : List α) : Res := ExR (fun l' : List α => SlR e s l'.length (l'.flatMap enc)) (fun l' _ => SoP cf l l') (fun _ _ _ h _ => h)
theorem ok_sort (L : Tabs P) {α : Type} [Inhabited α] {q f gf : Nat} {e : TypeId} {s : Nat} {cb : List Value} {enc : α → List Value} {cf : α → α → Int} {l : List α} {o : Oper} {fa fo : Operand} {at_ : Array TypeId}
    (hop : o.op = .call { callee := .value fo, args := #[.tmp q, fa], argTypes := at_ }) (hd : o.dst = none) (hg : gK ops κ o = some true) (hf : evK κ fo = some (.func (.func f) #[] #[])) (hfn : L.fn f = some ())
    (hq : κ q = some (.own (SlR e s l.length (l.flatMap enc)))) (hfa : evK κ fa = some (.func (.func gf) #[] cb.toArray)) (hk : ∀ x, (enc x).length = s) (hz : l.length < 4611686018427387904) (hC : SortC P α f gf cb enc s cf) :
    StepOKS P F B n ops O κ o q (.own (SoR e s enc cf l)) := by
  rintro κ' a u hlk hqk ⟨H, fp, hh⟩
  unfold After
  rw [if_pos (wanted_gK hh hlk hg)]
  have en := hh.env hlk
  have hfe : a.eval fo = .func (.func f) #[] ([] : List Value).toArray := en.is_ fo _ (by simp [hop, Op.operands, Call.operands]) hf
  have hae := en.is_ fa _ (by simp [hop, Op.operands, Call.operands]) hfa
  have hqs := hqk.trans hq
  obtain ⟨⟨hl, hown⟩, hM⟩ := hh.slot q _ hqs
  rw [run_call L hop hfe hfn]
  simp only [Upon, List.map_cons, List.map_nil, List.append_nil, hae]
  rcases hown with ⟨h0, hv, hc0⟩ | ⟨b, cap, rest, hv, hb, h3, h4, h5, hc⟩
  · rw [hv]
    refine Calls.mono (hC.none none 0 u) fun e' u' hp => ?_
    obtain ⟨rfl, rfl⟩ := hp
    refine ⟨_, rfl, ?_⟩
    simp only [hd]
    refine ⟨H, _, hh.turnR hqs ⟨l, ⟨List.Perm.refl _, ?_⟩, hl, .inl ⟨h0, hv, hc0⟩⟩⟩
    have : l = [] := List.eq_nil_of_length_eq_zero h0
    subst this
    exact List.Pairwise.nil
  · rw [hv]
    have hbm := hM b ((hc b).2 rfl)
    have hb' : u.heap[b]? = some (.cells (l.toArray.toList.flatMap enc ++ rest).toArray e) := hb
    refine Calls.mono (hC.some b cap l.toArray u (holdsK_of hk hb') hbm.1 (by simpa using hz)) fun e' u' hp => ?_
    obtain ⟨rfl, d', m, os, hp1, hp2, rfl⟩ := hp
    refine ⟨_, rfl, ?_⟩
    simp only [hd]
    have hso := sop_of hp1 hp2
    have hsz : d'.size = l.toArray.size := hp1.1
    have hcell := sortWorldK_cells (m := m) (os := os) hk hsz hb'
    have hkp := sortWorldK_keep (enc := enc) (k := s) (u := u) (b := b) (m := m) (d' := d') (os := os)
    have hgr : Grow (fp q) u H (Go.Proofs.sortWorldK enc s u b 0 m d' os) H := ⟨hkp.weak (fun k _ hk => (hc k).2 hk), fun k x hx => by
      have h1 := hh.sub _ _ hx
      have hne : k ≠ b := fun e => by subst e; rw [hbm.2.1] at hx; cases hx
      exact (hkp.block k (size_of_heap h1) hne).trans h1, Heap.Le.refl _, fun _ _ _ => rfl⟩
    have hll : d'.toList.length = l.length := by rw [Array.length_toList, hsz]; simp
    have h2 := hh.usePut (d := q) (a' := a) (r' := SoR e s enc cf l) (C := fun k => k = b) hqs hgr rfl rfl (fun _ _ => rfl)
      ⟨d'.toList, hso, by rw [flatMap_len hk], .inr ⟨b, cap, rest, by rw [hll]; exact hv, hcell, by rw [hll]; exact h3, h4, by rw [List.length_append, flatMap_len hk, hll, ← flatMap_len hk l, ← List.length_append]; exact h5, fun _ => Iff.rfl⟩⟩ (fun k hk => by
        subst hk
        exact ⟨.inl ((hc k).2 rfl), Nat.lt_of_lt_of_le hbm.1 hkp.size, hbm.2.1⟩)
    rw [upd_upd] at h2
    exact ⟨H, _, h2⟩
end
end Go.V
/- The kit's floor of slices that are worked on in place: sorted, cut, cleared, handed on and back. -/
namespace Go.V
open Go.Proofs Go.RowKit
/-- What is returned is the caller's; it may be what was lent. -/
def OwnT (w : World) (C : Nat → Prop) (r : Res) (v : Value) (H : Heap) (u : World) : Prop := ∃ C' : Nat → Prop, r.P v H u C' ∧ ∀ k, C' k → (C k ∨ w.heap.size ≤ k) ∧ k < u.heap.size ∧ H k = none
def RetT (P : Program) (f : FuncId) (args : List Value) (w : World) (B : Heap) (C : Nat → Prop) (r : Res) : Prop := RetL P f args w B C (OwnT w C r)
theorem zeroCells_all {zs : Array Value} {m : Nat} (h : zs.all plainV = true) : ∀ v ∈ Builtin.zeroCells zs m, plainV v = true := by
  intro v hv
  unfold Builtin.zeroCells at hv
  obtain ⟨i, hi, rfl⟩ := Array.mem_map.1 hv
  have hi' : i < m * zs.size := by simpa using hi
  have hpos : 0 < zs.size := by
    rcases Nat.eq_zero_or_pos zs.size with e | e
    · rw [e] at hi'; simp at hi'
    · exact e
  have hlt := Nat.mod_lt i hpos
  rw [getElem!_pos zs _ hlt]
  exact Array.all_eq_true.1 h _ hlt
section
variable {P : Program} {F : Fr} {B : Heap} {O : Boxes} {n : Nat} {ops : Array Oper} {κ : Kap} {d : Nat} {ty : TypeId} {pos : String} {aft : Array Edge} {g : Option (Nat × Bool)} {a : Act} {u : World} {H : Heap} {fp : Nat → Nat → Prop} {Q : Exit → Act → World → Prop}
/-- A sorting function is called with what a slot beside the argument's owns. -/
theorem ok_sortA (L : Tabs P) {α : Type} [Inhabited α] {q f gf : Nat} {e : TypeId} {s : Nat} {cb : List Value} {enc : α → List Value} {cf : α → α → Int} {l : List α} {o : Oper} {y fa fo : Operand} {x : Value} {at_ : Array TypeId}
    (hop : o.op = .call { callee := .value fo, args := #[y, fa], argTypes := at_ }) (hd : o.dst = some d) (hn : Nat.blt d n = true) (hg : gK ops κ o = some true) (hf : evK κ fo = some (.func (.func f) #[] #[])) (hfn : L.fn f = some ())
    (hy : evK κ y = some x) (hq : κ q = some (.own (AtV x (SlR e s l.length (l.flatMap enc))))) (hfa : evK κ fa = some (.func (.func gf) #[] cb.toArray)) (hk : ∀ x, (enc x).length = s) (hz : l.length < 4611686018427387904) (hC : SortC P α f gf cb enc s cf) :
    StepOK2 P F B n ops O κ o q (.own (AtV x (SoR e s enc cf l))) d (.is (.tuple #[])) := by
  rintro κ' a u hlk hqk ⟨H, fp, hh⟩
  unfold After
  rw [if_pos (wanted_gK hh hlk hg)]
  have en := hh.env hlk
  have hfe : a.eval fo = .func (.func f) #[] ([] : List Value).toArray := en.is_ fo _ (by simp [hop, Op.operands, Call.operands]) hf
  have hae := en.is_ fa _ (by simp [hop, Op.operands, Call.operands]) hfa
  have hye := en.is_ y _ (by simp [hop, Op.operands, Call.operands]) hy
  have hqs := hqk.trans hq
  obtain ⟨⟨hl, hown⟩, hM⟩ := hh.slot q _ hqs
  rw [run_call L hop hfe hfn]
  simp only [Upon, List.map_cons, List.map_nil, List.append_nil, hae, hye]
  rcases hown with ⟨h0, hv, hc0⟩ | ⟨b, cap, rest, hv, hb, h3, h4, h5, hc⟩
  · rw [hv]
    refine Calls.mono (hC.none none 0 u) fun e' u' hp => ?_
    obtain ⟨rfl, rfl⟩ := hp
    refine ⟨_, rfl, ?_⟩
    simp only [hd]
    have : l = [] := List.eq_nil_of_length_eq_zero h0
    subst this
    exact ⟨H, _, (hh.turnR hqs (r' := AtV (.slice none 0 0) (SoR e s enc cf [])) ⟨[], ⟨List.Perm.refl _, List.Pairwise.nil⟩, hl, .inl ⟨h0, rfl, hc0⟩⟩).put (k := .is (.tuple #[])) (blt_lt hn) trivial rfl⟩
  · rw [hv]
    have hbm := hM b ((hc b).2 rfl)
    have hb' : u.heap[b]? = some (.cells (l.toArray.toList.flatMap enc ++ rest).toArray e) := hb
    refine Calls.mono (hC.some b cap l.toArray u (holdsK_of hk hb') hbm.1 (by simpa using hz)) fun e' u' hp => ?_
    obtain ⟨rfl, d', m, os, hp1, hp2, rfl⟩ := hp
    refine ⟨_, rfl, ?_⟩
    simp only [hd]
    have hso := sop_of hp1 hp2
    have hsz : d'.size = l.toArray.size := hp1.1
    have hcell := sortWorldK_cells (m := m) (os := os) hk hsz hb'
    have hkp := sortWorldK_keep (enc := enc) (k := s) (u := u) (b := b) (m := m) (d' := d') (os := os)
    have hgr : Grow (fp q) u H (Go.Proofs.sortWorldK enc s u b 0 m d' os) H := ⟨hkp.weak (fun k _ hk => (hc k).2 hk), fun k x hx => by
      have h1 := hh.sub _ _ hx
      have hne : k ≠ b := fun e => by subst e; rw [hbm.2.1] at hx; cases hx
      exact (hkp.block k (size_of_heap h1) hne).trans h1, Heap.Le.refl _, fun _ _ _ => rfl⟩
    have hll : d'.toList.length = l.length := by rw [Array.length_toList, hsz]; simp
    have h2 := hh.usePut (d := q) (a' := a) (r' := AtV (.slice (some ⟨b, 0, none⟩) l.length cap) (SoR e s enc cf l)) (C := fun k => k = b) hqs hgr rfl rfl (fun _ _ => rfl)
      ⟨d'.toList, hso, by rw [flatMap_len hk], .inr ⟨b, cap, rest, by rw [hll], hcell, by rw [hll]; exact h3, h4, by rw [List.length_append, flatMap_len hk, hll, ← flatMap_len hk l, ← List.length_append]; exact h5, fun _ => Iff.rfl⟩⟩ (fun k hk => by
        subst hk
        exact ⟨.inl ((hc k).2 rfl), Nat.lt_of_lt_of_le hbm.1 hkp.size, hbm.2.1⟩)
    rw [upd_upd] at h2
    exact ⟨H, _, h2.put (k := .is (.tuple #[])) (blt_lt hn) trivial rfl⟩
/-- A call that takes what a slot owns, and gives what is owned. -/
theorem ok_callTO (L : Tabs P) {q f : Nat} {args : Array Operand} {at_ : Array TypeId} {cap : List Value} {r r' : Res} {fo : Operand}
    (hn : Nat.blt d n = true) (hg : gK ops κ ⟨some d, .call { callee := .value fo, args := args, argTypes := at_ }, ty, pos, aft, g⟩ = some true)
    (hf : evK (upd κ q (.is undef)) fo = some (.func (.func f) #[] cap.toArray)) (hfn : L.fn f = some ()) (hq : κ q = some (.own r))
    (h : ∀ u H C x, H.Le (hp u) → B.Le H → r.P x H u C → (∀ k, C k → k < u.heap.size ∧ H k = none) → Args (upd κ q (.is x)) H args.toList [] (fun vs => RetT P f (vs ++ cap) u H C r')) :
    StepOK2 P F B n ops O κ ⟨some d, .call { callee := .value fo, args := args, argTypes := at_ }, ty, pos, aft, g⟩ q nilK d (.own r') := by
  rintro κ' a u hlk hks ⟨H, fp, hh⟩
  unfold After
  rw [if_pos (wanted_gK hh hlk hg)]
  have hk' : κ' q = some (.own r) := hks.trans hq
  obtain ⟨hown, hM⟩ := hh.slot q _ hk'
  have hh2 := hh.name q
  have e2 : Env F B O (upd κ q (.is (a.eval (.tmp q)))) ⟨some d, .call { callee := .value fo, args := args, argTypes := at_ }, ty, pos, aft, g⟩ a u H fp := hh2.env (ops := ops) fun t ht => by
    by_cases htq : t = q
    · subst htq; rw [upd_same, upd_same]
    · rw [upd_other _ _ htq, upd_other _ _ htq]; exact hlk t ht
  have hfe : a.eval fo = .func (.func f) #[] cap.toArray := by
    refine e2.is_ fo _ (by simp [Op.operands, Call.operands]) ?_
    cases fo with
    | tmp t =>
      simp only [evK] at hf ⊢
      by_cases htq : t = q
      · subst htq; rw [upd_same] at hf; cases hf
      · rw [upd_other _ _ htq] at hf ⊢; exact hf
    | _ => exact hf
  have hc := Args.use e2 args.toList [] (fun x hx => by simp [Op.operands, Call.operands] at hx ⊢; exact .inr hx) (h u H (fp q) _ hh.sub hh.base hown fun k hk => ⟨(hM k hk).1, (hM k hk).2.1⟩)
  simp only [List.reverse_nil, List.nil_append] at hc
  rw [run_call L rfl hfe hfn]
  simp only [Upon]
  refine Calls.mono hc fun e' u' hp => ?_
  obtain ⟨v, rfl, H', g', C', hv, hC'⟩ := hp
  exact ⟨v, rfl, H', _, hh.usePut (d := d) (a' := a.put (some d) v) hk' g' (by simp [Act.put]) rfl (fun t ht => eval_put_other ht) (by rw [eval_put_same (by rw [hh.size]; exact blt_lt hn)]; exact hv) hC'⟩
theorem V_retT {fn : Func} {B0 : Heap} {t : Nat} {r : Res} (hrs : fn.results = #[.tmp t]) (hQ : ∀ a u, bodyPostM Fence.wide 0 P fn (PostL F.w0 B0 F.L (OwnT F.w0 F.L r)) .ret a u → Q .ret a u) (hs : Since F B0 B) (hk : κ t = some (.own r)) : V P F B n O κ .ret Q :=
  V_retG hQ hs fun O' a u H fp _ hh => by
    obtain ⟨hown, hM⟩ := hh.slot t _ hk
    refine ⟨a.eval (.tmp t), ?_, fp t, hown, fun k hk => ?_⟩
    · simp [results, hrs, Act.eval]
    · obtain ⟨h1, h2, h3, _⟩ := hM k hk
      exact ⟨h3.symm, h1, h2⟩
/-- The block of an owned slice is held beside its slot. -/
theorem V_holdR (t q : Nat) {e : TypeId} {s m : Nat} {xs : List Value} {c : Code} (hk : κ t = some (.own (SlR e s m xs)))
    (h0 : m = 0 → xs = [] → V P F B n O (upd κ t (.is (.slice none 0 0))) c Q)
    (h : ∀ b cap rest, xs.length = m * s → m ≤ cap → cap ≤ maxLen → (xs ++ rest).length = cap * s → V P F B n O (upd (upd (upd κ t nilK) q (.own (HeldR b (xs ++ rest) e))) t (.is (.slice (some ⟨b, 0, none⟩) m cap))) c Q) : V P F B n O κ c Q := fun a u hh => by
  obtain ⟨H, fp, hh⟩ := hh
  obtain ⟨⟨hl, hv⟩, hM⟩ := hh.slot t _ hk
  rcases hv with ⟨hm, hv, _⟩ | ⟨b, cap, rest, hv, hb, h3, h4, h5, hC⟩
  · have h3 := hh.name t
    rw [hv] at h3
    subst hm
    exact h0 rfl (List.eq_nil_of_length_eq_zero (by simpa using hl)) a u ⟨H, _, h3⟩
  · have h2 := hh.usePut (d := q) (a' := a) (r' := HeldR b (xs ++ rest) e) (C := fp t) hk ⟨Keep.refl _ _, hh.sub, Heap.Le.refl _, fun _ _ _ => rfl⟩ rfl rfl (fun _ _ => rfl) ⟨hb, hC⟩ fun k hk => ⟨.inl hk, (hM k hk).1, (hM k hk).2.1⟩
    have h3' := h2.name t
    rw [hv] at h3'
    exact h b cap rest hl h3 h4 h5 a u ⟨H, _, h3'⟩
theorem V_releaseR (t q : Nat) {b m cap : Nat} {e : TypeId} {s : Nat} {xs rest cs : List Value} {c : Code} (hcs : cs = xs ++ rest) (hk : κ q = some (.own (HeldR b cs e))) (ht : κ t = some (.is (.slice (some ⟨b, 0, none⟩) m cap))) (hl : xs.length = m * s) (hm : m ≤ cap) (hc : cap ≤ maxLen) (hcl : cs.length = cap * s)
    (h : V P F B n O (upd (upd κ q nilK) t (.own (SlR e s m xs))) c Q) : V P F B n O κ c Q := fun a u hh => by
  subst hcs
  obtain ⟨H, fp, hh⟩ := hh
  obtain ⟨⟨hb, hC⟩, hM⟩ := hh.slot q _ hk
  have hx : a.eval (.tmp t) = .slice (some ⟨b, 0, none⟩) m cap := hh.slot t _ ht
  exact h a u ⟨H, _, hh.usePut (d := t) (a' := a) (r' := SlR e s m xs) (C := fp q) hk ⟨Keep.refl _ _, hh.sub, Heap.Le.refl _, fun _ _ _ => rfl⟩ rfl rfl (fun _ _ => rfl) ⟨hl, .inr ⟨b, cap, rest, hx, hb, hm, hc, hcl, hC⟩⟩ fun k hk => ⟨.inl hk, (hM k hk).1, (hM k hk).2.1⟩⟩
theorem ok_shr {t t' : TypeId} {x y : Operand} {k k2 : IntKind} {p q r : Int} (hn : Nat.blt d n = true) (hg : gK ops κ ⟨some d, .binOp .shr t x y t', ty, pos, aft, g⟩ = some true) (hx : evK κ x = some (.int k p)) (hy : evK κ y = some (.int k2 q)) (h0 : 0 ≤ q) (hb : p.fdiv (2 ^ min q.toNat k.bits) = r) :
    StepOK P F B n ops O κ ⟨some d, .binOp .shr t x y t', ty, pos, aft, g⟩ d (.is (.int k r)) := ok_bin hn hg hx hy fun u => by subst hb; simp [eqGuard_shr, binOp_shr, Op.shift, Int.not_lt.2 h0]
/-- A known slice is cut. -/
theorem ok_sliceI (L : Tabs P) {x : Operand} {tt e : TypeId} {s m b off cap : Nat} {lo hi : Option Operand} {kl kh : IntKind} {ag : Bool} (i j : Nat) {pl ph : Int} (hn : Nat.blt d n = true) (hg : gK ops κ ⟨some d, .slice tt x lo hi none, ty, pos, aft, g⟩ = some true)
    (hx : evK κ x = some (.slice (some ⟨b, off, none⟩) m cap)) (ht : L.sl tt = some e) (hl : L.ld e = some (ag, s))
    (hlo : match lo with | some y => evK κ y = some (.int kl pl) ∧ pl = i | none => i = 0) (hhi : match hi with | some y => evK κ y = some (.int kh ph) ∧ ph = j | none => j = m)
    (hij : i ≤ j) (hjc : j ≤ cap) :
    StepOK P F B n ops O κ ⟨some d, .slice tt x lo hi none, ty, pos, aft, g⟩ d (.is (.slice (some (if cap = i then ⟨b, off, none⟩ else ⟨b, off + i * s, none⟩)) (j - i) (cap - i))) :=
  ok_pure rfl (blt_lt hn) hg trivial fun a u H fp en => ⟨_, by
    have hu := Tabs.sl_spec ht
    have h1 := en.is_ x _ (by simp [Op.operands]) hx
    have hrun : (Instr.sliceBounds true m cap (lo.map a.eval) (hi.map a.eval) none).run P u = .ok (i, j, cap) u := by
      cases hi with
      | none =>
        simp only at hhi
        subst hhi
        cases lo with
        | none => simp only at hlo; subst hlo; simp [Instr.sliceBounds]
        | some z =>
          obtain ⟨hz, rfl⟩ := hlo
          have h3 := en.is_ z _ (by simp [Op.operands]) hz
          simp [h3, Instr.sliceBounds, run_bound i kl _ _ hij]
      | some y =>
        obtain ⟨hy, rfl⟩ := hhi
        have h2 := en.is_ y _ (by simp [Op.operands]) hy
        cases lo with
        | none => simp only at hlo; subst hlo; simp [h2, Instr.sliceBounds, run_bound j kh cap _ hjc]
        | some z =>
          obtain ⟨hz, rfl⟩ := hlo
          have h3 := en.is_ z _ (by simp [Op.operands]) hz
          simp [h2, h3, Instr.sliceBounds, run_bound j kh cap _ hjc, run_bound i kl _ _ hij]
    simp only [execOp, h1, Instr.sliceAt, Instr.slice, Sem.run_bind, run_underlying hu, Result.andThen_ok, Option.map_none, hrun, run_sizeOf (Tabs.ld_spec hl), Sem.run_pure]
    congr 3
    split <;> simp [Addr.add], rfl⟩
/-- Elements of what is held are cleared. -/
theorem ok_clearH (L : Tabs P) {q : Nat} {y : Operand} {tt e t' : TypeId} {by_ s b off m cap : Nat} {z : Value} {cs cs' : List Value} (hg : gK ops κ ⟨none, .call ⟨.builtin .clear, #[y], #[tt]⟩, ty, pos, aft, g⟩ = some true)
    (hy : evK κ y = some (.slice (some ⟨b, off, none⟩) m cap)) (hq : κ q = some (.own (HeldR b cs t'))) (ht : L.sl tt = some e) (he : elI P e = some (s, by_)) (hz : L.zr e = some z) (hz1 : z.cells.toList.all plainV = true)
    (hcs : m = 0 ∨ off + m * s ≤ cs.length) (hr : m ≠ 0 → cs.take off ++ ((Builtin.zeroCells z.cells m).toList ++ cs.drop (off + m * s)) = cs') (hr0 : m = 0 → cs = cs') :
    StepOKS P F B n ops O κ ⟨none, .call ⟨.builtin .clear, #[y], #[tt]⟩, ty, pos, aft, g⟩ q (.own (HeldR b cs' t')) := by
  rintro κ' a u hlk hqk ⟨H, fp, hh⟩
  unfold After
  rw [if_pos (wanted_gK hh hlk hg)]
  have en := hh.env hlk
  have hye := en.is_ y _ (by simp [Op.operands, Call.operands]) hy
  have hqs := hqk.trans hq
  obtain ⟨⟨hb, hC⟩, hM⟩ := hh.slot q _ hqs
  by_cases hm : m = 0
  · subst hm
    obtain rfl := hr0 rfl
    have hrun : (execOp a.eval ⟨none, .call ⟨.builtin .clear, #[y], #[tt]⟩, ty, pos, aft, g⟩).run P u = .ok (.value (.tuple #[])) u := by
      simp [execOp, resolve, invoke, builtin, hye, Builtin.clear_, run_underlying (Tabs.sl_spec ht)]
    rw [hrun]
    simp only [Upon, Act.put]
    exact ⟨H, fp, by
      have : upd κ' q (.own (HeldR b cs t')) = κ' := by
        funext t
        by_cases h : t = q
        · subst h; rw [upd_same]; exact hqs.symm
        · rw [upd_other _ _ h]
      rw [this]; exact hh⟩
  · have hr := hr hm
    subst hr
    have hcs' := hcs.resolve_left hm
    obtain ⟨i, z', hi, hz', hs1, hs2, hs3, hs4⟩ := elI_spec he
    have hzz := Tabs.zr_spec hz
    have hzr : (zeroValue e).run P u = .ok z u := by
      unfold zrI at hzz
      split at hzz
      · rename_i it hit
        simp [zeroValue, typeInfo, hit, hzz]
      · cases hzz
    have hze : z' = z := by
      have h1 : (zeroValue e).run P u = .ok z' u := by simp [zeroValue, typeInfo, hi, hz']
      rw [hzr] at h1
      cases h1; rfl
    subst hze
    have hzl : (Builtin.zeroCells z'.cells m).toList.length = m * s := by rw [Array.length_toList, size_zeroCells, hs3]
    have hst := run_storeCells_at (P := P) b t' off (Builtin.zeroCells z'.cells m).toList 0 cs.toArray u hb (by rw [hzl]; simpa using hcs') (fun v hv => by
      have h1 : v ∈ Builtin.zeroCells z'.cells m := by simpa using hv
      exact plain_one (zeroCells_all (by rw [← Array.all_toList]; exact hz1) v h1))
    have hrun : (execOp a.eval ⟨none, .call ⟨.builtin .clear, #[y], #[tt]⟩, ty, pos, aft, g⟩).run P u = .ok (.value (.tuple #[])) (u.setRow b (cs.take off ++ ((Builtin.zeroCells z'.cells m).toList ++ cs.drop (off + m * s))).toArray) := by
      rw [hzl] at hst
      cases m with
      | zero => exact absurd rfl hm
      | succ m =>
        simp only [execOp, resolve, invoke, builtin, Sem.run_bind, Sem.run_pure, Result.andThen_ok, List.map_toArray, List.map_cons, List.map_nil, hye, Builtin.clear_, List.getElem?_toArray, List.getElem?_cons_zero, run_underlying (Tabs.sl_spec ht), hzr]
        rw [hst]
        simp
    rw [hrun]
    simp only [Upon, Act.put]
    have hset := setRow_heap u b cs.toArray (cs.take off ++ ((Builtin.zeroCells z'.cells m).toList ++ cs.drop (off + m * s))).toArray t' (0, 0) hb
    have hbm := hM b ((hC b).2 rfl)
    have := hh.usePut (d := q) (a' := a) (r' := HeldR b (cs.take off ++ ((Builtin.zeroCells z'.cells m).toList ++ cs.drop (off + m * s))) t') (C := fun k => k = b) hqs (grow_setRow hh.sub hb ((hC b).2 rfl) hbm.2.1 _) rfl rfl (fun _ _ => rfl) ⟨hset, fun _ => Iff.rfl⟩ (fun k hk => by
      subst hk; exact ⟨.inl ((hC k).2 rfl), by rw [setRow_size]; exact hbm.1, hbm.2.1⟩)
    rw [upd_upd] at this
    exact ⟨H, _, this⟩
/-- A slice of no element, of the call's own. -/
theorem ok_buildSlice0 (L : Tabs P) {t e : TypeId} {ag : Bool} {s : Nat} {z : Value} (hn : Nat.blt d n = true) (hg : gK ops κ ⟨some d, .buildSlice t 0 #[], ty, pos, aft, g⟩ = some true) (ht : L.sl t = some e) (hl : L.ld e = some (ag, s)) (hz : L.zr e = some z) :
    StepOK P F B n ops O κ ⟨some d, .buildSlice t 0 #[], ty, pos, aft, g⟩ d (.own (SlR e s 0 [])) := by
  rintro κ' a u hlk ⟨H, fp, hh⟩
  unfold After
  rw [if_pos (wanted_gK hh hlk hg)]
  have hrun : (execOp a.eval ⟨some d, .buildSlice t 0 #[], ty, pos, aft, g⟩).run P u = .ok (.value (.slice (some ⟨u.heap.size, 0, none⟩) 0 0)) (u.alloc (.cells #[] e)) := by
    have hzz := Tabs.zr_spec hz
    unfold zrI at hzz
    split at hzz
    · rename_i it hit
      have hzr : (zeroValue e).run P u = .ok z u := by simp [zeroValue, typeInfo, hit, hzz]
      simp only [execOp, Sem.run_bind]
      have e0 : (Array.map (fun x : Nat × Operand => (x.1, a.eval x.2)) #[]) = (#[] : Array (Nat × Value)) := by simp
      rw [e0]
      have hfill : Instr.fill (fun i => some (i * s, s)) #[] [] = some #[] := by simp [Instr.fill]
      simp only [Instr.buildSlice, Sem.run_bind, run_underlying (Tabs.sl_spec ht), Result.andThen_ok, run_sizeOf (Tabs.ld_spec hl)]
      simp only [Nat.zero_mul, if_true, Sem.run_pure, Result.andThen_ok]
      have e1 : (Array.range 0).map (fun _ : Nat => (default : Value)) = #[] := by simp
      simp [newRow, hfill, e1]
    · cases hzz
  rw [hrun]
  simp only [Upon]
  have hg2 := hh.grow (Grow.hid hh.sub (.cells #[] e))
  refine ⟨H, _, hg2.putR (C := fun k => k = u.heap.size) (by simp [Act.put]) rfl (fun t ht => eval_put_other ht) ⟨by simp, .inr ⟨u.heap.size, 0, [], eval_put_same (by rw [hh.size]; exact blt_lt hn), heap_push_same _ _, Nat.le_refl _, by simp [maxLen], by simp, fun _ => Iff.rfl⟩⟩ (fun k hk => ?_) fun t r' _ ht k hf hk => ?_⟩
  · subst hk
    exact ⟨size_of_heap (heap_push_same u _), none_of_ge hh.sub (Nat.le_refl _), .inl hh.keep.size, fun y hy e => by have := size_of_heap (hh.boxes y hy).1; omega⟩
  · have := ((hh.slot t _ ht).2 k hf).1
    omega
end
end Go.V
/- Sorted lists once more: equal neighbours are taken out; where a thing is. Plain laws. -/
namespace Go.V
open Go.Proofs Go.RowKit
section
variable {α : Type} [DecidableEq α]
/-- Of equal neighbours one stays. -/
def dd : List α → List α
  | [] => []
  | [x] => [x]
  | x :: y :: l => if x = y then dd (y :: l) else x :: dd (y :: l)
theorem dd_ne : ∀ {l : List α}, l ≠ [] → dd l ≠ []
  | [x], _ => by simp [dd]
  | x :: y :: l, _ => by
    simp only [dd]
    split
    · exact dd_ne (by simp)
    · simp
theorem dd_snoc : ∀ (l : List α) (y z : α), l.getLast? = some y → dd (l ++ [z]) = if z = y then dd l else dd l ++ [z]
  | [], _, _, h => by simp at h
  | [x], y, z, h => by
    simp at h
    subst h
    by_cases e : z = x
    · subst e; simp [dd]
    · have e' : ¬ x = z := fun h => e h.symm
      simp [dd, e, e']
  | x :: w :: l, y, z, h => by
    have ih := dd_snoc (w :: l) y z (by simpa using h)
    simp only [List.cons_append] at ih ⊢
    simp only [dd]
    by_cases e : x = w
    · rw [if_pos e, if_pos e]; exact ih
    · rw [if_neg e, if_neg e, ih]
      split
      · rfl
      · rfl
theorem dd_last : ∀ (l : List α), (dd l).getLast? = l.getLast?
  | [] => rfl
  | [x] => rfl
  | x :: y :: l => by
    have ih := dd_last (y :: l)
    simp only [dd]
    split
    · rw [ih]; simp
    · rw [List.getLast?_cons, ih]; simp [List.getLast?_cons]
theorem dd_mem {z : α} : ∀ {l : List α}, z ∈ dd l ↔ z ∈ l
  | [] => Iff.rfl
  | [x] => Iff.rfl
  | x :: y :: l => by
    have ih := dd_mem (z := z) (l := y :: l)
    simp only [dd]
    split
    · rename_i e
      subst e
      rw [ih]; simp
    · rw [List.mem_cons, ih, List.mem_cons (a := z) (b := x)]
theorem dd_length : ∀ (l : List α), (dd l).length ≤ l.length
  | [] => Nat.le_refl _
  | [x] => Nat.le_refl _
  | x :: y :: l => by
    have ih := dd_length (y :: l)
    simp only [dd]
    split
    · simp only [List.length_cons] at ih ⊢; omega
    · simp only [List.length_cons] at ih ⊢; omega
variable {c : α → α → Int}
theorem dd_sst (h : Ord3 c) : ∀ {l : List α}, (l.Pairwise fun a b => ¬ c b a < 0) → Sst c (dd l)
  | [], _ => Sst.nil
  | [x], _ => List.pairwise_singleton ..
  | x :: y :: l, hs => by
    have h1 := List.pairwise_cons.1 hs
    have ih := dd_sst h h1.2
    simp only [dd]
    split
    · exact ih
    · rename_i e
      refine List.pairwise_cons.2 ⟨fun z hz => ?_, ih⟩
      have hxy : c x y < 0 := h.tri (h1.1 y (List.mem_cons_self ..)) (fun e' => e e'.symm)
      rcases List.mem_cons.1 (dd_mem.1 hz) with rfl | hz'
      · exact hxy
      · have h2 := (List.pairwise_cons.1 h1.2).1 z hz'
        by_cases e2 : y = z
        · rw [← e2]; exact hxy
        · exact h.tr hxy (h.tri h2 (fun e' => e2 e'.symm))
/-- What is sorted, equal neighbours being taken out, is the sorted list. -/
theorem dd_sort (h : Ord3 c) {l l' : List α} (hs : SoP c l l') : dd l' = sortS c [] l := sst_ext h (dd_sst h hs.2) (sst_sortS h Sst.nil) fun z => by
  rw [dd_mem, mem_sortS, hs.1.mem_iff]
  simp
theorem dd_self (h : Ord3 c) {l : List α} (hs : Sst c l) : dd l = l := by
  have h1 : SoP c l l := ⟨List.Perm.refl _, hs.imp fun h1 => h.asym h1⟩
  rw [dd_sort h h1, sortS_self h hs]
end
theorem at_get {α : Type} {l : List α} {i : Nat} {a : α} (h : l[i]? = some a) : l[i]'(get_lt h) = a := by
  have h1 := h
  rw [List.getElem?_eq_getElem (get_lt h)] at h1
  exact Option.some.inj h1
section
variable {α : Type} {c : α → α → Int}
/-- How many are smaller. -/
def posS (c : α → α → Int) (t : α) (l : List α) : Nat := (l.takeWhile fun x => decide (c x t < 0)).length
theorem posS_le (t : α) : ∀ (l : List α), posS c t l ≤ l.length
  | [] => Nat.le_refl _
  | x :: l => by
    have := posS_le t l
    unfold posS at this ⊢
    rw [List.takeWhile_cons]
    split
    · simp only [List.length_cons]; omega
    · simp
theorem posS_at (h : Ord3 c) {t : α} : ∀ {l : List α} {i : Nat}, Sst c l → (∀ (j : Nat) (x : α), j < i → l[j]? = some x → c x t < 0) → (∀ (j : Nat) (x : α), i ≤ j → l[j]? = some x → ¬ c x t < 0) → i ≤ l.length → posS c t l = i
  | [], i, _, _, _, hi => by simp at hi; subst hi; rfl
  | x :: l, 0, _, _, h2, _ => by
    unfold posS
    rw [List.takeWhile_cons, if_neg (by simpa using h2 0 x (Nat.le_refl _) rfl)]
    rfl
  | x :: l, i + 1, hs, h1, h2, hi => by
    have ih := posS_at h (t := t) (l := l) (i := i) (List.pairwise_cons.1 hs).2 (fun j y hj hy => h1 (j + 1) y (by omega) (by simpa using hy)) (fun j y hj hy => h2 (j + 1) y (by omega) (by simpa using hy)) (by simpa using hi)
    unfold posS at ih ⊢
    rw [List.takeWhile_cons, if_pos (by simpa using h1 0 x (Nat.succ_pos _) rfl), List.length_cons, ih]
/-- Of a sorted list the smaller ones lie ahead. -/
theorem sst_before (h : Ord3 c) {l : List α} (hs : Sst c l) {i j : Nat} {x y t : α} (hi : l[i]? = some x) (hj : l[j]? = some y) (hij : j ≤ i) (hx : c x t < 0) : c y t < 0 := by
  rcases Nat.lt_or_ge j i with hlt | hge
  · have h1 := List.pairwise_iff_getElem.1 hs j i (get_lt hj) (get_lt hi) hlt
    rw [at_get hj, at_get hi] at h1
    exact h.tr h1 hx
  · have : i = j := by omega
    subst this
    rw [hi] at hj; cases hj; exact hx
theorem mem_at (h : Ord3 c) {t : α} {l : List α} (hs : Sst c l) {i : Nat} (h1 : ∀ (j : Nat) (x : α), j < i → l[j]? = some x → c x t < 0) {x : α} (hx : l[i]? = some x) (h2 : ∀ (j : Nat) (y : α), i ≤ j → l[j]? = some y → ¬ c y t < 0) : t ∈ l ↔ c x t = 0 := by
  constructor
  · intro ht
    obtain ⟨j, hj⟩ := List.getElem?_of_mem ht
    rcases Nat.lt_trichotomy j i with hlt | he | hgt
    · exact absurd (h1 j t hlt hj) (h.irr t)
    · subst he; rw [hx] at hj; cases hj; exact h.refl t
    · have h3 := List.pairwise_iff_getElem.1 hs i j (get_lt hx) (get_lt hj) hgt
      rw [at_get hj, at_get hx] at h3
      exact absurd h3 (h2 i x (Nat.le_refl _) hx)
  · intro e
    have := h.eq _ _ e
    subst this
    exact List.mem_of_getElem? hx
theorem not_mem_end (h : Ord3 c) {t : α} {l : List α} (h1 : ∀ (j : Nat) (x : α), j < l.length → l[j]? = some x → c x t < 0) : t ∉ l := fun ht => by
  obtain ⟨j, hj⟩ := List.getElem?_of_mem ht
  exact absurd (h1 j t (get_lt hj) hj) (h.irr t)
end
end Go.V
/- What the library says of sorting tuples, at this program. (Laid by the library's own tool; the numbers are this seat's.) -/
namespace Go.Proofs
open Go.Shelf
def Try.sortT_ren : Go.Shelf.Ren := ⟨fun | 6 => 74 | 15 => 109 | 14 => 108 | 28 => 136 | 29 => 137 | 20 => 128 | 21 => 129 | 22 => 130 | 23 => 131 | 24 => 132 | 25 => 133 | 26 => 134 | 27 => 135 | 46 => 145 | 47 => 146 | 48 => 147 | 49 => 148 | 50 => 149 | 57 => 157 | n => n, fun | 22 => 76 | 24 => 81 | 25 => 84 | 3 => 3 | 39 => 156 | 0 => 0 | 53 => 181 | 55 => 183 | 4 => 4 | 46 => 175 | 45 => 174 | 50 => 67 | 5 => 5 | 9 => 9 | 66 => 184 | 70 => 188 | 76 => 192 | 77 => 165 | n => n, fun | n => n⟩
theorem Try.sortT : Go.Proofs.SlLaysF0.n6 Try.prog Try.sortT_ren := {
  mixed := by kernel_rfl
  f6 := ⟨Try.f74.name, by decide, Try.func74.trans (congrArg some (by kernel_rfl))⟩
  f14 := ⟨Try.f108.name, by decide, Try.func108.trans (congrArg some (by kernel_rfl))⟩
  f15 := Try.func109.trans (congrArg some (by kernel_rfl))
  f20 := ⟨Try.f128.name, by decide, Try.func128.trans (congrArg some (by kernel_rfl))⟩
  f21 := ⟨Try.f129.name, by decide, Try.func129.trans (congrArg some (by kernel_rfl))⟩
  f22 := ⟨Try.f130.name, by decide, Try.func130.trans (congrArg some (by kernel_rfl))⟩
  f23 := ⟨Try.f131.name, by decide, Try.func131.trans (congrArg some (by kernel_rfl))⟩
  f24 := ⟨Try.f132.name, by decide, Try.func132.trans (congrArg some (by kernel_rfl))⟩
  f25 := ⟨Try.f133.name, by decide, Try.func133.trans (congrArg some (by kernel_rfl))⟩
  f26 := ⟨Try.f134.name, by decide, Try.func134.trans (congrArg some (by kernel_rfl))⟩
  f27 := ⟨Try.f135.name, by decide, Try.func135.trans (congrArg some (by kernel_rfl))⟩
  f28 := Try.func136.trans (congrArg some (by kernel_rfl))
  f29 := Try.func137.trans (congrArg some (by kernel_rfl))
  f46 := ⟨Try.f145.name, by decide, Try.func145.trans (congrArg some (by kernel_rfl))⟩
  f47 := Try.func146.trans (congrArg some (by kernel_rfl))
  f48 := Try.func147.trans (congrArg some (by kernel_rfl))
  f49 := ⟨Try.f148.name, by decide, Try.func148.trans (congrArg some (by kernel_rfl))⟩
  f50 := ⟨Try.f149.name, by decide, Try.func149.trans (congrArg some (by kernel_rfl))⟩
  f57 := ⟨Try.f157.name, by decide, Try.func157.trans (congrArg some (by kernel_rfl))⟩
  t0 := Try.underlying0
  a0 := Try.isAgg0
  z0 := Try.sizeOf0
  v0 := Try.zeroValue0
  t3 := Try.underlying3
  a3 := Try.isAgg3
  z3 := Try.sizeOf3
  v3 := Try.zeroValue3
  t4 := Try.underlying4
  a4 := Try.isAgg4
  z4 := Try.sizeOf4
  v4 := Try.zeroValue4
  t5 := Try.underlying5
  a5 := Try.isAgg5
  z5 := Try.sizeOf5
  v5 := Try.zeroValue5
  t9 := Try.underlying9
  a9 := Try.isAgg9
  z9 := Try.sizeOf9
  v9 := Try.zeroValue9
  t22 := Try.underlying76
  a22 := Try.isAgg76
  z22 := Try.sizeOf76
  v22 := Try.zeroValue76
  t25 := Try.underlying84
  a25 := Try.isAgg84
  z25 := Try.sizeOf84
  v25 := Try.zeroValue84
  t39 := Try.underlying156
  a39 := Try.isAgg156
  z39 := Try.sizeOf156
  v39 := Try.zeroValue156
  t45 := Try.underlying174
  a45 := Try.isAgg174
  z45 := Try.sizeOf174
  v45 := Try.zeroValue174
  t46 := Try.underlying175
  a46 := Try.isAgg175
  z46 := Try.sizeOf175
  v46 := Try.zeroValue175
  t50 := Try.underlying67
  a50 := Try.isAgg67
  z50 := Try.sizeOf67
  v50 := Try.zeroValue67
  t53 := Try.underlying181
  a53 := Try.isAgg181
  z53 := Try.sizeOf181
  v53 := Try.zeroValue181
  t55 := Try.underlying183
  a55 := Try.isAgg183
  z55 := Try.sizeOf183
  v55 := Try.zeroValue183
  t66 := Try.underlying184
  a66 := Try.isAgg184
  z66 := Try.sizeOf184
  v66 := Try.zeroValue184
  t70 := Try.underlying188
  a70 := Try.isAgg188
  z70 := Try.sizeOf188
  v70 := Try.zeroValue188
  t76 := Try.underlying192
  a76 := Try.isAgg192
  z76 := Try.sizeOf192
  v76 := Try.zeroValue192
  t77 := Try.underlying165
  a77 := Try.isAgg165
  z77 := Try.sizeOf165
  v77 := Try.zeroValue165 }
end Go.Proofs
namespace Go.V.L2
open Go.Proofs Go.RowKit Go.V
theorem swo_of {α : Type} {c : α → α → Int} (h : Ord3 c) : Go.Sort.SWO (Go.Proofs.ltOf c) where
  irrefl x := by simp [Go.Proofs.ltOf, h.refl]
  trans x y z h1 h2 := by
    simp only [Go.Proofs.ltOf, decide_eq_true_eq] at *
    exact h.tr h1 h2
  ntrans x y z h1 h2 := by
    simp only [Go.Proofs.ltOf, decide_eq_false_iff_not] at *
    have a1 := h.anti x y
    have a2 := h.anti y z
    have a3 := h.anti x z
    have := h.trans z y x (by omega) (by omega)
    omega
theorem ucs_one (x : U) : ∀ v ∈ ucs x, v.oneCell' = true := fun v hv => by
  simp only [ucs, List.mem_cons, List.not_mem_nil, or_false] at hv
  rcases hv with rfl | rfl | rfl | rfl | rfl | rfl <;> rfl
theorem sortU : SortC Try.prog U 74 49 [] ucs 6 cmpT where
  none p cap w := AnyF.slices_SortFunc_none Try.sortT p cap _ w
  some b cap d w hH hb hz := AnyQ.slices_SortFunc Try.sortT 6 Try.isAgg81 Try.sizeOf81 ucs ucs_len ucs_one cmpT (swo_of cmpT_ord) 49 #[] b 0 cap d w
    (fun args w => run_callFunc L rfl) (cmpLays (cb := []) (fun x y u => tcmp_ret (a := x) (b := y) (fun _ _ h => by cases h)) b 0 d.size w) hH hb hz
end Go.V.L2
/- The walks of tuples (chapter 2): lists are copied, sorted, and freed of what stands twice. -/
namespace Go.V.L2
open Go.Proofs Go.RowKit Go.V
abbrev tcs (t : U) : List Value := [.string t.1.1.1, .string t.1.1.2, .string t.1.2, .string t.2.1.1, .string t.2.1.2, .string t.2.2]
theorem us_plain (l : List U) : (l.flatMap ucs).all plainV = true := by
  induction l with
  | nil => rfl
  | cons x l ih => rw [List.flatMap_cons, List.all_append, ih]; rfl
theorem us_len (l : List U) : (l.flatMap ucs).length = l.length * 6 := flatMap_len ucs_len l
theorem held_at {l : List U} {rest : List Value} {i : Nat} {t : U} (h : l[i]? = some t) (off : Nat) (ho : off = i * 6) : ∃ r, (l.flatMap ucs ++ rest).drop off = tcs t ++ r := by
  subst ho
  have h1 : ((l.flatMap ucs).drop (i * 6)).take 6 = tcs t := us_at h
  have h2 := get_lt h
  refine ⟨((l.flatMap ucs).drop (i * 6)).drop 6 ++ rest, ?_⟩
  rw [List.drop_append_of_le_length (by rw [us_len]; exact Nat.mul_le_mul_right _ (by omega)), ← List.append_assoc]
  congr 1
  rw [← h1, List.take_append_drop]
theorem held_set {ls : List U} {rest : List Value} {k : Nat} {z : U} (h : k < ls.length) (off : Nat) (ho : off = k * 6) : (ls.flatMap ucs ++ rest).take off ++ (tcs z ++ (ls.flatMap ucs ++ rest).drop (off + 6)) = (ls.set k z).flatMap ucs ++ rest := by
  subst ho
  have e1 : ls = ls.take k ++ (ls[k] :: ls.drop (k + 1)) := by rw [List.getElem_cons_drop, List.take_append_drop]
  have hk : (ls.take k).length = k := by rw [List.length_take]; omega
  have e2 : ls.set k z = ls.take k ++ (z :: ls.drop (k + 1)) := by
    conv => lhs; rw [e1]
    rw [List.set_append_right _ _ (by omega), hk, Nat.sub_self]; rfl
  rw [e2]
  generalize ls.take k = A at e1 hk
  generalize ls.drop (k + 1) = D at e1
  generalize ls[k] = y at e1
  subst e1
  have hA : (A.flatMap ucs).length = k * 6 := by rw [us_len, hk]
  simp only [List.flatMap_append, List.flatMap_cons, List.append_assoc]
  rw [List.take_left' hA, show k * 6 + 6 = (A.flatMap ucs).length + 6 by omega, ← List.drop_drop, List.drop_left, show (ucs y ++ (D.flatMap ucs ++ rest)).drop 6 = D.flatMap ucs ++ rest from List.drop_left' rfl]
  rfl
theorem held_clear {ls : List U} {rest zs : List Value} {k m off : Nat} (hm : ls.length = m) (hk : k ≤ m) (ho : off = k * 6) : (ls.flatMap ucs ++ rest).take off ++ (zs ++ (ls.flatMap ucs ++ rest).drop (off + (m - k) * 6)) = (ls.take k).flatMap ucs ++ (zs ++ rest) := by
  subst hm ho
  have h1 : k * 6 + (ls.length - k) * 6 = (ls.flatMap ucs).length := by rw [us_len]; omega
  rw [h1, List.drop_left]
  congr 1
  rw [List.take_append_of_le_length (by rw [us_len]; exact Nat.mul_le_mul_right _ hk)]
  conv => lhs; rw [← List.take_append_drop k ls, List.flatMap_append]
  rw [List.take_left' (by rw [us_len, List.length_take]; congr 1; omega)]
theorem dd_step {l : List U} {p : Nat} {y z : U} (hy : l[p]? = some y) (hz : l[p + 1]? = some z) : dd (l.take (p + 2)) = if z = y then dd (l.take (p + 1)) else dd (l.take (p + 1)) ++ [z] := by
  have e : l.take (p + 2) = l.take (p + 1) ++ [z] := by rw [List.take_add_one, hz]; rfl
  rw [e]
  refine dd_snoc _ y z ?_
  rw [List.take_add_one, hy]
  simp
attribute [local irreducible] V N X VO Par StepOK Has Ret RetL RetO Src
set_option maxHeartbeats 1000000 in
theorem clone_ret {l : List U} {fu : Bool} (hz : l.length ≤ 100000) {v : Value} {w : World} {B : Heap} (hB : B.Le (hp w)) (hv : US l fu v B) :
    RetO Try.prog 73 [v] w B (SlR tyU 6 l.length (l.flatMap ucs)) := by
  have hv0 := hv
  have hlen := us_len l
  have hpl := us_plain l
  obtain ⟨_, ⟨h0, rfl⟩ | ⟨b, off, cap, cs, ty0, fr, rfl, _⟩⟩ := hv
  · have hn : l = [] := List.eq_nil_of_length_eq_zero h0
    subst hn
    refine V_enterO Try.func73 rfl Try.ntmps73 (Nat.le_of_ble_eq_true rfl) hB ?_
    refine V_seq ?_; refine V_region (id := 0) ?_; refine vo_step (ok_assign rfl rfl rfl) rfl ?_; refine vo_nil ?_; refine N_seq ?_; refine V_seq ?_; refine V_seq ?_; refine V_region (id := 1) ?_; refine vo_step (ok_move rfl rfl rfl) rfl ?_; refine vo_step (ok_neql rfl rfl rfl rfl nk76 rfl) rfl ?_; refine vo_nil ?_; refine N_seq ?_; refine V_true rfl ?_; refine V_seq ?_; refine V_region (id := 2) ?_; refine vo_step (ok_assign rfl rfl rfl) rfl ?_; refine vo_nil ?_; refine N_seq ?_
    refine V_nilR 2 tyU 6 rfl ?_
    exact V_retO rfl (fun _ _ h => h) Since.refl rfl
  · refine V_enterO Try.func73 rfl Try.ntmps73 (Nat.le_of_ble_eq_true rfl) hB ?_
    refine V_seq ?_; refine V_region (id := 0) ?_; refine vo_step (ok_assign rfl rfl rfl) rfl ?_; refine vo_nil ?_; refine N_seq ?_; refine V_seq ?_; refine V_seq ?_; refine V_region (id := 1) ?_; refine vo_step (ok_move rfl rfl rfl) rfl ?_; refine vo_step (ok_neql rfl rfl rfl rfl nk76 rfl) rfl ?_; refine vo_nil ?_; refine N_seq ?_; refine V_false rfl ?_; refine V_skip ?_; refine N_seq ?_; refine V_seq ?_
    refine V_seen 0 (US l fu) rfl SlV.mono hv0 ?_
    refine V_region (id := 3) ?_; refine vo_step (ok_buildSlice0 L rfl rfl rfl rfl rfl) rfl ?_; refine vo_step (ok_moves' rfl rfl rfl) rfl ?_; refine vo_step2 (ok_append L rfl rfl rfl (apd_V rfl) rfl el81 (by assumption) (by assumption) (by omega) (by omega)) ?_; refine vo_step2 (ok_moveO (.inr rfl) rfl rfl rfl rfl) ?_; refine vo_nil ?_; refine N_seq ?_
    rw [Nat.zero_add, List.nil_append]
    exact V_retO rfl (fun _ _ h => h) Since.refl rfl
set_option maxHeartbeats 4000000 in
theorem compact_ret {l : List U} (hz : l.length ≤ 100000) {x : Value} {w : World} {B : Heap} {C : Nat → Prop} (hB : B.Le (hp w)) (hx : (SlR tyU 6 l.length (l.flatMap ucs)).P x B w C) (hC : ∀ k, C k → k < w.heap.size ∧ B k = none) :
    RetT Try.prog 75 [x] w B C (SlR tyU 6 (dd l).length ((dd l).flatMap ucs)) := by
  unfold RetT
  refine V_enterA 0 (x := x) (SlR tyU 6 l.length (l.flatMap ucs)) rfl Try.func75 rfl Try.ntmps75 (Nat.le_of_ble_eq_true rfl) hB hx hC ?_
  refine V_holdR 0 900 rfl (fun hm hn => ?_) fun b cap rest hl hmc hcm hcl => ?_
  · have h0 : l = [] := List.eq_nil_of_length_eq_zero hm
    subst h0
    refine V_seq ?_; refine V_region (id := 0) ?_; refine vo_step (ok_assign rfl rfl rfl) rfl ?_; refine vo_nil ?_; refine N_seq ?_; refine V_seq ?_; refine V_seq ?_; refine V_region (id := 1) ?_; refine vo_step (ok_move rfl rfl rfl) rfl ?_; refine vo_step (ok_lenL L rfl rfl rfl rfl) rfl ?_; refine vo_step (ok_lss rfl rfl rfl rfl (decide_eq_true (by omega))) rfl ?_; refine vo_nil ?_; refine N_seq ?_; refine V_true rfl ?_; refine V_seq ?_; refine V_region (id := 2) ?_; refine vo_step (ok_move rfl rfl rfl) rfl ?_; refine vo_step (ok_assign rfl rfl rfl) rfl ?_; refine vo_nil ?_; refine N_seq ?_
    refine V_nilR 2 tyU 6 rfl ?_
    exact V_retT rfl (fun _ _ h => h) Since.refl rfl
  · by_cases h2 : l.length < 2
    · have hdd : dd l = l := by
        rcases l with _ | ⟨a, _ | ⟨b, l⟩⟩
        · rfl
        · rfl
        · simp only [List.length_cons] at h2; omega
      rw [hdd]
      refine V_seq ?_; refine V_region (id := 0) ?_; refine vo_step (ok_assign rfl rfl rfl) rfl ?_; refine vo_nil ?_; refine N_seq ?_; refine V_seq ?_; refine V_seq ?_; refine V_region (id := 1) ?_; refine vo_step (ok_move rfl rfl rfl) rfl ?_; refine vo_step (ok_lenL L rfl rfl rfl rfl) rfl ?_; refine vo_step (ok_lss rfl rfl rfl rfl (decide_eq_true (by omega))) rfl ?_; refine vo_nil ?_; refine N_seq ?_; refine V_true rfl ?_; refine V_seq ?_; refine V_region (id := 2) ?_; refine vo_step (ok_move rfl rfl rfl) rfl ?_; refine vo_step (ok_assign rfl rfl rfl) rfl ?_; refine vo_nil ?_; refine N_seq ?_
      refine V_releaseR 2 900 rfl rfl rfl hl hmc hcm hcl ?_
      exact V_retT rfl (fun _ _ h => h) Since.refl rfl
    · refine V_seq ?_; refine V_region (id := 0) ?_; refine vo_step (ok_assign rfl rfl rfl) rfl ?_; refine vo_nil ?_; refine N_seq ?_; refine V_seq ?_; refine V_seq ?_; refine V_region (id := 1) ?_; refine vo_step (ok_move rfl rfl rfl) rfl ?_; refine vo_step (ok_lenL L rfl rfl rfl rfl) rfl ?_; refine vo_step (ok_lss rfl rfl rfl rfl (decide_eq_false (by omega))) rfl ?_; refine vo_nil ?_; refine N_seq ?_; refine V_false rfl ?_; refine V_skip ?_; refine N_seq ?_; refine V_seq ?_; refine V_seq ?_; refine V_region (id := 3) ?_; refine vo_step (ok_assign rfl rfl rfl) rfl ?_; refine vo_nil ?_; refine N_seq ?_; refine V_block ?_
      refine V_loop (fun i : Nat => [(0, .is (.slice (some ⟨b, 0, none⟩) l.length cap)), (3, .is (.int .i64 (i + 1 : Nat))), (900, .own (HeldR b (l.flatMap ucs ++ rest) tyU))])
        (fun i => i + 1 ≤ l.length ∧ dd (l.take (i + 1)) = l.take (i + 1)) (fun i => l.length - i) 0 ⟨by omega, by rcases l with _ | ⟨a, l⟩ <;> simp [dd]⟩ ⟨rfl, rfl, rfl, trivial⟩ ?_
      rintro i ⟨hi, hd⟩
      by_cases hlt : i + 1 < l.length
      · obtain ⟨y, hy⟩ := get_some (show i < l.length by omega)
        obtain ⟨z, hzz⟩ := get_some hlt
        have q1 := held_at (rest := rest) hzz (0 + (i + 1) * 6) (by omega)
        have q2 := held_at (rest := rest) hy (0 + i * 6) (by omega)
        have hsub : IntKind.i64.wrap (((i + 1 : Nat) : Int) - 1) = (i : Int) := wrap_i64 (by omega) (by omega) |>.trans (by omega)
        by_cases hzy : z = y
        · have hq := eqU (decide_eq_true hzy)
          have hne : ¬ cap = i + 1 := by omega
          refine V_seq ?_; refine V_seq ?_; refine V_region (id := 4) ?_; refine vo_step (ok_move rfl rfl rfl) rfl ?_; refine vo_step (ok_move rfl rfl rfl) rfl ?_; refine vo_step (ok_lenL L rfl rfl rfl rfl) rfl ?_; refine vo_step (ok_lss rfl rfl rfl rfl (decide_eq_true (by omega))) rfl ?_; refine vo_nil ?_; refine N_seq ?_; refine V_true rfl ?_; refine V_skip ?_; refine N_seq ?_; refine V_seq ?_; refine V_block ?_; refine V_seq ?_; refine V_regionD (id := 6) [(200019, [900]), (200024, [900])] mixed (by kernel_rfl) ?_; refine par_step (ok_move rfl rfl rfl) rfl ?_; refine par_step (ok_move rfl rfl rfl) rfl ?_; refine par_step (ok_indexAt L _ rfl rfl rfl rfl rfl rfl rfl (by omega)) rfl ?_; refine par_stepR (ok_loadHA L (q := 900) (vs := [_, _, _, _, _, _]) rfl rfl rfl rfl rfl rfl q1) rfl rfl ?_; refine par_step (ok_move rfl rfl rfl) rfl ?_; refine par_step (ok_move rfl rfl rfl) rfl ?_; refine par_step (ok_sub rfl rfl rfl rfl (by assumption)) rfl ?_; refine par_step (ok_indexAt L _ rfl rfl rfl rfl rfl rfl rfl (by omega)) rfl ?_; refine par_stepR (ok_loadHA L (q := 900) (vs := [_, _, _, _, _, _]) rfl rfl rfl rfl rfl rfl q2) rfl rfl ?_; refine par_step (ok_aeql rfl rfl rfl rfl eq81 (by assumption) rfl) rfl ?_; refine par_nil ?_; refine N_seq ?_; refine V_true rfl ?_; refine V_seq ?_; refine V_region (id := 7) ?_; refine vo_step (ok_move rfl rfl rfl) rfl ?_; refine vo_step (ok_move rfl rfl rfl) rfl ?_; refine vo_step (ok_sliceI L (kh := .i64) (ph := 0) _ _ rfl rfl rfl rfl rfl ⟨rfl, rfl⟩ rfl (by omega) (by omega)) rfl ?_; refine vo_step (ok_assign rfl rfl rfl) rfl ?_; refine vo_nil ?_; refine N_seq ?_; refine V_seq ?_; refine V_seq ?_; refine V_region (id := 8) ?_; refine vo_step (ok_assign rfl rfl rfl) rfl ?_; refine vo_nil ?_; refine N_seq ?_; refine V_block ?_
          rw [if_neg hne]
          have hdi : dd (l.take (i + 1 + 1)) = l.take (i + 1) := by rw [dd_step hy hzz, if_pos hzy, hd]
          refine V_loop (fun s : Nat × Nat × List U => [(0, .is (.slice (some ⟨b, 0, none⟩) l.length cap)), (3, .is (.int .i64 s.1)), (4, .is (.slice (some ⟨b, 0 + (i + 1) * 6, none⟩) (l.length - (i + 1)) (cap - (i + 1)))), (5, .is (.int .i64 (s.2.1 + 1 : Nat))), (900, .own (HeldR b (s.2.2.flatMap ucs ++ rest) tyU))])
            (fun s => s.2.2.length = l.length ∧ s.1 ≤ i + 1 + s.2.1 ∧ i + 1 + s.2.1 + 1 ≤ l.length ∧ s.2.2.take s.1 = dd (l.take (i + 1 + s.2.1 + 1)) ∧ s.2.2.drop (i + 1 + s.2.1) = l.drop (i + 1 + s.2.1)) (fun s => l.length - s.2.1) (i + 1, 0, l) ⟨rfl, Nat.le_refl _, hlt, hdi.symm, rfl⟩ ⟨rfl, rfl, rfl, rfl, rfl, trivial⟩ ?_
          clear hd hq hzy q1 q2 hsub hdi hy hzz y z
          rintro ⟨k, j, ls⟩ ⟨hls, hkp, hpl, htk, hdr⟩
          dsimp only at hls hkp hpl htk hdr ⊢
          by_cases hend : i + 1 + j + 1 < l.length
          · obtain ⟨y, hy⟩ := get_some (show i + 1 + j < l.length by omega)
            obtain ⟨z, hz2⟩ := get_some hend
            have e1 : ls[i + 1 + j]? = some y := by
              have := congrArg (·[0]?) hdr
              simp only [List.getElem?_drop, Nat.add_zero] at this
              rw [this, hy]
            have e2 : ls[i + 1 + j + 1]? = some z := by
              have := congrArg (·[1]?) hdr
              simp only [List.getElem?_drop] at this
              rw [this, hz2]
            have q1 := held_at (rest := rest) e2 (0 + (i + 1) * 6 + (j + 1) * 6) (by omega)
            have q2 := held_at (rest := rest) e1 (0 + (i + 1) * 6 + j * 6) (by omega)
            have hsub : IntKind.i64.wrap (((j + 1 : Nat) : Int) - 1) = (j : Int) := wrap_i64 (by omega) (by omega) |>.trans (by omega)
            have hst := dd_step hy hz2
            have hdr' : ls.drop (i + 1 + (j + 1)) = l.drop (i + 1 + (j + 1)) := by
              have := congrArg (List.drop 1) hdr
              rw [List.drop_drop, List.drop_drop] at this
              exact this
            by_cases hzy : z = y
            · have hq := eqU (decide_eq_true hzy)
              rw [if_pos hzy] at hst
              refine V_seq ?_; refine V_seq ?_; refine V_region (id := 9) ?_; refine vo_step (ok_move rfl rfl rfl) rfl ?_; refine vo_step (ok_move rfl rfl rfl) rfl ?_; refine vo_step (ok_lenL L rfl rfl rfl rfl) rfl ?_; refine vo_step (ok_lss rfl rfl rfl rfl (decide_eq_true (by omega))) rfl ?_; refine vo_nil ?_; refine N_seq ?_; refine V_true rfl ?_; refine V_skip ?_; refine N_seq ?_; refine V_seq ?_; refine V_block ?_; refine V_seq ?_; refine V_regionD (id := 11) [(200038, [900]), (200043, [900])] mixed (by kernel_rfl) ?_; refine par_step (ok_move rfl rfl rfl) rfl ?_; refine par_step (ok_move rfl rfl rfl) rfl ?_; refine par_step (ok_indexAt L _ rfl rfl rfl rfl rfl rfl rfl (by omega)) rfl ?_; refine par_stepR (ok_loadHA L (q := 900) (vs := [_, _, _, _, _, _]) rfl rfl rfl rfl rfl rfl q1) rfl rfl ?_; refine par_step (ok_move rfl rfl rfl) rfl ?_; refine par_step (ok_move rfl rfl rfl) rfl ?_; refine par_step (ok_sub rfl rfl rfl rfl (by assumption)) rfl ?_; refine par_step (ok_indexAt L _ rfl rfl rfl rfl rfl rfl rfl (by omega)) rfl ?_; refine par_stepR (ok_loadHA L (q := 900) (vs := [_, _, _, _, _, _]) rfl rfl rfl rfl rfl rfl q2) rfl rfl ?_; refine par_step (ok_aneq rfl rfl rfl rfl eq81 (by assumption) rfl) rfl ?_; refine par_nil ?_; refine N_seq ?_; refine V_false rfl ?_; refine V_skip ?_; refine N_block ?_; refine N_seq ?_; refine V_region (id := 10) ?_; refine vo_step (ok_move rfl rfl rfl) rfl ?_; refine vo_step (ok_add rfl rfl rfl rfl (wrap_i64 (by omega) (by omega))) rfl ?_; refine vo_step (ok_assign rfl rfl rfl) rfl ?_; refine vo_nil ?_
              exact N_round (x := (k, j, ls)) (k, j + 1, ls) ⟨hls, by dsimp only; omega, by dsimp only; omega, htk.trans hst.symm, hdr'⟩ (by dsimp only; omega) ⟨rfl, rfl, rfl, rfl, rfl, trivial⟩
            · have hq := eqU (decide_eq_false hzy)
              rw [if_neg hzy] at hst
              have hkl : k < ls.length := by omega
              have hset := held_set (rest := rest) (z := z) hkl (0 + k * 6) (by omega)
              have hble : Nat.ble (0 + k * 6 + 6) (ls.flatMap ucs ++ rest).length = true := Nat.ble_eq_true_of_le (by rw [List.length_append, us_len]; omega)
              refine V_seq ?_; refine V_seq ?_; refine V_region (id := 9) ?_; refine vo_step (ok_move rfl rfl rfl) rfl ?_; refine vo_step (ok_move rfl rfl rfl) rfl ?_; refine vo_step (ok_lenL L rfl rfl rfl rfl) rfl ?_; refine vo_step (ok_lss rfl rfl rfl rfl (decide_eq_true (by omega))) rfl ?_; refine vo_nil ?_; refine N_seq ?_; refine V_true rfl ?_; refine V_skip ?_; refine N_seq ?_; refine V_seq ?_; refine V_block ?_; refine V_seq ?_; refine V_regionD (id := 11) [(200038, [900]), (200043, [900])] mixed (by kernel_rfl) ?_; refine par_step (ok_move rfl rfl rfl) rfl ?_; refine par_step (ok_move rfl rfl rfl) rfl ?_; refine par_step (ok_indexAt L _ rfl rfl rfl rfl rfl rfl rfl (by omega)) rfl ?_; refine par_stepR (ok_loadHA L (q := 900) (vs := [_, _, _, _, _, _]) rfl rfl rfl rfl rfl rfl q1) rfl rfl ?_; refine par_step (ok_move rfl rfl rfl) rfl ?_; refine par_step (ok_move rfl rfl rfl) rfl ?_; refine par_step (ok_sub rfl rfl rfl rfl (by assumption)) rfl ?_; refine par_step (ok_indexAt L _ rfl rfl rfl rfl rfl rfl rfl (by omega)) rfl ?_; refine par_stepR (ok_loadHA L (q := 900) (vs := [_, _, _, _, _, _]) rfl rfl rfl rfl rfl rfl q2) rfl rfl ?_; refine par_step (ok_aneq rfl rfl rfl rfl eq81 (by assumption) rfl) rfl ?_; refine par_nil ?_; refine N_seq ?_; refine V_true rfl ?_; refine V_seq ?_; refine V_region (id := 12) ?_; refine vo_step (ok_move rfl rfl rfl) rfl ?_; refine vo_step (ok_move rfl rfl rfl) rfl ?_; refine vo_step (ok_move rfl rfl rfl) rfl ?_; refine vo_step (ok_move rfl rfl rfl) rfl ?_; refine vo_step (ok_indexAt L _ rfl rfl rfl rfl rfl rfl rfl (by omega)) rfl ?_; refine vo_stepR (ok_loadHA L (q := 900) (vs := [_, _, _, _, _, _]) rfl rfl rfl rfl rfl rfl q1) ?_; refine vo_step (ok_indexAt L _ rfl rfl rfl rfl rfl rfl rfl (by omega)) rfl ?_; refine vo_stepS (ok_storeH L (q := 900) rfl rfl rfl rfl rfl rfl hble rfl hset) ?_; refine vo_nil ?_; refine N_seq ?_; refine V_region (id := 13) ?_; refine vo_step (ok_move rfl rfl rfl) rfl ?_; refine vo_step (ok_add rfl rfl rfl rfl (wrap_i64 (by omega) (by omega))) rfl ?_; refine vo_step (ok_assign rfl rfl rfl) rfl ?_; refine vo_nil ?_; refine N_block ?_; refine N_seq ?_; refine V_region (id := 10) ?_; refine vo_step (ok_move rfl rfl rfl) rfl ?_; refine vo_step (ok_add rfl rfl rfl rfl (wrap_i64 (by omega) (by omega))) rfl ?_; refine vo_step (ok_assign rfl rfl rfl) rfl ?_; refine vo_nil ?_
              exact N_round (x := (k, j, ls)) (k + 1, j + 1, ls.set k z) ⟨by rw [List.length_set]; exact hls, by dsimp only; omega, by dsimp only; omega, by
                dsimp only
                rw [show i + 1 + (j + 1) + 1 = i + 1 + j + 2 by omega, hst, ← htk, List.take_add_one, List.getElem?_set_self hkl, List.take_set_of_le (Nat.le_refl _)]; rfl, by
                dsimp only
                rw [List.drop_set_of_lt (by omega)]; exact hdr'⟩ (by dsimp only; omega) ⟨rfl, rfl, rfl, rfl, rfl, trivial⟩
          · have hfull : l.take (i + 1 + j + 1) = l := List.take_of_length_le (by omega)
            rw [hfull] at htk
            have hkd : (dd l).length = k := by rw [← htk, List.length_take]; omega
            subst hkd
            have hzl : (Builtin.zeroCells (Value.cells (.agg #[.string ⟨#[]⟩, .string ⟨#[]⟩, .string ⟨#[]⟩, .string ⟨#[]⟩, .string ⟨#[]⟩, .string ⟨#[]⟩])) (l.length - (dd l).length)).toList.length = (l.length - (dd l).length) * 6 := by rw [Array.length_toList, size_zeroCells]; rfl
            have hcl2 := held_clear (rest := rest) (zs := (Builtin.zeroCells (Value.cells (.agg #[.string ⟨#[]⟩, .string ⟨#[]⟩, .string ⟨#[]⟩, .string ⟨#[]⟩, .string ⟨#[]⟩, .string ⟨#[]⟩])) (l.length - (dd l).length)).toList) hls (by omega) (show 0 + (dd l).length * 6 = (dd l).length * 6 by omega)
            rw [htk] at hcl2
            have hne2 : ¬ cap = (dd l).length := by omega
            have hne3 : ¬ cap = 0 := by omega
            have hbd : 0 + (dd l).length * 6 + (l.length - (dd l).length) * 6 ≤ (ls.flatMap ucs ++ rest).length := by rw [List.length_append, us_len]; omega
            refine V_seq ?_; refine V_seq ?_; refine V_region (id := 9) ?_; refine vo_step (ok_move rfl rfl rfl) rfl ?_; refine vo_step (ok_move rfl rfl rfl) rfl ?_; refine vo_step (ok_lenL L rfl rfl rfl rfl) rfl ?_; refine vo_step (ok_lss rfl rfl rfl rfl (decide_eq_false (by omega))) rfl ?_; refine vo_nil ?_; refine N_seq ?_; refine V_false rfl ?_; refine V_exit ?_; refine X_then ?_; refine X_then ?_; refine X_here ?_; refine N_seq ?_; refine V_seq ?_; refine V_region (id := 14) ?_; refine vo_step (ok_move rfl rfl rfl) rfl ?_; refine vo_step (ok_move rfl rfl rfl) rfl ?_; refine vo_step (ok_sliceI L (kh := .i64) (ph := 0) _ _ rfl rfl rfl rfl rfl ⟨rfl, rfl⟩ rfl (by omega) (by omega)) rfl ?_; rw [if_neg hne2]; refine vo_stepS (ok_clearH L (q := 900) rfl rfl rfl rfl el81 rfl rfl (.inr hbd) (fun _ => hcl2) (fun h => by omega)) ?_; refine vo_nil ?_; refine N_seq ?_; refine V_seq ?_; refine V_region (id := 15) ?_; refine vo_step (ok_move rfl rfl rfl) rfl ?_; refine vo_step (ok_move rfl rfl rfl) rfl ?_; refine vo_step (ok_sliceI L (kl := .i64) (pl := 0) 0 _ rfl rfl rfl rfl rfl rfl ⟨rfl, rfl⟩ (by omega) (by omega)) rfl ?_; refine vo_step (ok_assign rfl rfl rfl) rfl ?_; refine vo_nil ?_; refine N_seq ?_
            rw [if_neg hne3]
            refine V_releaseR (m := (dd l).length) (cap := cap) (s := 6) 2 900 rfl rfl rfl (us_len _) (by omega) hcm (by
              rw [us_len] at hl
              simp only [List.length_append, us_len, hzl] at hcl ⊢
              omega) ?_
            exact V_retT rfl (fun _ _ h => h) Since.refl rfl
        · have hq := eqU (decide_eq_false hzy)
          have hst := dd_step hy hzz
          rw [if_neg hzy, hd] at hst
          refine V_seq ?_; refine V_seq ?_; refine V_region (id := 4) ?_; refine vo_step (ok_move rfl rfl rfl) rfl ?_; refine vo_step (ok_move rfl rfl rfl) rfl ?_; refine vo_step (ok_lenL L rfl rfl rfl rfl) rfl ?_; refine vo_step (ok_lss rfl rfl rfl rfl (decide_eq_true (by omega))) rfl ?_; refine vo_nil ?_; refine N_seq ?_; refine V_true rfl ?_; refine V_skip ?_; refine N_seq ?_; refine V_seq ?_; refine V_block ?_; refine V_seq ?_; refine V_regionD (id := 6) [(200019, [900]), (200024, [900])] mixed (by kernel_rfl) ?_; refine par_step (ok_move rfl rfl rfl) rfl ?_; refine par_step (ok_move rfl rfl rfl) rfl ?_; refine par_step (ok_indexAt L _ rfl rfl rfl rfl rfl rfl rfl (by omega)) rfl ?_; refine par_stepR (ok_loadHA L (q := 900) (vs := [_, _, _, _, _, _]) rfl rfl rfl rfl rfl rfl q1) rfl rfl ?_; refine par_step (ok_move rfl rfl rfl) rfl ?_; refine par_step (ok_move rfl rfl rfl) rfl ?_; refine par_step (ok_sub rfl rfl rfl rfl (by assumption)) rfl ?_; refine par_step (ok_indexAt L _ rfl rfl rfl rfl rfl rfl rfl (by omega)) rfl ?_; refine par_stepR (ok_loadHA L (q := 900) (vs := [_, _, _, _, _, _]) rfl rfl rfl rfl rfl rfl q2) rfl rfl ?_; refine par_step (ok_aeql rfl rfl rfl rfl eq81 (by assumption) rfl) rfl ?_; refine par_nil ?_; refine N_seq ?_; refine V_false rfl ?_; refine V_skip ?_; refine N_block ?_; refine N_seq ?_; refine V_region (id := 5) ?_; refine vo_step (ok_move rfl rfl rfl) rfl ?_; refine vo_step (ok_add rfl rfl rfl rfl (wrap_i64 (by omega) (by omega))) rfl ?_; refine vo_step (ok_assign rfl rfl rfl) rfl ?_; refine vo_nil ?_
          exact N_round (x := i) (i + 1) ⟨hlt, by rw [hst, List.take_add_one (i := i + 1), hzz]; rfl⟩ (by omega) ⟨rfl, rfl, rfl, trivial⟩
      · have hie : i + 1 = l.length := by omega
        rw [hie, List.take_length] at hd
        rw [hd]
        refine V_seq ?_; refine V_seq ?_; refine V_region (id := 4) ?_; refine vo_step (ok_move rfl rfl rfl) rfl ?_; refine vo_step (ok_move rfl rfl rfl) rfl ?_; refine vo_step (ok_lenL L rfl rfl rfl rfl) rfl ?_; refine vo_step (ok_lss rfl rfl rfl rfl (decide_eq_false (by omega))) rfl ?_; refine vo_nil ?_; refine N_seq ?_; refine V_false rfl ?_; refine V_exit ?_; refine X_then ?_; refine X_then ?_; refine X_here ?_; refine N_seq ?_; refine V_seq ?_; refine V_region (id := 16) ?_; refine vo_step (ok_move rfl rfl rfl) rfl ?_; refine vo_step (ok_assign rfl rfl rfl) rfl ?_; refine vo_nil ?_; refine N_seq ?_
        refine V_releaseR 2 900 rfl rfl rfl hl hmc hcm hcl ?_
        exact V_retT rfl (fun _ _ h => h) Since.refl rfl
end Go.V.L2
/- The walks of tuples (chapter 2): sorted lists; where a tuple is. -/
namespace Go.V.L2
open Go.Proofs Go.RowKit Go.V
attribute [local irreducible] V N X VO Par StepOK Has Ret RetL RetO RetT Src
set_option maxRecDepth 20000 in
set_option maxHeartbeats 1000000 in
theorem sorted_ret {l m : List U} (hm : sortS cmpT [] l = m) {fu : Bool} (hz : l.length ≤ 100000) {v : Value} {w : World} {B : Heap} (hB : B.Le (hp w)) (hv : US l fu v B) :
    Ret Try.prog 41 [v] w B (US m true) := by
  subst hm
  have hzz : l.length < 4611686018427387904 := by omega
  refine V_enter Try.func41 rfl Try.ntmps41 (Nat.le_of_ble_eq_true rfl) hB ?_
  refine V_seen 0 (US l fu) rfl SlV.mono hv ?_
  refine V_seq ?_; refine V_region (id := 0) ?_; refine vo_step (ok_assign rfl rfl rfl) rfl ?_; refine vo_nil ?_; refine N_seq ?_; refine V_seq ?_; refine V_region (id := 1) ?_; refine vo_step (ok_moves' rfl rfl rfl) rfl ?_; refine vo_step (ok_callO L rfl rfl (blt_lt rfl) rfl rfl rfl (fun u H hH _ _ v1 hv1 => clone_ret hz hH hv1)) rfl ?_; refine vo_step2 (ok_moveO (.inr rfl) rfl rfl rfl rfl) ?_; refine vo_nil ?_; refine N_seq ?_; refine V_seq ?_
  refine V_detach 3 900 (fun v => ∃ p c, v = .slice p l.length c) rfl SlR.shape fun x hx => ?_
  refine V_region (id := 2) ?_; refine vo_step (ok_move rfl rfl rfl) rfl ?_; refine vo_step2 (ok_sortA (α := U) (l := l) (enc := ucs) (cf := cmpT) (gf := 49) L (q := 900) (cb := []) rfl rfl rfl rfl rfl rfl rfl rfl rfl ucs_len hzz sortU) ?_; refine vo_nil ?_; refine N_seq ?_; refine V_seq ?_
  refine V_attach 3 900 rfl rfl ?_
  refine V_opnX 3 rfl fun l' H hs hso => ?_
  have hll : l'.length ≤ 100000 := by rw [hso.1.length_eq]; exact hz
  refine V_region (id := 3) ?_; refine vo_step2 (ok_moveO (.inl rfl) rfl rfl rfl rfl) ?_; refine vo_step2 (ok_callTO L (q := 8) rfl rfl rfl rfl rfl (fun u H C x hH hle hx hC => compact_ret hll hH hx hC)) ?_; refine vo_step2 (ok_moveO (.inr rfl) rfl rfl rfl rfl) ?_; refine vo_nil ?_; refine N_seq ?_; refine V_seq ?_
  rw [dd_sort cmpT_ord hso]
  refine V_pubR 3 rfl ?_
  refine V_region (id := 4) ?_; refine vo_step (ok_moves' rfl rfl rfl) rfl ?_; refine vo_step (ok_moves' rfl rfl rfl) rfl ?_; refine vo_step (ok_lenV L rfl rfl rfl rfl) rfl ?_; refine vo_step (ok_moves' rfl rfl rfl) rfl ?_; refine vo_step (ok_lenV L rfl rfl rfl rfl) rfl ?_; refine vo_step (ok_clipV L rfl rfl rfl rfl rfl rfl rfl) rfl ?_; refine vo_step (ok_assigns' rfl rfl rfl) rfl ?_; refine vo_nil ?_; refine N_seq ?_
  refine V_ret L (rs := [.tmp 2]) rfl (fun _ _ h => h) hs fun u H hH hle => ?_
  exact fun v hv => hv
abbrev BSF : Nat := 70
set_option maxHeartbeats 2000000 in
theorem bsearch_ret {l : List U} {t : U} {fu : Bool} (hz : l.length ≤ 100000) (hs : Sst cmpT l) {v : Value} {w : World} {B : Heap} (hB : B.Le (hp w)) (hv : US l fu v B) :
    Ret Try.prog BSF [v, uv t, .func (.func 49) #[] #[]] w B (fun v _ => v = .tuple #[.int .i64 (posS cmpT t l : Nat), .bool (decide (t ∈ l))]) := by
  refine V_enter Try.func70 rfl Try.ntmps70 (Nat.le_of_ble_eq_true rfl) hB ?_
  refine V_seen 0 (US l fu) rfl SlV.mono hv ?_
  refine V_seq ?_; refine V_region (id := 0) ?_; refine vo_step (ok_box rfl rfl rfl rfl) rfl ?_; refine vo_step (ok_assign rfl rfl rfl) rfl ?_; refine vo_step (ok_assign rfl rfl rfl) rfl ?_; refine vo_nil ?_; refine N_seq ?_; refine V_seq ?_; refine V_region (id := 1) ?_; refine vo_step (ok_moves' rfl rfl rfl) rfl ?_; refine vo_step (ok_lenV L rfl rfl rfl rfl) rfl ?_; refine vo_step (ok_assign rfl rfl rfl) rfl ?_; refine vo_nil ?_; refine N_seq ?_; refine V_seq ?_; refine V_region (id := 2) ?_; refine vo_step (ok_move rfl rfl rfl) rfl ?_; refine vo_step (ok_assign rfl rfl rfl) rfl ?_; refine vo_step (ok_assign rfl rfl rfl) rfl ?_; refine vo_nil ?_; refine N_seq ?_; refine V_seq ?_; refine V_block ?_
  refine V_loop (fun s : Nat × Nat => [(0, .sat (US l fu)), (2, .is (.func (.func 49) #[] #[])), (4, .sat (At (tcs t) tyU 0)), (8, .is (.int .i64 l.length)), (9, .is (.int .i64 s.1)), (10, .is (.int .i64 s.2))])
    (fun s => s.1 ≤ s.2 ∧ s.2 ≤ l.length ∧ (∀ (k : Nat) (x : U), k < s.1 → l[k]? = some x → cmpT x t < 0) ∧ ∀ (k : Nat) (x : U), s.2 ≤ k → l[k]? = some x → ¬ cmpT x t < 0) (fun s => s.2 - s.1) (0, l.length) ⟨Nat.zero_le _, Nat.le_refl _, fun k x h => (by cases h), fun k x h hx => (by rw [List.getElem?_eq_none h] at hx; cases hx)⟩ ⟨rfl, rfl, rfl, rfl, rfl, rfl, trivial⟩ ?_
  rintro ⟨i, j⟩ ⟨hij, hjl, hlo, hhi⟩
  dsimp only at hij hjl hlo hhi ⊢
  by_cases hlt : i < j
  · obtain ⟨h, hh⟩ : ∃ h, h = (i + j) / 2 := ⟨_, rfl⟩
    have hsh : ((i : Int) + (j : Int)).fdiv (2 ^ min (1 : Int).toNat IntKind.u64.bits) = (h : Int) := by
      show ((i : Int) + (j : Int)).fdiv 2 = (h : Int)
      rw [Int.fdiv_eq_ediv_of_nonneg _ (by decide)]
      omega
    obtain ⟨y, hy⟩ := get_some (show h < l.length by omega)
    have hc := us_at hy
    by_cases hcm : cmpT y t < 0
    · refine V_seq ?_; refine V_seq ?_; refine V_region (id := 3) ?_; refine vo_step (ok_move rfl rfl rfl) rfl ?_; refine vo_step (ok_move rfl rfl rfl) rfl ?_; refine vo_step (ok_lss rfl rfl rfl rfl (decide_eq_true (by omega))) rfl ?_; refine vo_nil ?_; refine N_seq ?_; refine V_true rfl ?_; refine V_skip ?_; refine N_seq ?_; refine V_block ?_; refine V_seq ?_; refine V_region (id := 4) ?_; refine vo_step (ok_move rfl rfl rfl) rfl ?_; refine vo_step (ok_move rfl rfl rfl) rfl ?_; refine vo_step (ok_add rfl rfl rfl rfl (wrap_i64 (by omega) (by omega))) rfl ?_; refine vo_step (ok_conv rfl rfl rfl cv3_156.1 cv3_156.2 (wrap_u64 (by omega) (by omega))) rfl ?_; refine vo_step (ok_shr rfl rfl rfl rfl (by omega) (by assumption)) rfl ?_; refine vo_step (ok_conv rfl rfl rfl cv156_3.1 cv156_3.2 (wrap_i64 (by omega) (by omega))) rfl ?_; refine vo_step (ok_assign rfl rfl rfl) rfl ?_; refine vo_nil ?_; refine N_seq ?_; refine V_seq ?_; refine V_regionD (id := 5) [] mixed (by kernel_rfl) ?_; refine par_step (ok_move rfl rfl rfl) rfl ?_; refine par_step (ok_moves' rfl rfl rfl) rfl ?_; refine par_step (ok_move rfl rfl rfl) rfl ?_; refine par_step (ok_indexV L _ rfl rfl rfl rfl rfl rfl rfl (by first | omega | decide) (by assumption)) rfl ?_; refine par_step (ok_loadPA L (vs := [_, _, _, _, _, _]) rfl rfl rfl rfl rfl ⟨_, rfl⟩) rfl ?_; refine par_step (ok_loadA L (vs := [_, _, _, _, _, _]) (src_at rfl) rfl rfl rfl rfl ⟨_, rfl⟩) rfl ?_; refine par_step (ok_callx L rfl rfl (blt_lt rfl) rfl rfl rfl (fun u H hH _ _ => tcmp_ret hH)) rfl ?_; refine par_step (ok_lss rfl rfl rfl rfl (decide_eq_true (by omega))) rfl ?_; refine par_nil ?_; refine N_seq ?_; refine V_true rfl ?_; refine V_region (id := 6) ?_; refine vo_step (ok_move rfl rfl rfl) rfl ?_; refine vo_step (ok_add rfl rfl rfl rfl (wrap_i64 (by omega) (by omega))) rfl ?_; refine vo_step (ok_assign rfl rfl rfl) rfl ?_; refine vo_nil ?_; refine N_block ?_
      exact N_round (x := (i, j)) (h + 1, j) ⟨by dsimp only; omega, hjl, fun k x hk hx => sst_before cmpT_ord hs hy hx (by dsimp only at hk; omega) hcm, hhi⟩ (by dsimp only; omega) ⟨rfl, rfl, rfl, rfl, rfl, rfl, trivial⟩
    · refine V_seq ?_; refine V_seq ?_; refine V_region (id := 3) ?_; refine vo_step (ok_move rfl rfl rfl) rfl ?_; refine vo_step (ok_move rfl rfl rfl) rfl ?_; refine vo_step (ok_lss rfl rfl rfl rfl (decide_eq_true (by omega))) rfl ?_; refine vo_nil ?_; refine N_seq ?_; refine V_true rfl ?_; refine V_skip ?_; refine N_seq ?_; refine V_block ?_; refine V_seq ?_; refine V_region (id := 4) ?_; refine vo_step (ok_move rfl rfl rfl) rfl ?_; refine vo_step (ok_move rfl rfl rfl) rfl ?_; refine vo_step (ok_add rfl rfl rfl rfl (wrap_i64 (by omega) (by omega))) rfl ?_; refine vo_step (ok_conv rfl rfl rfl cv3_156.1 cv3_156.2 (wrap_u64 (by omega) (by omega))) rfl ?_; refine vo_step (ok_shr rfl rfl rfl rfl (by omega) (by assumption)) rfl ?_; refine vo_step (ok_conv rfl rfl rfl cv156_3.1 cv156_3.2 (wrap_i64 (by omega) (by omega))) rfl ?_; refine vo_step (ok_assign rfl rfl rfl) rfl ?_; refine vo_nil ?_; refine N_seq ?_; refine V_seq ?_; refine V_regionD (id := 5) [] mixed (by kernel_rfl) ?_; refine par_step (ok_move rfl rfl rfl) rfl ?_; refine par_step (ok_moves' rfl rfl rfl) rfl ?_; refine par_step (ok_move rfl rfl rfl) rfl ?_; refine par_step (ok_indexV L _ rfl rfl rfl rfl rfl rfl rfl (by first | omega | decide) (by assumption)) rfl ?_; refine par_step (ok_loadPA L (vs := [_, _, _, _, _, _]) rfl rfl rfl rfl rfl ⟨_, rfl⟩) rfl ?_; refine par_step (ok_loadA L (vs := [_, _, _, _, _, _]) (src_at rfl) rfl rfl rfl rfl ⟨_, rfl⟩) rfl ?_; refine par_step (ok_callx L rfl rfl (blt_lt rfl) rfl rfl rfl (fun u H hH _ _ => tcmp_ret hH)) rfl ?_; refine par_step (ok_lss rfl rfl rfl rfl (decide_eq_false (by omega))) rfl ?_; refine par_nil ?_; refine N_seq ?_; refine V_false rfl ?_; refine V_region (id := 7) ?_; refine vo_step (ok_move rfl rfl rfl) rfl ?_; refine vo_step (ok_assign rfl rfl rfl) rfl ?_; refine vo_nil ?_; refine N_block ?_
      exact N_round (x := (i, j)) (i, h) ⟨by dsimp only; omega, by dsimp only; omega, hlo, fun k x hk hx hcx => hcm (sst_before cmpT_ord hs hx hy hk hcx)⟩ (by dsimp only; omega) ⟨rfl, rfl, rfl, rfl, rfl, rfl, trivial⟩
  · obtain rfl : i = j := by omega
    rw [posS_at cmpT_ord hs hlo hhi hjl]
    by_cases hin : i < l.length
    · obtain ⟨y, hy⟩ := get_some hin
      have hc := us_at hy
      have hm := mem_at cmpT_ord hs hlo hy hhi
      by_cases hcm : cmpT y t = 0
      · rw [decide_eq_true (hm.2 hcm)]
        refine V_seq ?_; refine V_seq ?_; refine V_region (id := 3) ?_; refine vo_step (ok_move rfl rfl rfl) rfl ?_; refine vo_step (ok_move rfl rfl rfl) rfl ?_; refine vo_step (ok_lss rfl rfl rfl rfl (decide_eq_false (by omega))) rfl ?_; refine vo_nil ?_; refine N_seq ?_; refine V_false rfl ?_; refine V_exit ?_; refine X_then ?_; refine X_then ?_; refine X_here ?_; refine N_seq ?_; refine V_seq ?_; refine V_regionD (id := 8) [] mixed (by kernel_rfl) ?_; refine par_step (ok_move rfl rfl rfl) rfl ?_; refine par_step (ok_move rfl rfl rfl) rfl ?_; refine par_step (ok_move rfl rfl rfl) rfl ?_; refine par_step (ok_lss rfl rfl rfl rfl (decide_eq_true (by omega))) rfl ?_; refine par_step (ok_move rfl rfl rfl) rfl ?_; refine par_step (ok_move rfl rfl rfl) rfl ?_; refine par_step (ok_moves' rfl rfl rfl) rfl ?_; refine par_step (ok_move rfl rfl rfl) rfl ?_; refine par_step (ok_indexV L _ rfl rfl rfl rfl rfl rfl rfl (by first | omega | decide) (by assumption)) rfl ?_; refine par_step (ok_loadPA L (vs := [_, _, _, _, _, _]) rfl rfl rfl rfl rfl ⟨_, rfl⟩) rfl ?_; refine par_step (ok_loadA L (vs := [_, _, _, _, _, _]) (src_at rfl) rfl rfl rfl rfl ⟨_, rfl⟩) rfl ?_; refine par_step (ok_callx L rfl rfl (blt_lt rfl) rfl rfl rfl (fun u H hH _ _ => tcmp_ret hH)) rfl ?_; refine par_step (ok_eql rfl rfl rfl rfl (decide_eq_true (by omega))) rfl ?_; refine par_step (ok_pick rfl rfl rfl rfl) rfl ?_; refine par_step (ok_assign rfl rfl rfl) rfl ?_; refine par_step (ok_assign rfl rfl rfl) rfl ?_; refine par_nil ?_; refine N_seq ?_
        refine V_ret L (rs := [.tmp 6, .tmp 7]) rfl (fun _ _ h => h) Since.refl fun u H hH hle => ?_
        rfl
      · rw [decide_eq_false fun h => hcm (hm.1 h)]
        refine V_seq ?_; refine V_seq ?_; refine V_region (id := 3) ?_; refine vo_step (ok_move rfl rfl rfl) rfl ?_; refine vo_step (ok_move rfl rfl rfl) rfl ?_; refine vo_step (ok_lss rfl rfl rfl rfl (decide_eq_false (by omega))) rfl ?_; refine vo_nil ?_; refine N_seq ?_; refine V_false rfl ?_; refine V_exit ?_; refine X_then ?_; refine X_then ?_; refine X_here ?_; refine N_seq ?_; refine V_seq ?_; refine V_regionD (id := 8) [] mixed (by kernel_rfl) ?_; refine par_step (ok_move rfl rfl rfl) rfl ?_; refine par_step (ok_move rfl rfl rfl) rfl ?_; refine par_step (ok_move rfl rfl rfl) rfl ?_; refine par_step (ok_lss rfl rfl rfl rfl (decide_eq_true (by omega))) rfl ?_; refine par_step (ok_move rfl rfl rfl) rfl ?_; refine par_step (ok_move rfl rfl rfl) rfl ?_; refine par_step (ok_moves' rfl rfl rfl) rfl ?_; refine par_step (ok_move rfl rfl rfl) rfl ?_; refine par_step (ok_indexV L _ rfl rfl rfl rfl rfl rfl rfl (by first | omega | decide) (by assumption)) rfl ?_; refine par_step (ok_loadPA L (vs := [_, _, _, _, _, _]) rfl rfl rfl rfl rfl ⟨_, rfl⟩) rfl ?_; refine par_step (ok_loadA L (vs := [_, _, _, _, _, _]) (src_at rfl) rfl rfl rfl rfl ⟨_, rfl⟩) rfl ?_; refine par_step (ok_callx L rfl rfl (blt_lt rfl) rfl rfl rfl (fun u H hH _ _ => tcmp_ret hH)) rfl ?_; refine par_step (ok_eql rfl rfl rfl rfl (decide_eq_false (by omega))) rfl ?_; refine par_step (ok_pick rfl rfl rfl rfl) rfl ?_; refine par_step (ok_assign rfl rfl rfl) rfl ?_; refine par_step (ok_assign rfl rfl rfl) rfl ?_; refine par_nil ?_; refine N_seq ?_
        refine V_ret L (rs := [.tmp 6, .tmp 7]) rfl (fun _ _ h => h) Since.refl fun u H hH hle => ?_
        rfl
    · obtain rfl : i = l.length := by omega
      rw [decide_eq_false (not_mem_end cmpT_ord hlo)]
      refine V_seq ?_; refine V_seq ?_; refine V_region (id := 3) ?_; refine vo_step (ok_move rfl rfl rfl) rfl ?_; refine vo_step (ok_move rfl rfl rfl) rfl ?_; refine vo_step (ok_lss rfl rfl rfl rfl (decide_eq_false (by omega))) rfl ?_; refine vo_nil ?_; refine N_seq ?_; refine V_false rfl ?_; refine V_exit ?_; refine X_then ?_; refine X_then ?_; refine X_here ?_; refine N_seq ?_; refine V_seq ?_; refine V_regionD (id := 8) [] mixed (by kernel_rfl) ?_; refine par_step (ok_move rfl rfl rfl) rfl ?_; refine par_step (ok_move rfl rfl rfl) rfl ?_; refine par_step (ok_move rfl rfl rfl) rfl ?_; refine par_step (ok_lss rfl rfl rfl rfl (decide_eq_false (by omega))) rfl ?_; refine par_step (ok_move rfl rfl rfl) rfl ?_; refine par_step (ok_skip rfl (blt_lt rfl) rfl) rfl ?_; refine par_step (ok_skip rfl (blt_lt rfl) rfl) rfl ?_; refine par_step (ok_skip rfl (blt_lt rfl) rfl) rfl ?_; refine par_step (ok_skip rfl (blt_lt rfl) rfl) rfl ?_; refine par_step (ok_skip rfl (blt_lt rfl) rfl) rfl ?_; refine par_step (ok_skip rfl (blt_lt rfl) rfl) rfl ?_; refine par_step (ok_skip rfl (blt_lt rfl) rfl) rfl ?_; refine par_step (ok_skip rfl (blt_lt rfl) rfl) rfl ?_; refine par_step (ok_pick rfl rfl rfl rfl) rfl ?_; refine par_step (ok_assign rfl rfl rfl) rfl ?_; refine par_step (ok_assign rfl rfl rfl) rfl ?_; refine par_nil ?_; refine N_seq ?_
      refine V_ret L (rs := [.tmp 6, .tmp 7]) rfl (fun _ _ h => h) Since.refl fun u H hH hle => ?_
      rfl
/-- Where a tuple is, or would be. -/
def findR (l : List U) (t : U) : Nat × Bool := if isB l = true then (posS cmpT t l, decide (t ∈ l)) else (0, false)
set_option maxHeartbeats 1000000 in
theorem find_ret {l : List U} {t : U} {fu : Bool} {r : Nat × Bool} (hr : findR l t = r) (hz : l.length ≤ 100000) {v : Value} {w : World} {B : Heap} (hB : B.Le (hp w)) (hv : US l fu v B) :
    Ret Try.prog 37 [v, uv t] w B (fun v _ => v = .tuple #[.int .i64 r.1, .bool r.2]) := by
  subst hr
  unfold findR
  refine V_enter Try.func37 rfl Try.ntmps37 (Nat.le_of_ble_eq_true rfl) hB ?_
  refine V_seen 0 (US l fu) rfl SlV.mono hv ?_
  cases h1 : isB l
  · rw [if_neg (by decide)]
    refine V_seq ?_; refine V_region (id := 0) ?_; refine vo_step (ok_box rfl rfl rfl rfl) rfl ?_; refine vo_step (ok_assign rfl rfl rfl) rfl ?_; refine vo_step (ok_assign rfl rfl rfl) rfl ?_; refine vo_nil ?_; refine N_seq ?_; refine V_seq ?_; refine V_seq ?_; refine V_region (id := 1) ?_; refine vo_step (ok_moves' rfl rfl rfl) rfl ?_; refine vo_step (ok_callx L rfl rfl (blt_lt rfl) rfl rfl rfl (fun u H hH _ _ v1 hv1 => tis_ret (by omega) h1 hH hv1)) rfl ?_; refine vo_step (ok_not rfl rfl rfl rfl) rfl ?_; refine vo_nil ?_; refine N_seq ?_; refine V_true rfl ?_; refine V_seq ?_; refine V_region (id := 2) ?_; refine vo_step (ok_assign rfl rfl rfl) rfl ?_; refine vo_step (ok_assign rfl rfl rfl) rfl ?_; refine vo_nil ?_; refine N_seq ?_
    refine V_ret L (rs := [.tmp 4, .tmp 5]) rfl (fun _ _ h => h) Since.refl fun u H hH hle => ?_
    rfl
  · rw [if_pos rfl]
    have hs : Sst cmpT l := of_decide_eq_true h1
    refine V_seq ?_; refine V_region (id := 0) ?_; refine vo_step (ok_box rfl rfl rfl rfl) rfl ?_; refine vo_step (ok_assign rfl rfl rfl) rfl ?_; refine vo_step (ok_assign rfl rfl rfl) rfl ?_; refine vo_nil ?_; refine N_seq ?_; refine V_seq ?_; refine V_seq ?_; refine V_region (id := 1) ?_; refine vo_step (ok_moves' rfl rfl rfl) rfl ?_; refine vo_step (ok_callx L rfl rfl (blt_lt rfl) rfl rfl rfl (fun u H hH _ _ v1 hv1 => tis_ret (by omega) h1 hH hv1)) rfl ?_; refine vo_step (ok_not rfl rfl rfl rfl) rfl ?_; refine vo_nil ?_; refine N_seq ?_; refine V_false rfl ?_; refine V_skip ?_; refine N_seq ?_; refine V_seq ?_; refine V_region (id := 3) ?_; refine vo_step (ok_moves' rfl rfl rfl) rfl ?_; refine vo_step (ok_loadA L (vs := [_, _, _, _, _, _]) (src_at rfl) rfl rfl rfl rfl ⟨_, rfl⟩) rfl ?_; refine vo_step (ok_callx L rfl rfl (blt_lt rfl) rfl rfl rfl (fun u H hH _ _ v1 hv1 => bsearch_ret hz hs hH hv1)) rfl ?_; refine vo_step (ok_extract rfl rfl rfl rfl) rfl ?_; refine vo_step (ok_extract rfl rfl rfl rfl) rfl ?_; refine vo_step (ok_assign rfl rfl rfl) rfl ?_; refine vo_step (ok_assign rfl rfl rfl) rfl ?_; refine vo_nil ?_; refine N_seq ?_
    refine V_ret L (rs := [.tmp 4, .tmp 5]) rfl (fun _ _ h => h) Since.refl fun u H hH hle => ?_
    rfl
end Go.V.L2
/- The walks of tuples (chapter 2): unions, common parts, differences. -/
namespace Go.V.L2
open Go.Proofs Go.RowKit Go.V
abbrev fU : Bool → Bool → Bool := fun _ _ => true
abbrev fC : Bool → Bool → Bool := fun a b => a && b
abbrev fW : Bool → Bool → Bool := fun _ b => !b
attribute [local irreducible] V N X VO Par StepOK Has Ret RetL RetO RetT Src
theorem fU_ret (p q : Bool) (w : World) (B : Heap) (hB : B.Le (hp w)) : Ret Try.prog 77 [.bool p, .bool q] w B (fun v _ => v = .bool (fU p q)) := by
  refine V_enter Try.func77 rfl Try.ntmps77 (Nat.le_of_ble_eq_true rfl) hB ?_
  refine V_seq ?_; refine V_region (id := 0) ?_; refine vo_step (ok_assign rfl rfl rfl) rfl ?_; refine vo_nil ?_; refine N_seq ?_; refine V_seq ?_; refine V_region (id := 1) ?_; refine vo_step (ok_assign rfl rfl rfl) rfl ?_; refine vo_nil ?_; refine N_seq ?_
  refine V_ret L (rs := [.tmp 4]) rfl (fun _ _ h => h) Since.refl fun u H hH hle => ?_
  rfl
theorem fC_ret (p q : Bool) (w : World) (B : Heap) (hB : B.Le (hp w)) : Ret Try.prog 78 [.bool p, .bool q] w B (fun v _ => v = .bool (fC p q)) := by
  refine V_enter Try.func78 rfl Try.ntmps78 (Nat.le_of_ble_eq_true rfl) hB ?_
  cases p
  · refine V_seq ?_; refine V_region (id := 0) ?_; refine vo_step (ok_assign rfl rfl rfl) rfl ?_; refine vo_nil ?_; refine N_seq ?_; refine V_seq ?_; refine V_region (id := 1) ?_; refine vo_step (ok_move rfl rfl rfl) rfl ?_; refine vo_step (ok_move rfl rfl rfl) rfl ?_; refine vo_step (ok_skip rfl (blt_lt rfl) rfl) rfl ?_; refine vo_step (ok_pick rfl rfl rfl rfl) rfl ?_; refine vo_step (ok_assign rfl rfl rfl) rfl ?_; refine vo_nil ?_; refine N_seq ?_
    refine V_ret L (rs := [.tmp 4]) rfl (fun _ _ h => h) Since.refl fun u H hH hle => ?_
    rfl
  · refine V_seq ?_; refine V_region (id := 0) ?_; refine vo_step (ok_assign rfl rfl rfl) rfl ?_; refine vo_nil ?_; refine N_seq ?_; refine V_seq ?_; refine V_region (id := 1) ?_; refine vo_step (ok_move rfl rfl rfl) rfl ?_; refine vo_step (ok_move rfl rfl rfl) rfl ?_; refine vo_step (ok_move rfl rfl rfl) rfl ?_; refine vo_step (ok_pick rfl rfl rfl rfl) rfl ?_; refine vo_step (ok_assign rfl rfl rfl) rfl ?_; refine vo_nil ?_; refine N_seq ?_
    refine V_ret L (rs := [.tmp 4]) rfl (fun _ _ h => h) Since.refl fun u H hH hle => ?_
    rfl
theorem fW_ret (p q : Bool) (w : World) (B : Heap) (hB : B.Le (hp w)) : Ret Try.prog 79 [.bool p, .bool q] w B (fun v _ => v = .bool (fW p q)) := by
  refine V_enter Try.func79 rfl Try.ntmps79 (Nat.le_of_ble_eq_true rfl) hB ?_
  refine V_seq ?_; refine V_region (id := 0) ?_; refine vo_step (ok_assign rfl rfl rfl) rfl ?_; refine vo_nil ?_; refine N_seq ?_; refine V_seq ?_; refine V_region (id := 1) ?_; refine vo_step (ok_move rfl rfl rfl) rfl ?_; refine vo_step (ok_not rfl rfl rfl rfl) rfl ?_; refine vo_step (ok_assign rfl rfl rfl) rfl ?_; refine vo_nil ?_; refine N_seq ?_
  refine V_ret L (rs := [.tmp 4]) rfl (fun _ _ h => h) Since.refl fun u H hH hle => ?_
  rfl
section
variable {l m : List U} {fa fb : Bool} {r : List U × Int} {v v2 : Value} {w : World} {B : Heap}
theorem union_ret (hr : mrgR fU l m = r) (hB : B.Le (hp w)) (hv : US l fa v B) (hv2 : US m fb v2 B) : Ret Try.prog 45 [v, v2] w B (LE r) := by
  refine V_enter Try.func45 rfl Try.ntmps45 (Nat.le_of_ble_eq_true rfl) hB ?_
  refine V_seen 0 (US l fa) rfl SlV.mono hv ?_
  refine V_seen 1 (US m fb) rfl SlV.mono hv2 ?_
  refine V_seq ?_; refine V_region (id := 0) ?_; refine vo_step (ok_assign rfl rfl rfl) rfl ?_; refine vo_step (ok_assign rfl rfl rfl) rfl ?_; refine vo_nil ?_; refine N_seq ?_; refine V_seq ?_; refine V_region (id := 1) ?_; refine vo_step (ok_moves' rfl rfl rfl) rfl ?_; refine vo_step (ok_moves' rfl rfl rfl) rfl ?_; refine vo_step (ok_call (φ := LE r) L rfl rfl (blt_lt rfl) rfl rfl rfl LE.mono (fun u H hH _ _ v1 h1 v2 h2 => merge_ret rfl fU_ret hr hH h1 h2)) rfl ?_; refine vo_step (ok_extracts rfl rfl rfl rfl SlV.mono) rfl ?_; refine vo_step (ok_extractx rfl rfl rfl rfl) rfl ?_; refine vo_step (ok_assigns' rfl rfl rfl) rfl ?_; refine vo_step (ok_assign rfl rfl rfl) rfl ?_; refine vo_nil ?_; refine N_seq ?_
  refine V_ret L (rs := [.tmp 4, .tmp 5]) rfl (fun _ _ h => h) Since.refl fun u H hH hle => ?_
  exact fun v hv => tups2 hv
theorem common_ret (hr : mrgR fC l m = r) (hB : B.Le (hp w)) (hv : US l fa v B) (hv2 : US m fb v2 B) : Ret Try.prog 46 [v, v2] w B (LE r) := by
  refine V_enter Try.func46 rfl Try.ntmps46 (Nat.le_of_ble_eq_true rfl) hB ?_
  refine V_seen 0 (US l fa) rfl SlV.mono hv ?_
  refine V_seen 1 (US m fb) rfl SlV.mono hv2 ?_
  refine V_seq ?_; refine V_region (id := 0) ?_; refine vo_step (ok_assign rfl rfl rfl) rfl ?_; refine vo_step (ok_assign rfl rfl rfl) rfl ?_; refine vo_nil ?_; refine N_seq ?_; refine V_seq ?_; refine V_region (id := 1) ?_; refine vo_step (ok_moves' rfl rfl rfl) rfl ?_; refine vo_step (ok_moves' rfl rfl rfl) rfl ?_; refine vo_step (ok_call (φ := LE r) L rfl rfl (blt_lt rfl) rfl rfl rfl LE.mono (fun u H hH _ _ v1 h1 v2 h2 => merge_ret rfl fC_ret hr hH h1 h2)) rfl ?_; refine vo_step (ok_extracts rfl rfl rfl rfl SlV.mono) rfl ?_; refine vo_step (ok_extractx rfl rfl rfl rfl) rfl ?_; refine vo_step (ok_assigns' rfl rfl rfl) rfl ?_; refine vo_step (ok_assign rfl rfl rfl) rfl ?_; refine vo_nil ?_; refine N_seq ?_
  refine V_ret L (rs := [.tmp 4, .tmp 5]) rfl (fun _ _ h => h) Since.refl fun u H hH hle => ?_
  exact fun v hv => tups2 hv
theorem without_ret (hr : mrgR fW l m = r) (hB : B.Le (hp w)) (hv : US l fa v B) (hv2 : US m fb v2 B) : Ret Try.prog 47 [v, v2] w B (LE r) := by
  refine V_enter Try.func47 rfl Try.ntmps47 (Nat.le_of_ble_eq_true rfl) hB ?_
  refine V_seen 0 (US l fa) rfl SlV.mono hv ?_
  refine V_seen 1 (US m fb) rfl SlV.mono hv2 ?_
  refine V_seq ?_; refine V_region (id := 0) ?_; refine vo_step (ok_assign rfl rfl rfl) rfl ?_; refine vo_step (ok_assign rfl rfl rfl) rfl ?_; refine vo_nil ?_; refine N_seq ?_; refine V_seq ?_; refine V_region (id := 1) ?_; refine vo_step (ok_moves' rfl rfl rfl) rfl ?_; refine vo_step (ok_moves' rfl rfl rfl) rfl ?_; refine vo_step (ok_call (φ := LE r) L rfl rfl (blt_lt rfl) rfl rfl rfl LE.mono (fun u H hH _ _ v1 h1 v2 h2 => merge_ret rfl fW_ret hr hH h1 h2)) rfl ?_; refine vo_step (ok_extracts rfl rfl rfl rfl SlV.mono) rfl ?_; refine vo_step (ok_extractx rfl rfl rfl rfl) rfl ?_; refine vo_step (ok_assigns' rfl rfl rfl) rfl ?_; refine vo_step (ok_assign rfl rfl rfl) rfl ?_; refine vo_nil ?_; refine N_seq ?_
  refine V_ret L (rs := [.tmp 4, .tmp 5]) rfl (fun _ _ h => h) Since.refl fun u H hH hle => ?_
  exact fun v hv => tups2 hv
end
end Go.V.L2
/- Tuples (chapter 2): what is merged is what the definition picks. Plain laws. -/
namespace Go.V.L2
open Go.Proofs Go.RowKit Go.V
theorem mem_someT {x y : List U} {a c b : Bool} {z : U} : z ∈ someT x y a c b ↔ (z ∈ x ∨ z ∈ y) ∧ pickT x y a c b z = true := by
  unfold someT sortT
  rw [mem_sortS, List.mem_filter, List.mem_append]
  simp
theorem mrg_some {f : Bool → Bool → Bool} {a c b : Bool} (h1 : f true false = a) (h2 : f true true = c) (h3 : f false true = b) {x y : List U} (hx : Sst cmpT x) (hy : Sst cmpT y) : mrgS cmpT f (x.length + y.length) x y = someT x y a c b :=
  sst_ext cmpT_ord (sst_mrgS cmpT_ord f (Nat.le_refl _) hx hy) (sst_sortS cmpT_ord Sst.nil) fun z => by
    rw [mem_mrgS cmpT_ord f (Nat.le_refl _) hx hy, mem_someT]
    unfold Tk pickT
    rw [h1, h2, h3]
    by_cases m1 : z ∈ x <;> by_cases m2 : z ∈ y <;> simp [m1, m2]
theorem mrg_union_comm {x y : List U} (hx : Sst cmpT x) (hy : Sst cmpT y) : mrgS cmpT fU (x.length + y.length) x y = mrgS cmpT fU (y.length + x.length) y x :=
  sst_ext cmpT_ord (sst_mrgS cmpT_ord fU (Nat.le_refl _) hx hy) (sst_mrgS cmpT_ord fU (Nat.le_refl _) hy hx) fun z => by
    rw [mem_mrgS cmpT_ord fU (Nat.le_refl _) hx hy, mem_mrgS cmpT_ord fU (Nat.le_refl _) hy hx]
    unfold Tk
    by_cases m1 : z ∈ x <;> by_cases m2 : z ∈ y <;> simp [m1, m2, fU]
theorem mrgR_ok {f : Bool → Bool → Bool} {x y : List U} (hx : Sst cmpT x) (hy : Sst cmpT y) (l1 : x.length ≤ 4096) (l2 : y.length ≤ 4096) : mrgR f x y = (mrgS cmpT f (x.length + y.length) x y, 0) := by
  unfold mrgR
  have e1 : isB x = true := decide_eq_true hx
  have e2 : isB y = true := decide_eq_true hy
  rw [if_neg (by omega), e1, e2, if_pos (by rfl)]
end Go.V.L2
/- Plain words: the texts of valid names are read again. -/
namespace Go.V
open Go.RowKit
def noB (s : ByteArray) (c : UInt8) : Prop := c ∉ s.data.toList
theorem indexByte_mid (r : List UInt8) (c : UInt8) : ∀ (l : List UInt8), c ∉ l → Lib.indexByte (l ++ c :: r) c = l.length
  | [], _ => by simp [Lib.indexByte]
  | b :: l, h => by
    have h1 : ¬ (b == c) = true := fun e => h (by rw [beq_iff_eq] at e; rw [e]; exact List.mem_cons_self ..)
    have ih := indexByte_mid r c l (fun e => h (List.mem_cons_of_mem _ e))
    rw [List.cons_append, Lib.indexByte, if_neg h1, ih, if_neg (by rw [beq_iff_eq]; omega)]
    simp
theorem indexByte_no (c : UInt8) : ∀ (l : List UInt8), c ∉ l → Lib.indexByte l c = -1
  | [], _ => rfl
  | b :: l, h => by
    have h1 : ¬ (b == c) = true := fun e => h (by rw [beq_iff_eq] at e; rw [e]; exact List.mem_cons_self ..)
    rw [Lib.indexByte, if_neg h1, indexByte_no c l (fun e => h (List.mem_cons_of_mem _ e))]
    rfl
theorem cut_mid {l r : List UInt8} {c : UInt8} (h : c ∉ l) : Lib.cut (l ++ c :: r) [c] = (l, r, true) := by
  unfold Lib.cut
  rw [Lib.index_one, indexByte_mid r c l h, if_pos (by omega)]
  simp
theorem cut_no {l : List UInt8} {c : UInt8} (h : c ∉ l) : Lib.cut l [c] = (l, [], false) := by
  unfold Lib.cut
  rw [Lib.index_one, indexByte_no c l h, if_neg (by omega)]
theorem list_app (a b : ByteArray) : (a ++ b).data.toList = a.data.toList ++ b.data.toList := by
  rw [ByteArray.data_append, Array.toList_append]
theorem ba_ext' {a b : ByteArray} (h : a.data.toList = b.data.toList) : a = b := by
  obtain ⟨⟨x⟩⟩ := a; obtain ⟨⟨y⟩⟩ := b; simp at h; subst h; rfl
theorem ba_of (a : ByteArray) : (⟨a.data.toList.toArray⟩ : ByteArray) = a := by obtain ⟨⟨l⟩⟩ := a; rfl
theorem cutA_mid {a b : ByteArray} {c : UInt8} (h : noB a c) : cutA (a ++ ⟨#[c]⟩ ++ b) c = (a, b, true) := by
  have e : (a ++ ⟨#[c]⟩ ++ b).data.toList = a.data.toList ++ c :: b.data.toList := by rw [list_app, list_app]; simp
  unfold cutA
  rw [e, cut_mid h]
theorem cutA_no {a : ByteArray} {c : UInt8} (h : noB a c) : cutA a c = (a, ⟨#[]⟩, false) := by
  unfold cutA
  rw [cut_no h]
theorem hasA_no {a : ByteArray} {c : UInt8} (h : noB a c) : hasA a c = false := by
  unfold hasA
  rw [indexByte_no c _ h]; rfl
theorem cntA_no {a : ByteArray} {c : UInt8} (h : noB a c) : cntA a c = 0 := by
  unfold cntA Lib.countByte
  exact List.count_eq_zero_of_not_mem h
theorem noB_app {a b : ByteArray} {c : UInt8} (h : noB a c) (k : noB b c) : noB (a ++ b) c := by
  unfold noB at *
  rw [list_app]
  simp [h, k]
theorem noB_one {c d : UInt8} (h : c ≠ d) : noB ⟨#[d]⟩ c := by unfold noB; simp [h]
theorem noB_nil {c : UInt8} : noB ⟨#[]⟩ c := by unfold noB; simp
structure Fine (s : ByteArray) : Prop where
  colon : noB s 58
  hash : noB s 35
theorem fine_nil : Fine ⟨#[]⟩ := ⟨noB_nil, noB_nil⟩
theorem fine_chk {s : ByteArray} (h : chk s = 0) : Fine s := by
  unfold chk at h
  split at h
  · rename_i hc
    have := List.all_eq_true.1 hc.2.2
    exact ⟨fun hm => by have := this _ hm; revert this; decide, fun hm => by have := this _ hm; revert this; decide⟩
  · exact absurd h (by decide)
theorem parts_obj {a b : ByteArray} (ha : Fine a) (hb : Fine b) : partsA (objT a b) = some (a, b, ⟨#[]⟩, false) := by
  have h1 : cutA (objT a b) 58 = (a, b, true) := cutA_mid ha.colon
  unfold partsA
  rw [h1]
  simp only [hasA_no ha.hash, hasA_no hb.colon, cntA_no hb.hash, cutA_no hb.hash]
  simp
theorem parts_goal {a b c : ByteArray} (ha : Fine a) (hb : Fine b) (hc : Fine c) : partsA (goalT a b c) = some (a, b, c, true) := by
  have e : goalT a b c = a ++ sCol ++ (b ++ sHash ++ c) := by unfold goalT objT; apply ba_ext'; simp only [list_app, List.append_assoc]
  have h1 : cutA (goalT a b c) 58 = (a, b ++ sHash ++ c, true) := by rw [e]; exact cutA_mid ha.colon
  have h2 : noB (b ++ sHash ++ c) 58 := noB_app (noB_app hb.colon (noB_one (by decide))) hc.colon
  have h3 : cntA (b ++ sHash ++ c) 35 = 1 := by
    unfold cntA Lib.countByte
    rw [list_app, list_app, List.count_append, List.count_append, List.count_eq_zero_of_not_mem hb.hash, List.count_eq_zero_of_not_mem hc.hash]
    simp
  have h4 : cutA (b ++ sHash ++ c) 35 = (b, c, true) := cutA_mid hb.hash
  unfold partsA
  rw [h1]
  simp only [hasA_no ha.hash, hasA_no h2, h3, h4]
  simp
theorem allE2 {a b : ByteArray} (h : allE [a, b] = 0) : chk a = 0 ∧ chk b = 0 := by
  simp only [allE] at h
  rcases chk_cases a with h1 | h1 <;> rcases chk_cases b with h2 | h2 <;> simp [h1, h2] at h ⊢
theorem allE3 {a b c : ByteArray} (h : allE [a, b, c] = 0) : chk a = 0 ∧ chk b = 0 ∧ chk c = 0 := by
  simp only [allE] at h
  rcases chk_cases a with h1 | h1 <;> rcases chk_cases b with h2 | h2 <;> rcases chk_cases c with h3 | h3 <;> simp [h1, h2, h3] at h ⊢
theorem allE2_of {a b : ByteArray} (ha : chk a = 0) (hb : chk b = 0) : allE [a, b] = 0 := by simp [allE, ha, hb]
theorem allE3_of {a b c : ByteArray} (ha : chk a = 0) (hb : chk b = 0) (hc : chk c = 0) : allE [a, b, c] = 0 := by simp [allE, ha, hb, hc]
theorem subjE_zero {a b c : ByteArray} (h : subjE a b c = 0) : chk a = 0 ∧ chk b = 0 ∧ (c = ⟨#[]⟩ ∨ chk c = 0) := by
  unfold subjE at h
  split at h
  · rename_i hc; exact ⟨(allE2 h).1, (allE2 h).2, .inl hc⟩
  · exact ⟨(allE3 h).1, (allE3 h).2.1, .inr (allE3 h).2.2⟩
theorem chk_nil : chk ⟨#[]⟩ = 6 := by decide +kernel
theorem ps_back {a b c : ByteArray} (h : subjE a b c = 0) : psA (subjT a b c) = (a, b, c, 0) := by
  obtain ⟨ha, hb, hc⟩ := subjE_zero h
  unfold psA subjT
  by_cases h0 : c = ⟨#[]⟩
  · subst h0
    rw [if_pos rfl, parts_obj (fine_chk ha) (fine_chk hb)]
    simp only [allE2_of ha hb, if_true]
    simp
  · have hc' : chk c = 0 := hc.resolve_left h0
    rw [if_neg h0, parts_goal (fine_chk ha) (fine_chk hb) (fine_chk hc')]
    simp only [allE2_of ha hb, hc', if_true]
theorem po_back {a b : ByteArray} (ha : chk a = 0) (hb : chk b = 0) : poA (objT a b) = (a, b, 0) := by
  unfold poA
  rw [parts_obj (fine_chk ha) (fine_chk hb)]
  simp [allE2_of ha hb]
theorem pg_back {a b c : ByteArray} (ha : chk a = 0) (hb : chk b = 0) (hc : chk c = 0) : pgA (goalT a b c) = (a, b, c, 0) := by
  unfold pgA
  rw [parts_goal (fine_chk ha) (fine_chk hb) (fine_chk hc)]
  simp [allE3_of ha hb hc]
theorem pg_back0 {a b : ByteArray} (ha : chk a = 0) (hb : chk b = 0) : pgA (goalT a b ⟨#[]⟩) = (⟨#[]⟩, ⟨#[]⟩, ⟨#[]⟩, 6) := by
  have h6 : allE [a, b, ⟨#[]⟩] = 6 := by simp [allE, ha, hb, chk_nil]
  unfold pgA
  rw [parts_goal (fine_chk ha) (fine_chk hb) fine_nil]
  simp [h6]
theorem subjT_inj {a b c a' b' c' : ByteArray} (h : subjE a b c = 0) (h' : subjE a' b' c' = 0) (e : subjT a b c = subjT a' b' c') : a = a' ∧ b = b' ∧ c = c' := by
  have h1 := ps_back h
  rw [e, ps_back h'] at h1
  simp at h1
  exact ⟨h1.1.symm, h1.2.1.symm, h1.2.2.symm⟩
theorem subjT_size (a b c : ByteArray) : (subjT a b c).size ≤ a.size + b.size + c.size + 2 := by
  unfold subjT; split
  · rw [objT_size]; omega
  · rw [goalT_size]; omega
end Go.V
