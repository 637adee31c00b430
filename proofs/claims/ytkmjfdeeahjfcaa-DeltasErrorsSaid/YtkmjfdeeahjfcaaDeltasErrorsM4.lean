/- Texts on the way to DeltasErrors, part 4: one behind another. -/
import Derived.Test.YtkmjfdeeahjfcaaDeltasErrorsM3
import Derived.Laws.RangeString
import Derived.Laws.Runes
import Derived.Scope
set_option linter.unusedVariables false
set_option linter.unusedSimpArgs false
/- The walks of trees at countersign/api.Tuple, struct{}: the pairs, one after the other. -/
namespace Go.V.UT
open Go.Proofs Go.RowKit Go.V
def encP (y : KT × VT) : List Value := [.agg (pl y.1 y.2).toArray]
/-- What 'pairs' hands back: a function value that holds four variables. -/
def PairsAt (t : Tr KT VT) (a f e : Int) : Value → Heap → Prop := fun v H => ∃ b1 b2 b3 b4 root, v = .func (.func 121) #[] #[.pointer (some ⟨b1, 0, none⟩), .pointer (some ⟨b2, 0, none⟩), .pointer (some ⟨b3, 0, none⟩), .pointer (some ⟨b4, 0, none⟩)] ∧
  H b1 = some (.cells [root].toArray 35) ∧ H b2 = some (.cells [.int .i64 a].toArray 3) ∧ H b3 = some (.cells [.int .i64 f].toArray 3) ∧ H b4 = some (.cells [.int .i64 e].toArray 3) ∧ TA t root H
theorem PairsAt.mono {t : Tr KT VT} {a f e : Int} : Kn.mono (.sat (PairsAt t a f e)) := fun _ _ _ ⟨b1, b2, b3, b4, root, h0, h1, h2, h3, h4, h5⟩ hle => ⟨b1, b2, b3, b4, root, h0, hle _ _ h1, hle _ _ h2, hle _ _ h3, hle _ _ h4, h5.le hle⟩
attribute [local irreducible] V N X VO Par StepOK Has Ret RetL Src
theorem pairs_ret (t : Tr KT VT) (a f e : Int) {root : Value} {w : World} {B : Heap} (hB : B.Le (hp w)) (hv : TA t root B) :
    Ret Try.prog 113 [root, .int .i64 a, .int .i64 f, .int .i64 e] w B (PairsAt t a f e) := by
  obtain ⟨p, rfl⟩ := hv.ptr
  refine V_enter Try.func113 rfl Try.ntmps113 (Nat.le_of_ble_eq_true rfl) hB ?_
  refine V_seq ?_; refine V_region (id := 0) ?_; refine vo_step (ok_box rfl rfl rfl rfl) rfl ?_; refine vo_step (ok_box rfl rfl rfl rfl) rfl ?_; refine vo_step (ok_box rfl rfl rfl rfl) rfl ?_; refine vo_step (ok_box rfl rfl rfl rfl) rfl ?_; refine vo_step (ok_assign rfl rfl rfl) rfl ?_; refine vo_nil ?_; refine N_seq ?_; refine V_seq ?_
  refine V_opn 4 rfl fun v1 H1 hs1 ⟨b1, e1, h1⟩ => ?_
  subst e1
  refine V_opn 5 rfl fun v2 H2 hs2 ⟨b2, e2, h2⟩ => ?_
  subst e2
  refine V_opn 6 rfl fun v3 H3 hs3 ⟨b3, e3, h3⟩ => ?_
  subst e3
  refine V_opn 7 rfl fun v4 H4 hs4 ⟨b4, e4, h4⟩ => ?_
  subst e4
  refine V_region (id := 1) ?_; refine vo_step (ok_makeFunc rfl rfl rfl rfl) rfl ?_; refine vo_step (ok_assign rfl rfl rfl) rfl ?_; refine vo_nil ?_; refine N_seq ?_
  refine V_ret L (rs := [.tmp 8]) rfl (fun _ _ h => h) (hs1.trans (hs2.trans (hs3.trans hs4))) fun u H hH hle => ?_
  exact ⟨b1, b2, b3, b4, _, rfl, hle _ _ (hs4.le _ _ (hs3.le _ _ (hs2.le _ _ h1))), hle _ _ (hs4.le _ _ (hs3.le _ _ h2)), hle _ _ (hs4.le _ _ h3), hle _ _ h4, (((hv.le hs1.le).le hs2.le).le (hs3.le.trans hs4.le)).le hle⟩
theorem encP_of {l : List (KT × VT)} {x : List Value} {pre : Seqs} (h : pre ++ [x] <+: l.map encP) : ∃ y, x = encP y := by
  have : x ∈ l.map encP := h.subset (by simp)
  obtain ⟨y, _, rfl⟩ := List.mem_map.1 this
  exact ⟨y, rfl⟩
abbrev cellsX : List Value → List Value
  | [.agg cs] => cs.toList
  | _ => []
set_option maxHeartbeats 2000000 in
set_option maxRecDepth 10000 in
theorem iter_ret : ∀ (t : Tr KT VT) (a f e : Int) {b1 b2 b3 b4 : Nat} {root : Value} {w : World} {B : Heap}, 0 ≤ a → a + t.size < 1099511627776 → B.Le (hp w) →
    B b1 = some (.cells [root].toArray 35) → B b2 = some (.cells [.int .i64 a].toArray 3) → B b3 = some (.cells [.int .i64 f].toArray 3) → B b4 = some (.cells [.int .i64 e].toArray 3) → TA t root B →
    Iter Try.prog 121 [.pointer (some ⟨b1, 0, none⟩), .pointer (some ⟨b2, 0, none⟩), .pointer (some ⟨b3, 0, none⟩), .pointer (some ⟨b4, 0, none⟩)] w B ((Tr.prs t a f e).map encP) := by
  intro t
  induction t with
  | nil =>
    intro a f e b1 b2 b3 b4 root w B ha hsz hB g1 g2 g3 g4 hv ly J stop C hst hY hJ hC
    obtain rfl : root = .pointer none := hv
    refine V_enterG 77 (J []) Try.func121 rfl Try.ntmps121 (Nat.le_of_ble_eq_true rfl) hB hJ hC ?_
    refine V_seq ?_; refine V_region (id := 0) ?_; refine vo_step (ok_box rfl rfl rfl rfl) rfl ?_; refine vo_nil ?_; refine N_seq ?_; refine V_seq ?_; refine V_seq ?_; refine V_regionD (id := 1) [] mixed (by kernel_rfl) ?_; refine par_step (ok_load1 L (src_base rfl (by assumption)) rfl rfl rfl rfl) rfl ?_; refine par_step (ok_neql rfl rfl rfl rfl nk35 rfl) rfl ?_; refine par_step (ok_move rfl rfl rfl) rfl ?_; refine par_step (ok_skip rfl (blt_lt rfl) rfl) rfl ?_; refine par_step (ok_skip rfl (blt_lt rfl) rfl) rfl ?_; refine par_step (ok_skip rfl (blt_lt rfl) rfl) rfl ?_; refine par_step (ok_skip rfl (blt_lt rfl) rfl) rfl ?_; refine par_step (ok_skip rfl (blt_lt rfl) rfl) rfl ?_; refine par_step (ok_skip rfl (blt_lt rfl) rfl) rfl ?_; refine par_step (ok_skip rfl (blt_lt rfl) rfl) rfl ?_; refine par_step (ok_skip rfl (blt_lt rfl) rfl) rfl ?_; refine par_step (ok_pick rfl rfl rfl rfl) rfl ?_; refine par_step (ok_move rfl rfl rfl) rfl ?_; refine par_step (ok_skip rfl (blt_lt rfl) rfl) rfl ?_; refine par_step (ok_skip rfl (blt_lt rfl) rfl) rfl ?_; refine par_step (ok_skip rfl (blt_lt rfl) rfl) rfl ?_; refine par_step (ok_pick rfl rfl rfl rfl) rfl ?_; refine par_nil ?_; refine N_seq ?_; refine V_true rfl ?_
    exact V_retGhost L 77 rfl (fun _ _ h => h) Since.refl rfl rfl
  | node k x l r ihl ihr =>
    intro a f e b1 b2 b3 b4 root w B ha hsz hB g1 g2 g3 g4 hv ly J stop C hst hY hJ hC
    obtain ⟨b, lv, rv, rfl, hb, hl, hr⟩ := hv
    have hsn : (Tr.node k x l r).size = l.size + 1 + r.size := rfl
    rw [hsn] at hsz
    refine V_enterG 77 (J []) Try.func121 rfl Try.ntmps121 (Nat.le_of_ble_eq_true rfl) hB hJ hC ?_
    by_cases h1 : a + ((Tr.node k x l r).size : Int) ≤ f
    · have hx : Tr.prs (.node k x l r) a f e = [] := if_pos (.inl h1)
      refine V_seq ?_; refine V_region (id := 0) ?_; refine vo_step (ok_box rfl rfl rfl rfl) rfl ?_; refine vo_nil ?_; refine N_seq ?_; refine V_seq ?_; refine V_seq ?_; refine V_regionD (id := 1) [] mixed (by kernel_rfl) ?_; refine par_step (ok_load1 L (src_base rfl (by assumption)) rfl rfl rfl rfl) rfl ?_; refine par_step (ok_neql rfl rfl rfl rfl nk35 rfl) rfl ?_; refine par_step (ok_move rfl rfl rfl) rfl ?_; refine par_step (ok_load1 L (src_base rfl (by assumption)) rfl rfl rfl rfl) rfl ?_; refine par_step (ok_load1 L (src_base rfl (by assumption)) rfl rfl rfl rfl) rfl ?_; refine par_step (ok_nil rfl rfl rfl) rfl ?_; refine par_step (ok_fieldP L rfl rfl rfl rfl) rfl ?_; refine par_step (ok_load1 L (src_base rfl (by assumption)) rfl rfl rfl rfl) rfl ?_; refine par_step (ok_add rfl rfl rfl rfl (wrap_i64 (by omega) (by omega))) rfl ?_; refine par_step (ok_load1 L (src_base rfl (by assumption)) rfl rfl rfl rfl) rfl ?_; refine par_step (ok_leq rfl rfl rfl rfl (decide_eq_true (by omega))) rfl ?_; refine par_step (ok_pick rfl rfl rfl rfl) rfl ?_; refine par_step (ok_move rfl rfl rfl) rfl ?_; refine par_step (ok_skip rfl (blt_lt rfl) rfl) rfl ?_; refine par_step (ok_skip rfl (blt_lt rfl) rfl) rfl ?_; refine par_step (ok_skip rfl (blt_lt rfl) rfl) rfl ?_; refine par_step (ok_pick rfl rfl rfl rfl) rfl ?_; refine par_nil ?_; refine N_seq ?_; refine V_true rfl ?_
      exact V_retGhost L 77 rfl (fun _ _ h => h) Since.refl rfl (by rw [hx]; rfl)
    · by_cases h2 : a ≥ e
      · have hx : Tr.prs (.node k x l r) a f e = [] := if_pos (.inr h2)
        refine V_seq ?_; refine V_region (id := 0) ?_; refine vo_step (ok_box rfl rfl rfl rfl) rfl ?_; refine vo_nil ?_; refine N_seq ?_; refine V_seq ?_; refine V_seq ?_; refine V_regionD (id := 1) [] mixed (by kernel_rfl) ?_; refine par_step (ok_load1 L (src_base rfl (by assumption)) rfl rfl rfl rfl) rfl ?_; refine par_step (ok_neql rfl rfl rfl rfl nk35 rfl) rfl ?_; refine par_step (ok_move rfl rfl rfl) rfl ?_; refine par_step (ok_load1 L (src_base rfl (by assumption)) rfl rfl rfl rfl) rfl ?_; refine par_step (ok_load1 L (src_base rfl (by assumption)) rfl rfl rfl rfl) rfl ?_; refine par_step (ok_nil rfl rfl rfl) rfl ?_; refine par_step (ok_fieldP L rfl rfl rfl rfl) rfl ?_; refine par_step (ok_load1 L (src_base rfl (by assumption)) rfl rfl rfl rfl) rfl ?_; refine par_step (ok_add rfl rfl rfl rfl (wrap_i64 (by omega) (by omega))) rfl ?_; refine par_step (ok_load1 L (src_base rfl (by assumption)) rfl rfl rfl rfl) rfl ?_; refine par_step (ok_leq rfl rfl rfl rfl (decide_eq_false (by omega))) rfl ?_; refine par_step (ok_pick rfl rfl rfl rfl) rfl ?_; refine par_step (ok_move rfl rfl rfl) rfl ?_; refine par_step (ok_load1 L (src_base rfl (by assumption)) rfl rfl rfl rfl) rfl ?_; refine par_step (ok_load1 L (src_base rfl (by assumption)) rfl rfl rfl rfl) rfl ?_; refine par_step (ok_geq rfl rfl rfl rfl (decide_eq_true (by omega))) rfl ?_; refine par_step (ok_pick rfl rfl rfl rfl) rfl ?_; refine par_nil ?_; refine N_seq ?_; refine V_true rfl ?_
        exact V_retGhost L 77 rfl (fun _ _ h => h) Since.refl rfl (by rw [hx]; rfl)
      · have hx : Tr.prs (.node k x l r) a f e = Tr.prs l a f e ++ ((if a + (l.size : Int) ≥ f ∧ a + (l.size : Int) < e then [(k, x)] else []) ++ Tr.prs r (a + l.size + 1) f e) :=
          if_neg (by rintro (h | h); exact h1 h; exact h2 h)
        rw [hx] at hY ⊢
        simp only [List.map_append] at hY ⊢
        refine V_seq ?_; refine V_region (id := 0) ?_; refine vo_step (ok_box rfl rfl rfl rfl) rfl ?_; refine vo_nil ?_; refine N_seq ?_; refine V_seq ?_; refine V_seq ?_; refine V_regionD (id := 1) [] mixed (by kernel_rfl) ?_; refine par_step (ok_load1 L (src_base rfl (by assumption)) rfl rfl rfl rfl) rfl ?_; refine par_step (ok_neql rfl rfl rfl rfl nk35 rfl) rfl ?_; refine par_step (ok_move rfl rfl rfl) rfl ?_; refine par_step (ok_load1 L (src_base rfl (by assumption)) rfl rfl rfl rfl) rfl ?_; refine par_step (ok_load1 L (src_base rfl (by assumption)) rfl rfl rfl rfl) rfl ?_; refine par_step (ok_nil rfl rfl rfl) rfl ?_; refine par_step (ok_fieldP L rfl rfl rfl rfl) rfl ?_; refine par_step (ok_load1 L (src_base rfl (by assumption)) rfl rfl rfl rfl) rfl ?_; refine par_step (ok_add rfl rfl rfl rfl (wrap_i64 (by omega) (by omega))) rfl ?_; refine par_step (ok_load1 L (src_base rfl (by assumption)) rfl rfl rfl rfl) rfl ?_; refine par_step (ok_leq rfl rfl rfl rfl (decide_eq_false (by omega))) rfl ?_; refine par_step (ok_pick rfl rfl rfl rfl) rfl ?_; refine par_step (ok_move rfl rfl rfl) rfl ?_; refine par_step (ok_load1 L (src_base rfl (by assumption)) rfl rfl rfl rfl) rfl ?_; refine par_step (ok_load1 L (src_base rfl (by assumption)) rfl rfl rfl rfl) rfl ?_; refine par_step (ok_geq rfl rfl rfl rfl (decide_eq_false (by omega))) rfl ?_; refine par_step (ok_pick rfl rfl rfl rfl) rfl ?_; refine par_nil ?_; refine N_seq ?_; refine V_false rfl ?_; refine V_skip ?_; refine N_seq ?_; refine V_seq ?_; refine V_regionD (id := 2) [] mixed (by kernel_rfl) ?_; refine par_step (ok_load1 L (src_base rfl (by assumption)) rfl rfl rfl rfl) rfl ?_; refine par_step (ok_load1 L (src_base rfl (by assumption)) rfl rfl rfl rfl) rfl ?_; refine par_step (ok_nil rfl rfl rfl) rfl ?_; refine par_step (ok_fieldP L rfl rfl rfl rfl) rfl ?_; refine par_step (ok_load1 L (src_base rfl (by assumption)) rfl rfl rfl rfl) rfl ?_; refine par_step (ok_callx L rfl rfl (blt_lt rfl) rfl rfl rfl (fun u H hH hle _ => UT.size_ret _ hH (UT.TA.le (by assumption) hle))) rfl ?_; refine par_step (ok_add rfl rfl rfl rfl (wrap_i64 (by omega) (by omega))) rfl ?_; refine par_step (ok_assign rfl rfl rfl) rfl ?_; refine par_nil ?_; refine N_seq ?_; refine V_seq ?_; refine V_seq ?_; refine V_regionD (id := 3) [] mixed (by kernel_rfl) ?_; refine par_step (ok_load1 L (src_base rfl (by assumption)) rfl rfl rfl rfl) rfl ?_; refine par_step (ok_nil rfl rfl rfl) rfl ?_; refine par_step (ok_fieldP L rfl rfl rfl rfl) rfl ?_; refine par_step (ok_load1 L (src_base rfl (by assumption)) rfl rfl rfl rfl) rfl ?_; refine par_step (ok_load1 L (src_base rfl (by assumption)) rfl rfl rfl rfl) rfl ?_; refine par_step (ok_load1 L (src_base rfl (by assumption)) rfl rfl rfl rfl) rfl ?_; refine par_step (ok_load1 L (src_base rfl (by assumption)) rfl rfl rfl rfl) rfl ?_; refine par_step (ok_call L rfl rfl (blt_lt rfl) rfl rfl rfl PairsAt.mono (fun u H hH hle _ => pairs_ret l a f e hH (TA.le hl hle))) rfl ?_; refine par_nil ?_; refine N_seq ?_; refine V_block ?_
        refine V_opn 5 rfl fun v5 H5 hs5 ⟨b5, e5, g5⟩ => ?_
        subst e5
        refine V_opn 40 rfl fun v40 H40 hs40 ⟨c1, c2, c3, c4, r1, e40, d1, d2, d3, d4, d5⟩ => ?_
        subst e40
        have hsB := hs5.trans hs40
        have gg5 := hs40.le _ _ g5
        refine V_rangeFunc L (gf := 121) (caps := [.pointer (some ⟨c1, 0, none⟩), .pointer (some ⟨c2, 0, none⟩), .pointer (some ⟨c3, 0, none⟩), .pointer (some ⟨c4, 0, none⟩)])
          [(1, .pointer (some ⟨b1, 0, none⟩)), (2, .pointer (some ⟨b2, 0, none⟩)), (3, .pointer (some ⟨b3, 0, none⟩)), (4, .pointer (some ⟨b4, 0, none⟩)), (5, .pointer (some ⟨b5, 0, none⟩)), (6, .int .i64 (a + l.size))]
          (fun pre => [(77, (J pre).res)]) (fun pre x => [(77, .own (J pre).res), (7, .own (Cell (cellsX x) 145)), (5, .is (.pointer (some ⟨b5, 0, none⟩)))])
          ((Tr.prs l a f e).map encP) stop (fun _ => .ret) rfl rfl rfl ⟨rfl, rfl, rfl, rfl, rfl, rfl, rfl, trivial⟩
          (fun pre p hp => by simp only [List.mem_singleton] at hp; subst hp; exact Nat.le_refl _) hst (fun x hx => by obtain ⟨y, _, rfl⟩ := List.mem_map.1 hx; rfl) (by decide)
          (fun u H hH hle => ihl a f e ha (by omega) hH (hle _ _ d1) (hle _ _ d2) (hle _ _ d3) (hle _ _ d4) (d5.le hle)) ?asg ?bd ?dn ?st
        case asg =>
          intro w1 Ln B' l' D' o pre x' hpre hstp hBB
          obtain ⟨y, rfl⟩ := encP_of hpre
          refine V_region (id := 4) ?_; refine vo_step (ok_alloc L rfl rfl rfl rfl) rfl ?_; refine vo_step (ok_store L rfl rfl rfl rfl rfl rfl rfl rfl) rfl ?_; refine vo_nil ?_
          exact N_has Since.refl ⟨rfl, rfl, rfl, trivial⟩
        case bd =>
          intro w1 Ln B' l' D' o pre x' hpre hstp hBB
          obtain ⟨y, rfl⟩ := encP_of hpre
          have q5 := hBB _ _ gg5
          have hpre' := hpre.trans (List.prefix_append ((Tr.prs l a f e).map encP) (((if a + (l.size : Int) ≥ f ∧ a + (l.size : Int) < e then [(k, x)] else [])).map encP ++ (Tr.prs r (a + l.size + 1) f e).map encP))
          cases hb' : stop (pre ++ [encP y])
          · refine V_block ?_; refine V_seq ?_; refine V_region (id := 5) ?_; refine vo_step (ok_load1 L (src_base rfl (by assumption)) rfl rfl rfl rfl) rfl ?_; refine vo_step (ok_loadA L (vs := [_, _, _, _, _, _]) (src_own rfl) rfl rfl rfl rfl ⟨_, rfl⟩) rfl ?_; refine vo_step2 (ok_yield (gs := 77) hY hpre' hstp (congrArg Bool.not hb') rfl rfl rfl rfl rfl) ?_; refine vo_step (ok_not rfl rfl rfl rfl) rfl ?_; refine vo_nil ?_; refine N_seq ?_; refine V_false rfl ?_; refine V_skip ?_; refine N_block ?_
            exact N_fin Since.refl hb' ⟨rfl, trivial⟩
          · refine V_block ?_; refine V_seq ?_; refine V_region (id := 5) ?_; refine vo_step (ok_load1 L (src_base rfl (by assumption)) rfl rfl rfl rfl) rfl ?_; refine vo_step (ok_loadA L (vs := [_, _, _, _, _, _]) (src_own rfl) rfl rfl rfl rfl ⟨_, rfl⟩) rfl ?_; refine vo_step2 (ok_yield (gs := 77) hY hpre' hstp (congrArg Bool.not hb') rfl rfl rfl rfl rfl) ?_; refine vo_step (ok_not rfl rfl rfl rfl) rfl ?_; refine vo_nil ?_; refine N_seq ?_; refine V_true rfl ?_
            exact V_rets (R_block (R_fin Since.refl hb' rfl ⟨rfl, trivial⟩))
        case st =>
          intro l' D' o hstop
          exact V_retGhost L 77 rfl (fun _ _ h => h) hsB rfl (by rw [taken_stop _ _ _ hstop hst])
        case dn =>
          intro l' D' o hgo
          have htk := taken_go (stop := stop) ((Tr.prs l a f e).map encP) [] hgo
          simp only [List.nil_append] at htk
          rw [htk] at hgo ⊢
          have gg1 := hsB.le _ _ g1
          have gg2 := hsB.le _ _ g2
          have gg3 := hsB.le _ _ g3
          have gg4 := hsB.le _ _ g4
          have ggb := hsB.le _ _ hb
          have ggr := TA.le hr hsB.le
          refine N_block ?_
          refine N_seq ?_
          refine V_seq_mid (fun M : Seqs => [(77, .own (J M).res), (1, .is (.pointer (some ⟨b1, 0, none⟩))), (2, .is (.pointer (some ⟨b2, 0, none⟩))), (3, .is (.pointer (some ⟨b3, 0, none⟩))), (4, .is (.pointer (some ⟨b4, 0, none⟩))), (5, .is (.pointer (some ⟨b5, 0, none⟩))), (6, .is (.int .i64 (a + l.size)))])
            (fun M => stop M = false ∧ taken stop [] M = M ∧ M ++ (Tr.prs r (a + l.size + 1) f e).map encP = (Tr.prs l a f e).map encP ++ (((if a + (l.size : Int) ≥ f ∧ a + (l.size : Int) < e then [(k, x)] else [])).map encP ++ (Tr.prs r (a + l.size + 1) f e).map encP)) ?one ?two
          case one =>
            by_cases hy1 : a + (l.size : Int) ≥ f
            · by_cases hy2 : a + (l.size : Int) < e
              · rw [if_pos ⟨hy1, hy2⟩] at hY ⊢
                have hpre : (Tr.prs l a f e).map encP ++ [encP (k, x)] <+: (Tr.prs l a f e).map encP ++ ([(k, x)].map encP ++ (Tr.prs r (a + l.size + 1) f e).map encP) := ⟨(Tr.prs r (a + l.size + 1) f e).map encP, by simp⟩
                cases hb' : stop ((Tr.prs l a f e).map encP ++ [encP (k, x)])
                · refine V_seq ?_; refine V_regionD (id := 6) [(60, [77])] mixed (by kernel_rfl) ?_; refine par_step (ok_move rfl rfl rfl) rfl ?_; refine par_step (ok_load1 L (src_base rfl (by assumption)) rfl rfl rfl rfl) rfl ?_; refine par_step (ok_geq rfl rfl rfl rfl (decide_eq_true (by omega))) rfl ?_; refine par_step (ok_move rfl rfl rfl) rfl ?_; refine par_step (ok_move rfl rfl rfl) rfl ?_; refine par_step (ok_load1 L (src_base rfl (by assumption)) rfl rfl rfl rfl) rfl ?_; refine par_step (ok_lss rfl rfl rfl rfl (decide_eq_true (by omega))) rfl ?_; refine par_step (ok_pick rfl rfl rfl rfl) rfl ?_; refine par_step (ok_move rfl rfl rfl) rfl ?_; refine par_step (ok_load1 L (src_base rfl (by assumption)) rfl rfl rfl rfl) rfl ?_; refine par_step (ok_load1 L (src_base rfl (by assumption)) rfl rfl rfl rfl) rfl ?_; refine par_step (ok_nil rfl rfl rfl) rfl ?_; refine par_step (ok_fieldP L rfl rfl rfl rfl) rfl ?_; refine par_step (ok_loadA L (vs := [_, _, _, _, _, _]) (src_base rfl (by assumption)) rfl rfl rfl rfl ⟨_, rfl⟩) rfl ?_; refine par_step2 (ok_yield (gs := 77) hY hpre hgo (congrArg Bool.not hb') rfl rfl rfl rfl rfl) rfl rfl ?_; refine par_step (ok_not rfl rfl rfl rfl) rfl ?_; refine par_step (ok_pick rfl rfl rfl rfl) rfl ?_; refine par_nil ?_; refine N_seq ?_; refine V_false rfl ?_; refine V_skip ?_
                  refine N_mid ((Tr.prs l a f e).map encP ++ [encP (k, x)]) Since.refl ⟨hb', ?_, by simp⟩ ⟨rfl, rfl, rfl, rfl, rfl, rfl, rfl, trivial⟩
                  rw [taken_more _ _ _ (by rw [htk]; exact hgo), List.nil_append]
                  simp only [taken]
                  split <;> rfl
                · refine V_seq ?_; refine V_regionD (id := 6) [(60, [77])] mixed (by kernel_rfl) ?_; refine par_step (ok_move rfl rfl rfl) rfl ?_; refine par_step (ok_load1 L (src_base rfl (by assumption)) rfl rfl rfl rfl) rfl ?_; refine par_step (ok_geq rfl rfl rfl rfl (decide_eq_true (by omega))) rfl ?_; refine par_step (ok_move rfl rfl rfl) rfl ?_; refine par_step (ok_move rfl rfl rfl) rfl ?_; refine par_step (ok_load1 L (src_base rfl (by assumption)) rfl rfl rfl rfl) rfl ?_; refine par_step (ok_lss rfl rfl rfl rfl (decide_eq_true (by omega))) rfl ?_; refine par_step (ok_pick rfl rfl rfl rfl) rfl ?_; refine par_step (ok_move rfl rfl rfl) rfl ?_; refine par_step (ok_load1 L (src_base rfl (by assumption)) rfl rfl rfl rfl) rfl ?_; refine par_step (ok_load1 L (src_base rfl (by assumption)) rfl rfl rfl rfl) rfl ?_; refine par_step (ok_nil rfl rfl rfl) rfl ?_; refine par_step (ok_fieldP L rfl rfl rfl rfl) rfl ?_; refine par_step (ok_loadA L (vs := [_, _, _, _, _, _]) (src_base rfl (by assumption)) rfl rfl rfl rfl ⟨_, rfl⟩) rfl ?_; refine par_step2 (ok_yield (gs := 77) hY hpre hgo (congrArg Bool.not hb') rfl rfl rfl rfl rfl) rfl rfl ?_; refine par_step (ok_not rfl rfl rfl rfl) rfl ?_; refine par_step (ok_pick rfl rfl rfl rfl) rfl ?_; refine par_nil ?_; refine N_seq ?_; refine V_true rfl ?_
                  refine V_retGhost L 77 rfl (fun _ _ h => h) hsB rfl ?_
                  rw [taken_more _ _ _ (by rw [htk]; exact hgo), List.nil_append]
                  simp only [List.map_cons, List.map_nil, List.cons_append, taken]
                  rw [if_pos hb']
              · rw [if_neg (by rintro ⟨_, h⟩; exact hy2 h)]
                refine V_seq ?_; refine V_regionD (id := 6) [(60, [77])] mixed (by kernel_rfl) ?_; refine par_step (ok_move rfl rfl rfl) rfl ?_; refine par_step (ok_load1 L (src_base rfl (by assumption)) rfl rfl rfl rfl) rfl ?_; refine par_step (ok_geq rfl rfl rfl rfl (decide_eq_true (by omega))) rfl ?_; refine par_step (ok_move rfl rfl rfl) rfl ?_; refine par_step (ok_move rfl rfl rfl) rfl ?_; refine par_step (ok_load1 L (src_base rfl (by assumption)) rfl rfl rfl rfl) rfl ?_; refine par_step (ok_lss rfl rfl rfl rfl (decide_eq_false (by omega))) rfl ?_; refine par_step (ok_pick rfl rfl rfl rfl) rfl ?_; refine par_step (ok_move rfl rfl rfl) rfl ?_; refine par_step (ok_skip rfl (blt_lt rfl) rfl) rfl ?_; refine par_step (ok_skip rfl (blt_lt rfl) rfl) rfl ?_; refine par_step (ok_skip rfl (blt_lt rfl) rfl) rfl ?_; refine par_step (ok_skip rfl (blt_lt rfl) rfl) rfl ?_; refine par_step (ok_skip rfl (blt_lt rfl) rfl) rfl ?_; refine par_step (ok_skip rfl (blt_lt rfl) rfl) rfl ?_; refine par_step (ok_skip rfl (blt_lt rfl) rfl) rfl ?_; refine par_step (ok_pick rfl rfl rfl rfl) rfl ?_; refine par_nil ?_; refine N_seq ?_; refine V_false rfl ?_; refine V_skip ?_
                exact N_mid ((Tr.prs l a f e).map encP) Since.refl ⟨hgo, htk, by simp⟩ ⟨rfl, rfl, rfl, rfl, rfl, rfl, rfl, trivial⟩
            · rw [if_neg (by rintro ⟨h, _⟩; exact hy1 h)]
              refine V_seq ?_; refine V_regionD (id := 6) [(60, [77])] mixed (by kernel_rfl) ?_; refine par_step (ok_move rfl rfl rfl) rfl ?_; refine par_step (ok_load1 L (src_base rfl (by assumption)) rfl rfl rfl rfl) rfl ?_; refine par_step (ok_geq rfl rfl rfl rfl (decide_eq_false (by omega))) rfl ?_; refine par_step (ok_move rfl rfl rfl) rfl ?_; refine par_step (ok_skip rfl (blt_lt rfl) rfl) rfl ?_; refine par_step (ok_skip rfl (blt_lt rfl) rfl) rfl ?_; refine par_step (ok_skip rfl (blt_lt rfl) rfl) rfl ?_; refine par_step (ok_pick rfl rfl rfl rfl) rfl ?_; refine par_step (ok_move rfl rfl rfl) rfl ?_; refine par_step (ok_skip rfl (blt_lt rfl) rfl) rfl ?_; refine par_step (ok_skip rfl (blt_lt rfl) rfl) rfl ?_; refine par_step (ok_skip rfl (blt_lt rfl) rfl) rfl ?_; refine par_step (ok_skip rfl (blt_lt rfl) rfl) rfl ?_; refine par_step (ok_skip rfl (blt_lt rfl) rfl) rfl ?_; refine par_step (ok_skip rfl (blt_lt rfl) rfl) rfl ?_; refine par_step (ok_skip rfl (blt_lt rfl) rfl) rfl ?_; refine par_step (ok_pick rfl rfl rfl rfl) rfl ?_; refine par_nil ?_; refine N_seq ?_; refine V_false rfl ?_; refine V_skip ?_
              exact N_mid ((Tr.prs l a f e).map encP) Since.refl ⟨hgo, htk, by simp⟩ ⟨rfl, rfl, rfl, rfl, rfl, rfl, rfl, trivial⟩
          case two =>
            rintro M ⟨hM1, hM2, hM3⟩
            rw [← hM3] at hY ⊢
            refine V_seq ?_; refine V_regionD (id := 7) [] mixed (by kernel_rfl) ?_; refine par_step (ok_load1 L (src_base rfl (by assumption)) rfl rfl rfl rfl) rfl ?_; refine par_step (ok_nil rfl rfl rfl) rfl ?_; refine par_step (ok_fieldP L rfl rfl rfl rfl) rfl ?_; refine par_step (ok_load1 L (src_base rfl (by assumption)) rfl rfl rfl rfl) rfl ?_; refine par_step (ok_move rfl rfl rfl) rfl ?_; refine par_step (ok_add rfl rfl rfl rfl (wrap_i64 (by omega) (by omega))) rfl ?_; refine par_step (ok_load1 L (src_base rfl (by assumption)) rfl rfl rfl rfl) rfl ?_; refine par_step (ok_load1 L (src_base rfl (by assumption)) rfl rfl rfl rfl) rfl ?_; refine par_step (ok_call L rfl rfl (blt_lt rfl) rfl rfl rfl PairsAt.mono (fun u H hH hle _ => pairs_ret r (a + l.size + 1) f e hH (TA.le ggr hle))) rfl ?_; refine par_nil ?_; refine N_seq ?_; refine V_block ?_
            refine V_opn 71 rfl fun v71 H71 hs71 ⟨c1, c2, c3, c4, r1, e71, d1, d2, d3, d4, d5⟩ => ?_
            subst e71
            have qq5 := hs71.le _ _ gg5
            have htot : taken stop [] (M ++ (Tr.prs r (a + l.size + 1) f e).map encP) = M ++ taken (fun p => stop (M ++ p)) [] ((Tr.prs r (a + l.size + 1) f e).map encP) := by
              rw [taken_more _ _ _ (by rw [hM2]; exact hM1), taken_shift, List.nil_append, List.append_nil]
            refine V_rangeFunc L (gf := 121) (caps := [.pointer (some ⟨c1, 0, none⟩), .pointer (some ⟨c2, 0, none⟩), .pointer (some ⟨c3, 0, none⟩), .pointer (some ⟨c4, 0, none⟩)])
              [(5, .pointer (some ⟨b5, 0, none⟩))]
              (fun pre => [(77, (J (M ++ pre)).res)]) (fun pre x => [(77, .own (J (M ++ pre)).res), (8, .own (Cell (cellsX x) 145)), (5, .is (.pointer (some ⟨b5, 0, none⟩)))])
              ((Tr.prs r (a + l.size + 1) f e).map encP) (fun p => stop (M ++ p)) (fun _ => .ret) rfl rfl rfl ⟨by rw [List.append_nil]; rfl, rfl, trivial⟩
              (fun pre p hp => by simp only [List.mem_singleton] at hp; subst hp; exact Nat.le_refl _) (by show stop (M ++ []) = false; rw [List.append_nil]; exact hM1) (fun x hx => by obtain ⟨y, _, rfl⟩ := List.mem_map.1 hx; rfl) (by decide)
              (fun u H hH hle => ihr (a + l.size + 1) f e (by omega) (by omega) hH (hle _ _ d1) (hle _ _ d2) (hle _ _ d3) (hle _ _ d4) (d5.le hle)) ?asg2 ?bd2 ?dn2 ?st2
            case asg2 =>
              intro w1 Ln B' l' D' o pre x' hpre hstp hBB
              obtain ⟨y, rfl⟩ := encP_of hpre
              refine V_region (id := 8) ?_; refine vo_step (ok_alloc L rfl rfl rfl rfl) rfl ?_; refine vo_step (ok_store L rfl rfl rfl rfl rfl rfl rfl rfl) rfl ?_; refine vo_nil ?_
              exact N_has Since.refl ⟨rfl, rfl, rfl, trivial⟩
            case bd2 =>
              intro w1 Ln B' l' D' o pre x' hpre hstp hBB
              obtain ⟨y, rfl⟩ := encP_of hpre
              have q5 := hBB _ _ qq5
              have hpre' : (M ++ pre) ++ [encP y] <+: M ++ (Tr.prs r (a + l.size + 1) f e).map encP := by rw [List.append_assoc]; exact (List.prefix_append_right_inj M).2 hpre
              cases hb' : stop ((M ++ pre) ++ [encP y])
              · refine V_block ?_; refine V_seq ?_; refine V_region (id := 9) ?_; refine vo_step (ok_load1 L (src_base rfl (by assumption)) rfl rfl rfl rfl) rfl ?_; refine vo_step (ok_loadA L (vs := [_, _, _, _, _, _]) (src_own rfl) rfl rfl rfl rfl ⟨_, rfl⟩) rfl ?_; refine vo_step2 (ok_yield (gs := 77) hY hpre' hstp (congrArg Bool.not hb') rfl rfl rfl rfl rfl) ?_; refine vo_step (ok_not rfl rfl rfl rfl) rfl ?_; refine vo_nil ?_; refine N_seq ?_; refine V_false rfl ?_; refine V_skip ?_; refine N_block ?_
                exact N_fin Since.refl (by rw [← List.append_assoc]; exact hb') ⟨by rw [← List.append_assoc]; rfl, trivial⟩
              · refine V_block ?_; refine V_seq ?_; refine V_region (id := 9) ?_; refine vo_step (ok_load1 L (src_base rfl (by assumption)) rfl rfl rfl rfl) rfl ?_; refine vo_step (ok_loadA L (vs := [_, _, _, _, _, _]) (src_own rfl) rfl rfl rfl rfl ⟨_, rfl⟩) rfl ?_; refine vo_step2 (ok_yield (gs := 77) hY hpre' hstp (congrArg Bool.not hb') rfl rfl rfl rfl rfl) ?_; refine vo_step (ok_not rfl rfl rfl rfl) rfl ?_; refine vo_nil ?_; refine N_seq ?_; refine V_true rfl ?_
                exact V_rets (R_block (R_fin Since.refl (by rw [← List.append_assoc]; exact hb') rfl ⟨by rw [← List.append_assoc]; rfl, trivial⟩))
            case st2 =>
              intro l' D' o hstop
              exact V_retGhost L 77 rfl (fun _ _ h => h) (hsB.trans hs71) rfl (by rw [htot])
            case dn2 =>
              intro l' D' o hgo2
              refine N_block ?_
              exact N_retGhost L 77 rfl (fun _ _ h => h) (hsB.trans hs71) rfl (by rw [htot])
end Go.V.UT
/- The walks of trees at countersign/api.Tuple, struct{}: lists of pairs. -/
namespace Go.V.UT
open Go.Proofs Go.RowKit Go.V
abbrev tyP : TypeId := 145
abbrev tyS : TypeId := 142
/-- The cells of a list of pairs. -/
def flat (l : List (KT × VT)) : List Value := l.flatMap fun y => pl y.1 y.2
abbrev PS (l : List (KT × VT)) (fu : Bool) : Value → Heap → Prop := SlV tyP 6 (flat l) l.length fu
theorem cells_flat : ∀ (pre : Seqs) (l : List (KT × VT)), pre <+: l.map encP → ∃ m : List (KT × VT), pre = m.map encP ∧ m.length = pre.length ∧ pre.flatMap cellsX = flat m := by
  intro pre l h
  refine ⟨l.take pre.length, ?_, ?_, ?_⟩
  · rw [List.map_take]; exact (List.prefix_iff_eq_take.1 h)
  · rw [List.length_take]
    have := h.length_le
    simp only [List.length_map] at this
    omega
  · conv => lhs; rw [List.prefix_iff_eq_take.1 h, ← List.map_take]
    generalize l.take pre.length = m
    induction m with
    | nil => rfl
    | cons y m ih => simp only [List.map_cons, List.flatMap_cons, flat] at ih ⊢; rw [ih]; rfl
theorem taken_never (xs : Seqs) : taken (fun _ => false) [] xs = xs := by
  have := taken_go (stop := fun _ => false) xs [] rfl
  simpa using this
attribute [local irreducible] V N X VO Par StepOK Has Ret RetL Src
theorem clip_ret (l : List (KT × VT)) (fu : Bool) {v : Value} {w : World} {B : Heap} (hB : B.Le (hp w)) (hv : PS l fu v B) : Ret Try.prog 111 [v] w B (PS l true) := by
  refine V_enter Try.func111 rfl Try.ntmps111 (Nat.le_of_ble_eq_true rfl) hB ?_
  refine V_seen 0 (PS l fu) rfl SlV.mono hv ?_
  refine V_seq ?_; refine V_region (id := 0) ?_; refine vo_step (ok_assign rfl rfl rfl) rfl ?_; refine vo_nil ?_; refine N_seq ?_; refine V_seq ?_; refine V_region (id := 1) ?_; refine vo_step (ok_moves' rfl rfl rfl) rfl ?_; refine vo_step (ok_moves' rfl rfl rfl) rfl ?_; refine vo_step (ok_lenV L rfl rfl rfl rfl) rfl ?_; refine vo_step (ok_moves' rfl rfl rfl) rfl ?_; refine vo_step (ok_lenV L rfl rfl rfl rfl) rfl ?_; refine vo_step (ok_clipV L rfl rfl rfl rfl rfl rfl rfl) rfl ?_; refine vo_step (ok_assigns' rfl rfl rfl) rfl ?_; refine vo_nil ?_; refine N_seq ?_
  refine V_ret L (rs := [.tmp 2]) rfl (fun _ _ h => h) Since.refl fun u H hH hle => ?_
  exact fun v hv => hv
set_option maxHeartbeats 1000000 in
theorem aseq_ret (l : List (KT × VT)) (hl : l.length < 1099511627776) {x : Value} {gf : Nat} {caps : List Value} {w : World} {B : Heap} {C : Nat → Prop} (hB : B.Le (hp w)) (hx : (SlR tyP 6 0 []).P x B w C) (hC : ∀ k, C k → k < w.heap.size ∧ B k = none)
    (hfn : L.fn gf = some ()) (hit : ∀ u H, H.Le (hp u) → B.Le H → Iter Try.prog gf caps u H (l.map encP)) :
    RetL Try.prog 112 [x, .func (.func gf) #[] caps.toArray] w B C (fun v H _ => PS l false v H) := by
  refine V_enterA 0 (x := x) (SlR tyP 6 0 []) rfl Try.func112 rfl Try.ntmps112 (Nat.le_of_ble_eq_true rfl) hB hx hC ?_
  refine V_detach 0 13 _ rfl SlR.shape fun y hy => ?_
  obtain ⟨p, c, rfl⟩ := hy
  refine V_seq ?_; refine V_region (id := 0) ?_; refine vo_step (ok_boxR rfl rfl rfl rfl) rfl ?_; refine vo_step (ok_assign rfl rfl rfl) rfl ?_; refine vo_nil ?_; refine N_seq ?_; refine V_seq ?_; refine V_seq ?_; refine V_region (id := 1) ?_; refine vo_step (ok_move rfl rfl rfl) rfl ?_; refine vo_nil ?_; refine N_seq ?_; refine V_block ?_
  refine V_box 2 rfl fun b2 hb2 => ?_
  refine V_closeBox 13 [] rfl rfl ?_
  refine V_rangeFunc L (gf := gf) (caps := caps) [(2, .pointer (some ⟨b2, 0, none⟩))] (fun pre => [(13, BoxR b2 tyS (SlR tyP 6 pre.length (pre.flatMap cellsX)))])
    (fun pre x => [(13, .own (BoxR b2 tyS (SlR tyP 6 pre.length (pre.flatMap cellsX)))), (2, .is (.pointer (some ⟨b2, 0, none⟩))), (5, .own (Cell (cellsX x) tyP))])
    (l.map encP) (fun _ => false) (fun _ => .ret) rfl rfl hfn ⟨rfl, rfl, trivial⟩
    (fun pre p hp => by simp only [List.mem_singleton] at hp; subst hp; exact Nat.le_refl _) rfl (fun x hx => by obtain ⟨y, _, rfl⟩ := List.mem_map.1 hx; rfl) (by decide) hit ?asg ?bd ?dn ?st
  case asg =>
    intro w1 Ln B' l' D' o pre x' hpre hstp hBB
    obtain ⟨y, rfl⟩ := encP_of hpre
    refine V_region (id := 2) ?_; refine vo_step (ok_alloc L rfl rfl rfl rfl) rfl ?_; refine vo_step (ok_store L rfl rfl rfl rfl rfl rfl rfl rfl) rfl ?_; refine vo_nil ?_
    exact N_has Since.refl ⟨rfl, rfl, rfl, trivial⟩
  case bd =>
    intro w1 Ln B' l' D' o pre x' hpre hstp hBB
    obtain ⟨y, rfl⟩ := encP_of hpre
    have hlen := hpre.length_le
    simp only [List.length_append, List.length_map, List.length_cons, List.length_nil] at hlen
    refine V_block ?_
    refine V_openBox 13 _ rfl SlR.shape fun z hz => ?_
    obtain ⟨p, c, rfl⟩ := hz
    refine V_region (id := 3) ?_; refine vo_step (ok_load1 L (src_box rfl (List.Mem.head _)) rfl rfl rfl rfl) rfl ?_; refine vo_attach 8 13 rfl rfl ?_; refine vo_step (ok_loadA L (vs := [_, _, _, _, _, _]) (src_own rfl) rfl rfl rfl rfl ⟨_, rfl⟩) rfl ?_; refine vo_step (ok_buildSlice L rfl rfl rfl rfl rfl rfl rfl rfl rfl) rfl ?_; refine vo_step2 (ok_append L rfl rfl rfl (apd_B rfl) rfl el145 rfl rfl (by omega) (by omega)) ?_; refine vo_detach 11 13 _ rfl SlR.shape fun z hz => ?_; obtain ⟨p', c', rfl⟩ := hz; refine box_store L (O1 := []) rfl rfl rfl rfl rfl rfl rfl rfl rfl ?_; refine vo_nil ?_; refine N_block ?_
    refine N_closeBox 13 [] rfl rfl ?_
    refine N_fin Since.refl rfl ⟨?_, trivial⟩
    rw [List.flatMap_append, List.length_append]
    rfl
  case st =>
    intro l' D' o h
    cases h
  case dn =>
    intro l' D' o _
    rw [taken_never]
    refine N_block ?_
    refine N_seq ?_
    refine V_openBox 13 _ rfl SlR.shape fun z hz => ?_
    obtain ⟨p, c, rfl⟩ := hz
    refine V_seq ?_; refine V_region (id := 4) ?_; refine vo_step (ok_load1 L (src_box rfl (List.Mem.head _)) rfl rfl rfl rfl) rfl ?_; refine vo_step (ok_assign rfl rfl rfl) rfl ?_; refine vo_nil ?_; refine N_seq ?_
    refine V_attach 4 13 rfl rfl ?_
    refine V_pubR 4 rfl ?_
    refine V_retM L (rs := [.tmp 4]) rfl (fun _ _ h => h) Since.refl fun O' u H hH hle => ?_
    obtain ⟨m, h1, h2, h3⟩ := cells_flat _ l (List.prefix_refl _)
    have hm : m = l := by
      have := List.map_inj_right (f := encP) (fun a b h => by
        simp only [encP, List.cons.injEq, Value.agg.injEq, and_true] at h
        have h := congrArg Array.toList h
        simp at h
        first | exact Prod.ext h.1 h.2 | exact Prod.ext h.1 (Prod.ext (Prod.ext h.2.1 h.2.2.1) h.2.2.2) | exact Prod.ext (Prod.ext (Prod.ext h.1 h.2.1) h.2.2.1) h.2.2.2 | exact Prod.ext (Prod.ext (Prod.ext (Prod.ext h.1 h.2.1) h.2.2.1) (Prod.ext (Prod.ext h.2.2.2.1 h.2.2.2.2.1) h.2.2.2.2.2)) rfl) |>.1 h1
      exact this.symm
    subst hm
    rw [h3]
    simp only [List.length_map]
    exact fun v hv => hv
theorem PS.mono {l : List (KT × VT)} {fu : Bool} : Kn.mono (.sat (PS l fu)) := SlV.mono
theorem aseq_pairs {t : Tr KT VT} {f e : Int} {x v : Value} {w : World} {B : Heap} {C : Nat → Prop} (hB : B.Le (hp w)) (hx : (SlR tyP 6 0 []).P x B w C) (hC : ∀ k, C k → k < w.heap.size ∧ B k = none) (hv : PairsAt t 0 f e v B) (hs : t.size < 1099511627776) :
    RetL Try.prog 112 [x, v] w B C (fun v H _ => PS (Tr.prs t 0 f e) false v H) := by
  obtain ⟨b1, b2, b3, b4, root, rfl, h1, h2, h3, h4, h5⟩ := hv
  have hlen := Tr.prs_length_le t 0 f e
  exact aseq_ret (Tr.prs t 0 f e) (by omega) hB hx hC rfl fun u H hH hle => iter_ret t 0 f e (Int.le_refl _) (by omega) hH (hle _ _ h1) (hle _ _ h2) (hle _ _ h3) (hle _ _ h4) (h5.le hle)
theorem prs_range (t : Tr KT VT) {a f e : Int} : (Tr.prs t a f e).length ≤ t.size := Tr.prs_length_le t a f e
def rangeL (t : Tr KT VT) (f e : Int) : List (KT × VT) := if max f 0 ≥ min e t.size then [] else Tr.prs t 0 (max f 0) (min e t.size)
set_option maxRecDepth 10000 in
theorem range_ret {fv root : Value} {t : Tr KT VT} (f e : Int) {w : World} {B : Heap} (hB : B.Le (hp w)) (hv : TA t root B) (hs : t.size < 1099511627776) :
    Ret Try.prog 88 [.agg #[fv, root], .int .i64 f, .int .i64 e] w B (PS (rangeL t f e) true) := by
  refine V_enter Try.func88 rfl Try.ntmps88 (Nat.le_of_ble_eq_true rfl) hB ?_
  unfold rangeL
  by_cases h : max f 0 ≥ min e t.size
  · rw [if_pos h]
    refine V_seq ?_; refine V_region (id := 0) ?_; refine vo_step (ok_box rfl rfl rfl rfl) rfl ?_; refine vo_step (ok_assign rfl rfl rfl) rfl ?_; refine vo_nil ?_; refine N_seq ?_; refine V_seq ?_; refine V_region (id := 1) ?_; refine vo_step (ok_move rfl rfl rfl) rfl ?_; refine vo_step (ok_max rfl rfl rfl rfl rfl) rfl ?_; refine vo_step (ok_move rfl rfl rfl) rfl ?_; refine vo_step (ok_loadA L (vs := [_, _]) (src_at rfl) rfl rfl rfl rfl ⟨_, rfl⟩) rfl ?_; refine vo_step (ok_callx L rfl rfl (blt_lt rfl) rfl rfl rfl (fun u H hH hle _ => len_ret hH (hv.le hle))) rfl ?_; refine vo_step (ok_min rfl rfl rfl rfl rfl) rfl ?_; refine vo_step (ok_assign rfl rfl rfl) rfl ?_; refine vo_step (ok_assign rfl rfl rfl) rfl ?_; refine vo_nil ?_; refine N_seq ?_; refine V_seq ?_; refine V_seq ?_; refine V_region (id := 2) ?_; refine vo_step (ok_move rfl rfl rfl) rfl ?_; refine vo_step (ok_move rfl rfl rfl) rfl ?_; refine vo_step (ok_geq rfl rfl rfl rfl (decide_eq_true (by omega))) rfl ?_; refine vo_nil ?_; refine N_seq ?_; refine V_true rfl ?_; refine V_seq ?_; refine V_region (id := 3) ?_; refine vo_step (ok_assign rfl rfl rfl) rfl ?_; refine vo_nil ?_; refine N_seq ?_
    refine V_ret L (rs := [.tmp 6]) rfl (fun _ _ h => h) Since.refl fun u H hH hle => ?_
    exact (SlV.nil (e := tyP))
  · rw [if_neg h]
    have hlen := prs_range t (a := 0) (f := max f 0) (e := min e t.size)
    have e1 : (if (0 : Int) > f then 0 else f) = max f 0 := by omega
    have e2 : (if (t.size : Int) < e then (t.size : Int) else e) = min e t.size := by omega
    refine V_seq ?_; refine V_region (id := 0) ?_; refine vo_step (ok_box rfl rfl rfl rfl) rfl ?_; refine vo_step (ok_assign rfl rfl rfl) rfl ?_; refine vo_nil ?_; refine N_seq ?_; refine V_seq ?_; refine V_region (id := 1) ?_; refine vo_step (ok_move rfl rfl rfl) rfl ?_; refine vo_step (ok_max rfl rfl rfl rfl (by assumption)) rfl ?_; refine vo_step (ok_move rfl rfl rfl) rfl ?_; refine vo_step (ok_loadA L (vs := [_, _]) (src_at rfl) rfl rfl rfl rfl ⟨_, rfl⟩) rfl ?_; refine vo_step (ok_callx L rfl rfl (blt_lt rfl) rfl rfl rfl (fun u H hH hle _ => len_ret hH (hv.le hle))) rfl ?_; refine vo_step (ok_min rfl rfl rfl rfl (by assumption)) rfl ?_; refine vo_step (ok_assign rfl rfl rfl) rfl ?_; refine vo_step (ok_assign rfl rfl rfl) rfl ?_; refine vo_nil ?_; refine N_seq ?_; refine V_seq ?_; refine V_seq ?_; refine V_region (id := 2) ?_; refine vo_step (ok_move rfl rfl rfl) rfl ?_; refine vo_step (ok_move rfl rfl rfl) rfl ?_; refine vo_step (ok_geq rfl rfl rfl rfl (decide_eq_false (by omega))) rfl ?_; refine vo_nil ?_; refine N_seq ?_; refine V_false rfl ?_; refine V_skip ?_; refine N_seq ?_; refine V_seq ?_
    obtain ⟨m, hm⟩ : ∃ m : Nat, min e (t.size : Int) - max f 0 = m := ⟨(min e (t.size : Int) - max f 0).toNat, by omega⟩
    refine V_regionD (id := 4) [(25, [19])] mixed (by kernel_rfl) ?_; refine par_step (ok_move rfl rfl rfl) rfl ?_; refine par_step (ok_move rfl rfl rfl) rfl ?_; refine par_step (ok_sub rfl rfl rfl rfl (wrap_i64 (by omega) (by omega))) rfl ?_; refine par_step (ok_make0 L _ rfl rfl rfl el145 rfl rfl (by assumption) (by omega) (by simp only [maxLen]; omega)) rfl ?_; refine par_step (ok_fieldAt L rfl rfl rfl rfl) rfl ?_; refine par_step (ok_load1 L (src_at rfl) rfl rfl rfl rfl) rfl ?_; refine par_step (ok_move rfl rfl rfl) rfl ?_; refine par_step (ok_move rfl rfl rfl) rfl ?_; refine par_step (ok_call L rfl rfl (blt_lt rfl) rfl rfl rfl PairsAt.mono (fun u H hH hle _ => pairs_ret t 0 (max f 0) (min e t.size) hH (TA.le hv hle))) rfl ?_; refine par_step2 (ok_callT (q := 19) (cap := []) L rfl rfl rfl rfl rfl PS.mono (fun u H C x hH hle hx hC v hv => aseq_pairs hH hx hC hv hs)) rfl rfl ?_; refine par_step (ok_call L rfl rfl (blt_lt rfl) rfl rfl rfl PS.mono (fun u H hH hle _ v hv => clip_ret _ _ hH hv)) rfl ?_; refine par_step (ok_assigns' rfl rfl rfl) rfl ?_; refine par_nil ?_; refine N_seq ?_
    refine V_ret L (rs := [.tmp 6]) rfl (fun _ _ h => h) Since.refl fun u H hH hle => ?_
    exact fun v hv => hv
end Go.V.UT
/- The walks of trees at countersign/api.Tuple, struct{}: the methods of a map, by what the map is. -/
namespace Go.V.UT
open Go.Proofs Go.RowKit Go.V
abbrev MF (cf : Nat) (t : Tr KT VT) : Value → Heap → Prop := MA (.func (.func cf) #[] #[]) t
theorem mput_m {cf : Nat} {c : KT → KT → Int} (hc : Cmp cf c) (k : KT) (x : VT) {t : Tr KT VT} {v : Value} {w : World} {B : Heap} (hB : B.Le (hp w)) (hv : MF cf t v B) (hs : t.size + 1 < 1099511627776) :
    Ret Try.prog 110 [v, kv k, vv x] w B (MF cf (Tr.put c k x t)) := by
  obtain ⟨p, rfl, h⟩ := hv
  exact mput_ret hc k x hB h hs
theorem mdrop_m {cf : Nat} {c : KT → KT → Int} (hc : Cmp cf c) (k : KT) {t : Tr KT VT} {v : Value} {w : World} {B : Heap} (hB : B.Le (hp w)) (hv : MF cf t v B) (hs : t.size < 1099511627776) :
    Ret Try.prog 109 [v, kv k] w B (MF cf (if (Tr.drop c k t).2 = true then (Tr.drop c k t).1 else t)) := by
  obtain ⟨p, rfl, h⟩ := hv
  exact mdrop_ret hc k hB h hs
theorem len_m {fv : Value} {t : Tr KT VT} {v : Value} {w : World} {B : Heap} (hB : B.Le (hp w)) (hv : MA fv t v B) {n : Nat} (hn : t.size = n) : Ret Try.prog 65 [v] w B (fun v _ => v = .int .i64 n) := by
  obtain ⟨p, rfl, h⟩ := hv
  subst hn
  exact len_ret hB h
theorem get_m {cf : Nat} {c : KT → KT → Int} (hc : Cmp cf c) (k : KT) {t : Tr KT VT} {v : Value} {w : World} {B : Heap} (hB : B.Le (hp w)) (hv : MF cf t v B) {o : Option VT} (ho : Tr.get c k t = o) :
    Ret Try.prog 71 [v, kv k] w B (fun v _ => v = tup (getV o)) := by
  obtain ⟨p, rfl, h⟩ := hv
  subst ho
  exact get_ret hc k hB h
end Go.V.UT
/- The walks of trees at countersign/api.Tuple, struct{}: what is taken out of a map, by what the map is. -/
namespace Go.V.UT
open Go.Proofs Go.RowKit Go.V
theorem range_m {fv : Value} {t : Tr KT VT} (f e : Int) {v : Value} {w : World} {B : Heap} (hB : B.Le (hp w)) (hv : MA fv t v B) (hs : t.size < 1099511627776) {l : List (KT × VT)} (hl : rangeL t f e = l) :
    Ret Try.prog 88 [v, .int .i64 f, .int .i64 e] w B (PS l true) := by
  obtain ⟨p, rfl, h⟩ := hv
  subst hl
  exact range_ret f e hB h hs
end Go.V.UT
/- The walks of sets (chapter 6): what a set is, a change. -/
namespace Go.V.L6
open Go.Proofs Go.RowKit Go.V Go.V.L2 Go.V.L3
abbrev fvC : Value := .func (.func 76) #[] #[]
abbrev fvS : Value := .func (.func 86) #[] #[]
abbrev tySet : TypeId := 41
/-- A change, as a value. -/
abbrev chv (x : U) (d : Bool) : Value := .agg #[.string x.1.1.1, .string x.1.1.2, .string x.1.2, .string x.2.1.1, .string x.2.1.2, .string x.2.2, .bool d]
attribute [local irreducible] V N X VO Par StepOK Has Ret RetL RetO Src
theorem subj_ret {a b : U} {w : World} {B : Heap} (hB : B.Le (hp w)) : Ret Try.prog 86 [uv a, uv b] w B (fun v _ => v = .int .i64 (cmpS a b)) := by
  refine V_enter Try.func86 rfl Try.ntmps86 (Nat.le_of_ble_eq_true rfl) hB ?_
  refine V_seq ?_; refine V_region (id := 0) ?_; refine vo_step (ok_box rfl rfl rfl rfl) rfl ?_; refine vo_step (ok_box rfl rfl rfl rfl) rfl ?_; refine vo_step (ok_assign rfl rfl rfl) rfl ?_; refine vo_nil ?_; refine N_seq ?_; refine V_seq ?_; refine V_regionD (id := 1) [] mixed (by kernel_rfl) ?_; refine par_step (ok_fieldAt L rfl rfl rfl rfl) rfl ?_; refine par_step (ok_loadA L (vs := [_, _, _]) (src_at rfl) rfl rfl rfl rfl ⟨_, rfl⟩) rfl ?_; refine par_step (ok_fieldAt L rfl rfl rfl rfl) rfl ?_; refine par_step (ok_loadA L (vs := [_, _, _]) (src_at rfl) rfl rfl rfl rfl ⟨_, rfl⟩) rfl ?_; refine par_step (ok_callx L rfl rfl (blt_lt rfl) rfl rfl rfl (fun u H hH _ _ => cmpU_ret hH)) rfl ?_; refine par_step (ok_fieldAt L rfl rfl rfl rfl) rfl ?_; refine par_step (ok_loadA L (vs := [_, _, _]) (src_at rfl) rfl rfl rfl rfl ⟨_, rfl⟩) rfl ?_; refine par_step (ok_fieldAt L rfl rfl rfl rfl) rfl ?_; refine par_step (ok_loadA L (vs := [_, _, _]) (src_at rfl) rfl rfl rfl rfl ⟨_, rfl⟩) rfl ?_; refine par_step (ok_callx L rfl rfl (blt_lt rfl) rfl rfl rfl (fun u H hH _ _ => cmpG_ret hH)) rfl ?_; refine par_step (ok_buildSlice L rfl rfl rfl rfl rfl rfl rfl rfl rfl) rfl ?_; refine par_step (ok_callx L rfl rfl (blt_lt rfl) rfl rfl rfl (fun u H hH _ _ v hv => or2_ret hH hv)) rfl ?_; refine par_step (ok_assign rfl rfl rfl) rfl ?_; refine par_nil ?_; refine N_seq ?_
  refine V_ret L (rs := [.tmp 4]) rfl (fun _ _ h => h) Since.refl fun u H hH hle => ?_
  rfl
theorem cmpUT : UT.Cmp 76 cmpT := ⟨rfl, fun _ _ _ _ hH => tcmp_ret hH⟩
theorem cmpUS : UT.Cmp 86 cmpS := ⟨rfl, fun _ _ _ _ hH => subj_ret hH⟩
/-- A tree after a change. -/
def chT (c : U → U → Int) (x : U) (d : Bool) (t : Tr U Unit) : Tr U Unit := if d = true then (if (Tr.drop c x t).2 = true then (Tr.drop c x t).1 else t) else Tr.put c x () t
theorem change_ret {cf : Nat} {c : U → U → Int} (hc : UT.Cmp cf c) {f : Value} {p : Option Addr} {t : Tr U Unit} (hf : f = .func (.func cf) #[] #[] ∨ (f = .nilFunc ∧ t = .nil)) (x : U) (d : Bool) {w : World} {B : Heap} (hB : B.Le (hp w)) (ht : UT.TA t (.pointer p) B) (hs : t.size + 1 < 1099511627776) :
    Ret Try.prog 85 [.agg #[f, .pointer p], chv x d, .func (.func cf) #[] #[]] w B (UT.MF cf (chT c x d t)) := by
  by_cases h0 : t.size = 0
  · have hn : t = .nil := by
      cases t with
      | nil => rfl
      | node k y l r => simp only [Tr.size] at h0; omega
    subst hn
    have hz : UT.TA .nil (.pointer none) B := rfl
    refine V_enter Try.func85 rfl Try.ntmps85 (Nat.le_of_ble_eq_true rfl) hB ?_
    unfold chT
    cases d
    · refine V_seq ?_; refine V_region (id := 0) ?_; refine vo_step (ok_boxR rfl rfl rfl rfl) rfl ?_; refine vo_box 3 rfl fun b hb => ?_; refine vo_step (ok_box rfl rfl rfl rfl) rfl ?_; refine vo_step (ok_alloc L rfl rfl rfl rfl) rfl ?_; refine vo_nil ?_; refine N_seq ?_; refine V_seq ?_; refine V_seq ?_; refine V_region (id := 1) ?_; refine vo_step (ok_fieldP L rfl rfl rfl rfl) rfl ?_; refine vo_step (ok_loadA L (vs := [_, _]) (src_box rfl (List.Mem.head _)) rfl rfl rfl rfl ⟨_, rfl⟩) rfl ?_; refine vo_step (ok_callx L rfl rfl (blt_lt rfl) rfl rfl rfl (fun u H hH hle _ => UT.len_m hH (⟨_, rfl, ht.le hle⟩) h0)) rfl ?_; refine vo_step (ok_eql rfl rfl rfl rfl (decide_eq_true (by omega))) rfl ?_; refine vo_nil ?_; refine N_seq ?_; refine V_true rfl ?_; refine V_region (id := 2) ?_; refine vo_step (ok_move rfl rfl rfl) rfl ?_; refine vo_step (ok_callx L rfl rfl (blt_lt rfl) rfl rfl rfl (fun u H hH _ _ => UT.new_ret _ hH)) rfl ?_; refine vo_step (ok_fieldP L rfl rfl rfl rfl) rfl ?_; refine box_store L (O1 := []) rfl rfl rfl rfl rfl rfl rfl rfl rfl ?_; refine vo_nil ?_; refine N_seq ?_; refine V_seq ?_; refine V_seq ?_; refine V_region (id := 3) ?_; refine vo_step (ok_fieldAt L rfl rfl rfl rfl) rfl ?_; refine vo_step (ok_load1 L (src_at rfl) rfl rfl rfl rfl) rfl ?_; refine vo_nil ?_; refine N_seq ?_; refine V_false rfl ?_; refine V_skip ?_; refine N_seq ?_; refine V_seq ?_; refine V_region (id := 5) ?_; refine vo_step (ok_fieldP L rfl rfl rfl rfl) rfl ?_; refine vo_step (ok_loadA L (vs := [_, _]) (src_box rfl (List.Mem.head _)) rfl rfl rfl rfl ⟨_, rfl⟩) rfl ?_; refine vo_step (ok_fieldAt L rfl rfl rfl rfl) rfl ?_; refine vo_step (ok_loadA L (vs := [_, _, _, _, _, _]) (src_at rfl) rfl rfl rfl rfl ⟨_, rfl⟩) rfl ?_; refine vo_step (ok_build (cs := []) rfl rfl pl118 rfl rfl) rfl ?_; refine vo_step (ok_call (φ := UT.MF cf (Tr.put c x () .nil)) L rfl rfl (blt_lt rfl) rfl rfl rfl UT.MA.mono (fun u H hH hle _ => UT.mput_m hc x () hH (⟨_, rfl, hz.le hle⟩) hs)) rfl ?_; refine vo_opn 27 rfl ?_; rintro _ H27 hs27 ⟨q27, rfl, hp27⟩; refine vo_step (ok_build (cs := [_, _]) rfl rfl pl39 rfl rfl) rfl ?_; refine vo_step (ok_store L rfl rfl rfl rfl rfl rfl rfl rfl) rfl ?_; refine vo_nil ?_; refine N_seq ?_
      refine V_ret L (rs := [.cell 6 39]) rfl (fun _ _ h => h) hs27 fun u H hH hle => ?_
      exact ⟨_, src_own rfl, rfl, q27, rfl, hp27.le hle⟩
    · refine V_seq ?_; refine V_region (id := 0) ?_; refine vo_step (ok_boxR rfl rfl rfl rfl) rfl ?_; refine vo_box 3 rfl fun b hb => ?_; refine vo_step (ok_box rfl rfl rfl rfl) rfl ?_; refine vo_step (ok_alloc L rfl rfl rfl rfl) rfl ?_; refine vo_nil ?_; refine N_seq ?_; refine V_seq ?_; refine V_seq ?_; refine V_region (id := 1) ?_; refine vo_step (ok_fieldP L rfl rfl rfl rfl) rfl ?_; refine vo_step (ok_loadA L (vs := [_, _]) (src_box rfl (List.Mem.head _)) rfl rfl rfl rfl ⟨_, rfl⟩) rfl ?_; refine vo_step (ok_callx L rfl rfl (blt_lt rfl) rfl rfl rfl (fun u H hH hle _ => UT.len_m hH (⟨_, rfl, ht.le hle⟩) h0)) rfl ?_; refine vo_step (ok_eql rfl rfl rfl rfl (decide_eq_true (by omega))) rfl ?_; refine vo_nil ?_; refine N_seq ?_; refine V_true rfl ?_; refine V_region (id := 2) ?_; refine vo_step (ok_move rfl rfl rfl) rfl ?_; refine vo_step (ok_callx L rfl rfl (blt_lt rfl) rfl rfl rfl (fun u H hH _ _ => UT.new_ret _ hH)) rfl ?_; refine vo_step (ok_fieldP L rfl rfl rfl rfl) rfl ?_; refine box_store L (O1 := []) rfl rfl rfl rfl rfl rfl rfl rfl rfl ?_; refine vo_nil ?_; refine N_seq ?_; refine V_seq ?_; refine V_seq ?_; refine V_region (id := 3) ?_; refine vo_step (ok_fieldAt L rfl rfl rfl rfl) rfl ?_; refine vo_step (ok_load1 L (src_at rfl) rfl rfl rfl rfl) rfl ?_; refine vo_nil ?_; refine N_seq ?_; refine V_true rfl ?_; refine V_seq ?_; refine V_region (id := 4) ?_; refine vo_step (ok_fieldP L rfl rfl rfl rfl) rfl ?_; refine vo_step (ok_loadA L (vs := [_, _]) (src_box rfl (List.Mem.head _)) rfl rfl rfl rfl ⟨_, rfl⟩) rfl ?_; refine vo_step (ok_fieldAt L rfl rfl rfl rfl) rfl ?_; refine vo_step (ok_loadA L (vs := [_, _, _, _, _, _]) (src_at rfl) rfl rfl rfl rfl ⟨_, rfl⟩) rfl ?_; refine vo_step (ok_call (φ := UT.MF cf (if (Tr.drop c x .nil).2 = true then (Tr.drop c x .nil).1 else .nil)) L rfl rfl (blt_lt rfl) rfl rfl rfl UT.MA.mono (fun u H hH hle _ => UT.mdrop_m hc x hH (⟨_, rfl, hz.le hle⟩) (by omega))) rfl ?_; refine vo_opn 20 rfl ?_; rintro _ H20 hs20 ⟨q20, rfl, hp20⟩; refine vo_step (ok_build (cs := [_, _]) rfl rfl pl39 rfl rfl) rfl ?_; refine vo_step (ok_store L rfl rfl rfl rfl rfl rfl rfl rfl) rfl ?_; refine vo_nil ?_; refine N_seq ?_
      refine V_ret L (rs := [.cell 6 39]) rfl (fun _ _ h => h) hs20 fun u H hH hle => ?_
      exact ⟨_, src_own rfl, rfl, q20, rfl, hp20.le hle⟩
  · obtain rfl : f = .func (.func cf) #[] #[] := by
      rcases hf with h | ⟨_, h⟩
      · exact h
      · subst h; exact absurd rfl h0
    refine V_enter Try.func85 rfl Try.ntmps85 (Nat.le_of_ble_eq_true rfl) hB ?_
    unfold chT
    cases d
    · refine V_seq ?_; refine V_region (id := 0) ?_; refine vo_step (ok_boxR rfl rfl rfl rfl) rfl ?_; refine vo_box 3 rfl fun b hb => ?_; refine vo_step (ok_box rfl rfl rfl rfl) rfl ?_; refine vo_step (ok_alloc L rfl rfl rfl rfl) rfl ?_; refine vo_nil ?_; refine N_seq ?_; refine V_seq ?_; refine V_seq ?_; refine V_region (id := 1) ?_; refine vo_step (ok_fieldP L rfl rfl rfl rfl) rfl ?_; refine vo_step (ok_loadA L (vs := [_, _]) (src_box rfl (List.Mem.head _)) rfl rfl rfl rfl ⟨_, rfl⟩) rfl ?_; refine vo_step (ok_callx L rfl rfl (blt_lt rfl) rfl rfl rfl (fun u H hH hle _ => UT.len_m hH (⟨_, rfl, ht.le hle⟩) rfl)) rfl ?_; refine vo_step (ok_eql rfl rfl rfl rfl (decide_eq_false (by omega))) rfl ?_; refine vo_nil ?_; refine N_seq ?_; refine V_false rfl ?_; refine V_skip ?_; refine N_seq ?_; refine V_seq ?_; refine V_seq ?_; refine V_region (id := 3) ?_; refine vo_step (ok_fieldAt L rfl rfl rfl rfl) rfl ?_; refine vo_step (ok_load1 L (src_at rfl) rfl rfl rfl rfl) rfl ?_; refine vo_nil ?_; refine N_seq ?_; refine V_false rfl ?_; refine V_skip ?_; refine N_seq ?_; refine V_seq ?_; refine V_region (id := 5) ?_; refine vo_step (ok_fieldP L rfl rfl rfl rfl) rfl ?_; refine vo_step (ok_loadA L (vs := [_, _]) (src_box rfl (List.Mem.head _)) rfl rfl rfl rfl ⟨_, rfl⟩) rfl ?_; refine vo_step (ok_fieldAt L rfl rfl rfl rfl) rfl ?_; refine vo_step (ok_loadA L (vs := [_, _, _, _, _, _]) (src_at rfl) rfl rfl rfl rfl ⟨_, rfl⟩) rfl ?_; refine vo_step (ok_build (cs := []) rfl rfl pl118 rfl rfl) rfl ?_; refine vo_step (ok_call (φ := UT.MF cf (Tr.put c x () t)) L rfl rfl (blt_lt rfl) rfl rfl rfl UT.MA.mono (fun u H hH hle _ => UT.mput_m hc x () hH (⟨_, rfl, ht.le hle⟩) hs)) rfl ?_; refine vo_opn 27 rfl ?_; rintro _ H27 hs27 ⟨q27, rfl, hp27⟩; refine vo_step (ok_build (cs := [_, _]) rfl rfl pl39 rfl rfl) rfl ?_; refine vo_step (ok_store L rfl rfl rfl rfl rfl rfl rfl rfl) rfl ?_; refine vo_nil ?_; refine N_seq ?_
      refine V_ret L (rs := [.cell 6 39]) rfl (fun _ _ h => h) hs27 fun u H hH hle => ?_
      exact ⟨_, src_own rfl, rfl, q27, rfl, hp27.le hle⟩
    · refine V_seq ?_; refine V_region (id := 0) ?_; refine vo_step (ok_boxR rfl rfl rfl rfl) rfl ?_; refine vo_box 3 rfl fun b hb => ?_; refine vo_step (ok_box rfl rfl rfl rfl) rfl ?_; refine vo_step (ok_alloc L rfl rfl rfl rfl) rfl ?_; refine vo_nil ?_; refine N_seq ?_; refine V_seq ?_; refine V_seq ?_; refine V_region (id := 1) ?_; refine vo_step (ok_fieldP L rfl rfl rfl rfl) rfl ?_; refine vo_step (ok_loadA L (vs := [_, _]) (src_box rfl (List.Mem.head _)) rfl rfl rfl rfl ⟨_, rfl⟩) rfl ?_; refine vo_step (ok_callx L rfl rfl (blt_lt rfl) rfl rfl rfl (fun u H hH hle _ => UT.len_m hH (⟨_, rfl, ht.le hle⟩) rfl)) rfl ?_; refine vo_step (ok_eql rfl rfl rfl rfl (decide_eq_false (by omega))) rfl ?_; refine vo_nil ?_; refine N_seq ?_; refine V_false rfl ?_; refine V_skip ?_; refine N_seq ?_; refine V_seq ?_; refine V_seq ?_; refine V_region (id := 3) ?_; refine vo_step (ok_fieldAt L rfl rfl rfl rfl) rfl ?_; refine vo_step (ok_load1 L (src_at rfl) rfl rfl rfl rfl) rfl ?_; refine vo_nil ?_; refine N_seq ?_; refine V_true rfl ?_; refine V_seq ?_; refine V_region (id := 4) ?_; refine vo_step (ok_fieldP L rfl rfl rfl rfl) rfl ?_; refine vo_step (ok_loadA L (vs := [_, _]) (src_box rfl (List.Mem.head _)) rfl rfl rfl rfl ⟨_, rfl⟩) rfl ?_; refine vo_step (ok_fieldAt L rfl rfl rfl rfl) rfl ?_; refine vo_step (ok_loadA L (vs := [_, _, _, _, _, _]) (src_at rfl) rfl rfl rfl rfl ⟨_, rfl⟩) rfl ?_; refine vo_step (ok_call (φ := UT.MF cf (if (Tr.drop c x t).2 = true then (Tr.drop c x t).1 else t)) L rfl rfl (blt_lt rfl) rfl rfl rfl UT.MA.mono (fun u H hH hle _ => UT.mdrop_m hc x hH (⟨_, rfl, ht.le hle⟩) (by omega))) rfl ?_; refine vo_opn 20 rfl ?_; rintro _ H20 hs20 ⟨q20, rfl, hp20⟩; refine vo_step (ok_build (cs := [_, _]) rfl rfl pl39 rfl rfl) rfl ?_; refine vo_step (ok_store L rfl rfl rfl rfl rfl rfl rfl rfl) rfl ?_; refine vo_nil ?_; refine N_seq ?_
      refine V_ret L (rs := [.cell 6 39]) rfl (fun _ _ h => h) hs20 fun u H hH hle => ?_
      exact ⟨_, src_own rfl, rfl, q20, rfl, hp20.le hle⟩
end Go.V.L6
/- The kit's floor of slices that are worked on in place: sorted, cut, cleared, handed on and back. -/
namespace Go.V
open Go.Proofs Go.RowKit
/-- What is returned is the caller's; it may be what was lent. -/
def OwnT (w : World) (C : Nat → Prop) (r : Res) (v : Value) (H : Heap) (u : World) : Prop := ∃ C' : Nat → Prop, r.P v H u C' ∧ ∀ k, C' k → (C k ∨ w.heap.size ≤ k) ∧ k < u.heap.size ∧ H k = none
def RetT (P : Program) (f : FuncId) (args : List Value) (w : World) (B : Heap) (C : Nat → Prop) (r : Res) : Prop := RetL P f args w B C (OwnT w C r)
section
variable {P : Program} {F : Fr} {B : Heap} {O : Boxes} {n : Nat} {ops : Array Oper} {κ : Kap} {d : Nat} {ty : TypeId} {pos : String} {aft : Array Edge} {g : Option (Nat × Bool)} {a : Act} {u : World} {H : Heap} {fp : Nat → Nat → Prop} {Q : Exit → Act → World → Prop}
/-- The block of an owned slice is held beside its slot. -/
theorem V_holdR (t q : Nat) {e : TypeId} {s m : Nat} {xs : List Value} {c : Code} (hk : κ t = some (.own (SlR e s m xs)))
    (h0 : m = 0 → xs = [] → V P F B n O (upd κ t (.is (.slice none 0 0))) c Q)
    (h : ∀ b cap rest, xs.length = m * s → m ≤ cap → cap ≤ maxLen → (xs ++ rest).length = cap * s → V P F B n O (upd (upd (upd κ t nilK) q (.own (HeldR b (xs ++ rest) e))) t (.is (.slice (some ⟨b, 0, none⟩) m cap))) c Q) : V P F B n O κ c Q := fun a u hh => by
  obtain ⟨H, fp, hh⟩ := hh
  obtain ⟨⟨hl, hv⟩, hM⟩ := hh.slot t _ hk
  rcases hv with ⟨hm, hv, _⟩ | ⟨b, cap, rest, hv, hb, h3, h4, h5, hC⟩
  · have h3 := hh.name t
    rw [hv] at h3
    subst hm
    exact h0 rfl (List.eq_nil_of_length_eq_zero (by simpa using hl)) a u ⟨H, _, h3⟩
  · have h2 := hh.usePut (d := q) (a' := a) (r' := HeldR b (xs ++ rest) e) (C := fp t) hk ⟨Keep.refl _ _, hh.sub, Heap.Le.refl _, fun _ _ _ => rfl⟩ rfl rfl (fun _ _ => rfl) ⟨hb, hC⟩ fun k hk => ⟨.inl hk, (hM k hk).1, (hM k hk).2.1⟩
    have h3' := h2.name t
    rw [hv] at h3'
    exact h b cap rest hl h3 h4 h5 a u ⟨H, _, h3'⟩
theorem V_releaseR (t q : Nat) {b m cap : Nat} {e : TypeId} {s : Nat} {xs rest cs : List Value} {c : Code} (hcs : cs = xs ++ rest) (hk : κ q = some (.own (HeldR b cs e))) (ht : κ t = some (.is (.slice (some ⟨b, 0, none⟩) m cap))) (hl : xs.length = m * s) (hm : m ≤ cap) (hc : cap ≤ maxLen) (hcl : cs.length = cap * s)
    (h : V P F B n O (upd (upd κ q nilK) t (.own (SlR e s m xs))) c Q) : V P F B n O κ c Q := fun a u hh => by
  subst hcs
  obtain ⟨H, fp, hh⟩ := hh
  obtain ⟨⟨hb, hC⟩, hM⟩ := hh.slot q _ hk
  have hx : a.eval (.tmp t) = .slice (some ⟨b, 0, none⟩) m cap := hh.slot t _ ht
  exact h a u ⟨H, _, hh.usePut (d := t) (a' := a) (r' := SlR e s m xs) (C := fp q) hk ⟨Keep.refl _ _, hh.sub, Heap.Le.refl _, fun _ _ _ => rfl⟩ rfl rfl (fun _ _ => rfl) ⟨hl, .inr ⟨b, cap, rest, hx, hb, hm, hc, hcl, hC⟩⟩ fun k hk => ⟨.inl hk, (hM k hk).1, (hM k hk).2.1⟩⟩
theorem ok_shr {t t' : TypeId} {x y : Operand} {k k2 : IntKind} {p q r : Int} (hn : Nat.blt d n = true) (hg : gK ops κ ⟨some d, .binOp .shr t x y t', ty, pos, aft, g⟩ = some true) (hx : evK κ x = some (.int k p)) (hy : evK κ y = some (.int k2 q)) (h0 : 0 ≤ q) (hb : p.fdiv (2 ^ min q.toNat k.bits) = r) :
    StepOK P F B n ops O κ ⟨some d, .binOp .shr t x y t', ty, pos, aft, g⟩ d (.is (.int k r)) := ok_bin hn hg hx hy fun u => by subst hb; simp [eqGuard_shr, binOp_shr, Op.shift, Int.not_lt.2 h0]
/-- A slice of no element, of the call's own. -/
theorem ok_buildSlice0 (L : Tabs P) {t e : TypeId} {ag : Bool} {s : Nat} {z : Value} (hn : Nat.blt d n = true) (hg : gK ops κ ⟨some d, .buildSlice t 0 #[], ty, pos, aft, g⟩ = some true) (ht : L.sl t = some e) (hl : L.ld e = some (ag, s)) (hz : L.zr e = some z) :
    StepOK P F B n ops O κ ⟨some d, .buildSlice t 0 #[], ty, pos, aft, g⟩ d (.own (SlR e s 0 [])) := by
  rintro κ' a u hlk ⟨H, fp, hh⟩
  unfold After
  rw [if_pos (wanted_gK hh hlk hg)]
  have hrun : (execOp a.eval ⟨some d, .buildSlice t 0 #[], ty, pos, aft, g⟩).run P u = .ok (.value (.slice (some ⟨u.heap.size, 0, none⟩) 0 0)) (u.alloc (.cells #[] e)) := by
    have hzz := Tabs.zr_spec hz
    unfold zrI at hzz
    split at hzz
    · rename_i it hit
      have hzr : (zeroValue e).run P u = .ok z u := by simp [zeroValue, typeInfo, hit, hzz]
      simp only [execOp, Sem.run_bind]
      have e0 : (Array.map (fun x : Nat × Operand => (x.1, a.eval x.2)) #[]) = (#[] : Array (Nat × Value)) := by simp
      rw [e0]
      have hfill : Instr.fill (fun i => some (i * s, s)) #[] [] = some #[] := by simp [Instr.fill]
      simp only [Instr.buildSlice, Sem.run_bind, run_underlying (Tabs.sl_spec ht), Result.andThen_ok, run_sizeOf (Tabs.ld_spec hl)]
      simp only [Nat.zero_mul, if_true, Sem.run_pure, Result.andThen_ok]
      have e1 : (Array.range 0).map (fun _ : Nat => (default : Value)) = #[] := by simp
      simp [newRow, hfill, e1]
    · cases hzz
  rw [hrun]
  simp only [Upon]
  have hg2 := hh.grow (Grow.hid hh.sub (.cells #[] e))
  refine ⟨H, _, hg2.putR (C := fun k => k = u.heap.size) (by simp [Act.put]) rfl (fun t ht => eval_put_other ht) ⟨by simp, .inr ⟨u.heap.size, 0, [], eval_put_same (by rw [hh.size]; exact blt_lt hn), heap_push_same _ _, Nat.le_refl _, by simp [maxLen], by simp, fun _ => Iff.rfl⟩⟩ (fun k hk => ?_) fun t r' _ ht k hf hk => ?_⟩
  · subst hk
    exact ⟨size_of_heap (heap_push_same u _), none_of_ge hh.sub (Nat.le_refl _), .inl hh.keep.size, fun y hy e => by have := size_of_heap (hh.boxes y hy).1; omega⟩
  · have := ((hh.slot t _ ht).2 k hf).1
    omega
end
end Go.V
/- The kit's floor of arrays that are values, and of function values that hold arguments. -/
namespace Go.V
open Go.Proofs Go.RowKit
section
variable {P : Program} {F : Fr} {B : Heap} {O : Boxes} {n : Nat} {ops : Array Oper} {κ : Kap} {d : Nat} {ty : TypeId} {pos : String} {aft : Array Edge} {g : Option (Nat × Bool)} {a : Act} {u : World} {H : Heap} {fp : Nat → Nat → Prop} {Q : Exit → Act → World → Prop}
theorem ok_indexAg1 (L : Tabs P) {x y : Operand} {tt e : TypeId} {s len : Nat} {k : IntKind} {p : Int} {cs : List Value} {v : Value} (j : Nat) (hn : Nat.blt d n = true) (hg : gK ops κ ⟨some d, .index tt x y, ty, pos, aft, g⟩ = some true)
    (hx : evK κ x = some (.agg cs.toArray)) (hy : evK κ y = some (.int k p)) (ht : arI P tt = some (len, e)) (hl : L.ld e = some (false, s)) (hj : p = j) (hi : j < len) (hys : cs[j * s]? = some v) :
    StepOK P F B n ops O κ ⟨some d, .index tt x y, ty, pos, aft, g⟩ d (.is v) :=
  ok_pure rfl (by simpa using hn) hg trivial fun a u H fp en => ⟨_, by
    have h1 := en.is_ x _ (by simp [Op.operands]) hx
    have h2 := en.is_ y _ (by simp [Op.operands]) hy
    subst hj
    have hu := arI_spec ht
    have hg := run_isAgg (Tabs.ld_spec hl) u
    simp only [execOp, h1, h2, Instr.index, Sem.run_bind, asIntOf, Sem.run_pure, Result.andThen_ok, run_underlying hu]
    rw [if_pos (by omega)]
    simp only [Int.toNat_natCast, part, Sem.run_bind, run_sizeOf (Tabs.ld_spec hl), Result.andThen_ok, hg, List.getElem?_toArray, hys, Sem.run_pure]
    rfl, rfl⟩
end
end Go.V
/- The walks of filters (chapter 3): fields, errors, what is taken, prefixes. -/
namespace Go.V.L3
open Go.Proofs Go.RowKit Go.V Go.V.L2
abbrev fv (f : FT) : Value := .agg #[.string f.1.1.1, .string f.1.1.2, .string f.1.2, .string f.2.1.1.1, .string f.2.1.1.2, .string f.2.1.2, .bool f.2.2]
def FZ (f : FT) : Prop := (f.1.1.1.size ≤ 1099511627776 ∧ f.1.1.2.size ≤ 1099511627776 ∧ f.1.2.size ≤ 1099511627776) ∧ f.2.1.1.1.size ≤ 1099511627776 ∧ f.2.1.1.2.size ≤ 1099511627776 ∧ f.2.1.2.size ≤ 1099511627776
instance (f : FT) : Decidable (FZ f) := inferInstanceAs (Decidable (_ ∧ _))
attribute [local irreducible] V N X VO Par StepOK Has Ret RetL RetO RetT Src
end Go.V.L3
/- The walks of filters (chapter 3): orders, spans, what is selected. -/
namespace Go.V.L3
open Go.Proofs Go.RowKit Go.V Go.V.L2
attribute [local irreducible] V N X VO Par StepOK Has Ret RetL RetO RetT Src
end Go.V.L3
/- The walks of filters (chapter 3): spans, what is selected. -/
namespace Go.V.L3
open Go.Proofs Go.RowKit Go.V Go.V.L2
attribute [local irreducible] V N X VO Par StepOK Has Ret RetL RetO RetT Src
end Go.V.L3
/- The walks of filters (chapter 3): what is selected; both. -/
namespace Go.V.L3
open Go.Proofs Go.RowKit Go.V Go.V.L2
theorem LE2.mk {φ : Value → Heap → Prop} {a tv : Value} {H : Heap} (h : φ tv H) : TupS [φ, fun v _ => v = a] (.tuple #[tv, a]) H :=
  ⟨[tv, a], rfl, rfl, fun i ψ x hi hx => by
    rcases i with _ | _ | i
    · simp at hi hx; subst hi hx; exact h
    · simp at hi hx; subst hi hx; rfl
    · simp at hi⟩
theorem LE2.mono {φ : Value → Heap → Prop} {a : Value} (h : Kn.mono (.sat φ)) : Kn.mono (.sat (TupS [φ, fun v _ => v = a])) := TupS.mono fun ψ hψ => by
  rcases List.mem_cons.1 hψ with rfl | hψ
  · exact h
  · rw [List.mem_singleton] at hψ
    subst hψ
    exact fun _ _ _ h _ => h
attribute [local irreducible] V N X VO Par StepOK Has Ret RetL RetO RetT Src
end Go.V.L3
/- The walks of sets (chapter 6): sets as values. -/
namespace Go.V.L6
open Go.Proofs Go.RowKit Go.V Go.V.L2 Go.V.L3
/-- A set, as a value: of these tuples. -/
def SetV (l : List U) : Value → Heap → Prop := fun v H => ∃ p q t u, TS l t u ∧ UT.TA t (.pointer p) H ∧ UT.TA u (.pointer q) H ∧
  (v = .agg #[fvC, .pointer p, fvS, .pointer q] ∨ (l = [] ∧ p = none ∧ q = none ∧ v = .agg #[.nilFunc, .pointer p, .nilFunc, .pointer q]))
theorem SetV.mono {l : List U} : Kn.mono (.sat (SetV l)) := fun _ _ _ ⟨p, q, t, u, h1, h2, h3, h4⟩ hle => ⟨p, q, t, u, h1, h2.le hle, h3.le hle, h4⟩
theorem SetV.le {l : List U} {v : Value} {H H' : Heap} (h : SetV l v H) (hle : H.Le H') : SetV l v H' := SetV.mono _ _ _ h hle
theorem SetV.shape {l : List U} {v : Value} {H : Heap} (h : SetV l v H) : ∃ f p k q, v = .agg #[f, .pointer p, k, .pointer q] ∧ (cellsL (.agg #[f, .pointer p, k, .pointer q])).all plainV = true := by
  obtain ⟨p, q, _, _, _, _, _, h | ⟨_, _, _, h⟩⟩ := h
  · exact ⟨_, _, _, _, h, rfl⟩
  · exact ⟨_, _, _, _, h, rfl⟩
abbrev nilSet : Value := .agg #[.nilFunc, .pointer none, .nilFunc, .pointer none]
theorem SetV.nil {H : Heap} : SetV [] nilSet H := ⟨none, none, .nil, .nil, ts_nil, rfl, rfl, .inr ⟨rfl, rfl, rfl, rfl⟩⟩
theorem SetV.sst {l : List U} {v : Value} {H : Heap} (h : SetV l v H) : Sst cmpT l := let ⟨_, _, _, _, h, _⟩ := h; h.st
attribute [local irreducible] V N X VO Par StepOK Has Ret RetL RetO Src
theorem slen_ret {l : List U} {n : Nat} (hn : l.length = n) {v : Value} {w : World} {B : Heap} (hB : B.Le (hp w)) (hv : SetV l v B) : Ret Try.prog 24 [v] w B (fun v _ => v = .int .i64 n) := by
  subst hn
  obtain ⟨p, q, t, u, hT, ht, hu, rfl | ⟨rfl, rfl, rfl, rfl⟩⟩ := hv
  · refine V_enter Try.func24 rfl Try.ntmps24 (Nat.le_of_ble_eq_true rfl) hB ?_
    refine V_seq ?_; refine V_region (id := 0) ?_; refine vo_step (ok_box rfl rfl rfl rfl) rfl ?_; refine vo_step (ok_assign rfl rfl rfl) rfl ?_; refine vo_nil ?_; refine N_seq ?_; refine V_seq ?_; refine V_region (id := 1) ?_; refine vo_step (ok_fieldAt L rfl rfl rfl rfl) rfl ?_; refine vo_step (ok_fieldAt L rfl rfl rfl rfl) rfl ?_; refine vo_step (ok_loadA L (vs := [_, _]) (src_at rfl) rfl rfl rfl rfl ⟨_, rfl⟩) rfl ?_; refine vo_step (ok_callx L rfl rfl (blt_lt rfl) rfl rfl rfl (fun u H hH hle _ => UT.len_m hH (⟨_, rfl, ht.le hle⟩) hT.size)) rfl ?_; refine vo_step (ok_assign rfl rfl rfl) rfl ?_; refine vo_nil ?_; refine N_seq ?_
    refine V_ret L (rs := [.tmp 2]) rfl (fun _ _ h => h) Since.refl fun u H hH hle => ?_
    rfl
  · refine V_enter Try.func24 rfl Try.ntmps24 (Nat.le_of_ble_eq_true rfl) hB ?_
    refine V_seq ?_; refine V_region (id := 0) ?_; refine vo_step (ok_box rfl rfl rfl rfl) rfl ?_; refine vo_step (ok_assign rfl rfl rfl) rfl ?_; refine vo_nil ?_; refine N_seq ?_; refine V_seq ?_; refine V_region (id := 1) ?_; refine vo_step (ok_fieldAt L rfl rfl rfl rfl) rfl ?_; refine vo_step (ok_fieldAt L rfl rfl rfl rfl) rfl ?_; refine vo_step (ok_loadA L (vs := [_, _]) (src_at rfl) rfl rfl rfl rfl ⟨_, rfl⟩) rfl ?_; refine vo_step (ok_callx L rfl rfl (blt_lt rfl) rfl rfl rfl (fun u H hH hle _ => UT.len_m hH (⟨_, rfl, ht.le hle⟩) hT.size)) rfl ?_; refine vo_step (ok_assign rfl rfl rfl) rfl ?_; refine vo_nil ?_; refine N_seq ?_
    refine V_ret L (rs := [.tmp 2]) rfl (fun _ _ h => h) Since.refl fun u H hH hle => ?_
    rfl
theorem shas_ret {l : List U} {x : U} {b : Bool} (hb : decide (x ∈ l) = b) {v : Value} {w : World} {B : Heap} (hB : B.Le (hp w)) (hv : SetV l v B) : Ret Try.prog 37 [v, uv x] w B (fun v _ => v = .bool b) := by
  have hv0 := hv
  obtain ⟨p, q, t, u, hT, ht, hu, rfl | ⟨rfl, rfl, rfl, rfl⟩⟩ := hv
  · have hg := hT.get x
    refine V_enter Try.func37 rfl Try.ntmps37 (Nat.le_of_ble_eq_true rfl) hB ?_
    by_cases h0 : l.length = 0
    · have hn : l = [] := List.eq_nil_of_length_eq_zero h0
      subst hn
      have hb' : b = false := by rw [← hb]; simp
      subst hb'
      refine V_seq ?_; refine V_region (id := 0) ?_; refine vo_step (ok_box rfl rfl rfl rfl) rfl ?_; refine vo_step (ok_box rfl rfl rfl rfl) rfl ?_; refine vo_step (ok_assign rfl rfl rfl) rfl ?_; refine vo_nil ?_; refine N_seq ?_; refine V_seq ?_; refine V_seq ?_; refine V_region (id := 1) ?_; refine vo_step (ok_loadA L (vs := [_, _, _, _]) (src_at rfl) rfl rfl rfl rfl ⟨_, rfl⟩) rfl ?_; refine vo_step (ok_callx L rfl rfl (blt_lt rfl) rfl rfl rfl (fun u H hH hle _ => slen_ret rfl hH (hv0.le hle))) rfl ?_; refine vo_step (ok_eql rfl rfl rfl rfl (decide_eq_true (by omega))) rfl ?_; refine vo_nil ?_; refine N_seq ?_; refine V_true rfl ?_; refine V_seq ?_; refine V_region (id := 2) ?_; refine vo_step (ok_assign rfl rfl rfl) rfl ?_; refine vo_nil ?_; refine N_seq ?_
      refine V_ret L (rs := [.tmp 4]) rfl (fun _ _ h => h) Since.refl fun u H hH hle => ?_
      rfl
    · cases b
      · have hx : x ∉ l := by simpa using hb
        rw [if_neg hx] at hg
        refine V_seq ?_; refine V_region (id := 0) ?_; refine vo_step (ok_box rfl rfl rfl rfl) rfl ?_; refine vo_step (ok_box rfl rfl rfl rfl) rfl ?_; refine vo_step (ok_assign rfl rfl rfl) rfl ?_; refine vo_nil ?_; refine N_seq ?_; refine V_seq ?_; refine V_seq ?_; refine V_region (id := 1) ?_; refine vo_step (ok_loadA L (vs := [_, _, _, _]) (src_at rfl) rfl rfl rfl rfl ⟨_, rfl⟩) rfl ?_; refine vo_step (ok_callx L rfl rfl (blt_lt rfl) rfl rfl rfl (fun u H hH hle _ => slen_ret rfl hH (hv0.le hle))) rfl ?_; refine vo_step (ok_eql rfl rfl rfl rfl (decide_eq_false (by omega))) rfl ?_; refine vo_nil ?_; refine N_seq ?_; refine V_false rfl ?_; refine V_skip ?_; refine N_seq ?_; refine V_seq ?_; refine V_region (id := 3) ?_; refine vo_step (ok_fieldAt L rfl rfl rfl rfl) rfl ?_; refine vo_step (ok_fieldAt L rfl rfl rfl rfl) rfl ?_; refine vo_step (ok_loadA L (vs := [_, _]) (src_at rfl) rfl rfl rfl rfl ⟨_, rfl⟩) rfl ?_; refine vo_step (ok_loadA L (vs := [_, _, _, _, _, _]) (src_at rfl) rfl rfl rfl rfl ⟨_, rfl⟩) rfl ?_; refine vo_step (ok_callx L rfl rfl (blt_lt rfl) rfl rfl rfl (fun u H hH hle _ => UT.get_m cmpUT x hH (⟨_, rfl, ht.le hle⟩) hg)) rfl ?_; refine vo_step (ok_move rfl rfl rfl) rfl ?_; refine vo_step (ok_extract rfl rfl rfl rfl) rfl ?_; refine vo_step (ok_extract rfl rfl rfl rfl) rfl ?_; refine vo_step (ok_alloc L rfl rfl rfl rfl) rfl ?_; refine vo_step (ok_store L rfl rfl rfl rfl rfl rfl rfl rfl) rfl ?_; refine vo_step (ok_assign rfl rfl rfl) rfl ?_; refine vo_nil ?_; refine N_seq ?_; refine V_seq ?_; refine V_region (id := 4) ?_; refine vo_step (ok_move rfl rfl rfl) rfl ?_; refine vo_step (ok_assign rfl rfl rfl) rfl ?_; refine vo_nil ?_; refine N_seq ?_
        refine V_ret L (rs := [.tmp 4]) rfl (fun _ _ h => h) Since.refl fun u H hH hle => ?_
        rfl
      · have hx : x ∈ l := by simpa using hb
        rw [if_pos hx] at hg
        refine V_seq ?_; refine V_region (id := 0) ?_; refine vo_step (ok_box rfl rfl rfl rfl) rfl ?_; refine vo_step (ok_box rfl rfl rfl rfl) rfl ?_; refine vo_step (ok_assign rfl rfl rfl) rfl ?_; refine vo_nil ?_; refine N_seq ?_; refine V_seq ?_; refine V_seq ?_; refine V_region (id := 1) ?_; refine vo_step (ok_loadA L (vs := [_, _, _, _]) (src_at rfl) rfl rfl rfl rfl ⟨_, rfl⟩) rfl ?_; refine vo_step (ok_callx L rfl rfl (blt_lt rfl) rfl rfl rfl (fun u H hH hle _ => slen_ret rfl hH (hv0.le hle))) rfl ?_; refine vo_step (ok_eql rfl rfl rfl rfl (decide_eq_false (by omega))) rfl ?_; refine vo_nil ?_; refine N_seq ?_; refine V_false rfl ?_; refine V_skip ?_; refine N_seq ?_; refine V_seq ?_; refine V_region (id := 3) ?_; refine vo_step (ok_fieldAt L rfl rfl rfl rfl) rfl ?_; refine vo_step (ok_fieldAt L rfl rfl rfl rfl) rfl ?_; refine vo_step (ok_loadA L (vs := [_, _]) (src_at rfl) rfl rfl rfl rfl ⟨_, rfl⟩) rfl ?_; refine vo_step (ok_loadA L (vs := [_, _, _, _, _, _]) (src_at rfl) rfl rfl rfl rfl ⟨_, rfl⟩) rfl ?_; refine vo_step (ok_callx L rfl rfl (blt_lt rfl) rfl rfl rfl (fun u H hH hle _ => UT.get_m cmpUT x hH (⟨_, rfl, ht.le hle⟩) hg)) rfl ?_; refine vo_step (ok_move rfl rfl rfl) rfl ?_; refine vo_step (ok_extract rfl rfl rfl rfl) rfl ?_; refine vo_step (ok_extract rfl rfl rfl rfl) rfl ?_; refine vo_step (ok_alloc L rfl rfl rfl rfl) rfl ?_; refine vo_step (ok_store L rfl rfl rfl rfl rfl rfl rfl rfl) rfl ?_; refine vo_step (ok_assign rfl rfl rfl) rfl ?_; refine vo_nil ?_; refine N_seq ?_; refine V_seq ?_; refine V_region (id := 4) ?_; refine vo_step (ok_move rfl rfl rfl) rfl ?_; refine vo_step (ok_assign rfl rfl rfl) rfl ?_; refine vo_nil ?_; refine N_seq ?_
        refine V_ret L (rs := [.tmp 4]) rfl (fun _ _ h => h) Since.refl fun u H hH hle => ?_
        rfl
  · have hb' : b = false := by rw [← hb]; simp
    subst hb'
    refine V_enter Try.func37 rfl Try.ntmps37 (Nat.le_of_ble_eq_true rfl) hB ?_
    refine V_seq ?_; refine V_region (id := 0) ?_; refine vo_step (ok_box rfl rfl rfl rfl) rfl ?_; refine vo_step (ok_box rfl rfl rfl rfl) rfl ?_; refine vo_step (ok_assign rfl rfl rfl) rfl ?_; refine vo_nil ?_; refine N_seq ?_; refine V_seq ?_; refine V_seq ?_; refine V_region (id := 1) ?_; refine vo_step (ok_loadA L (vs := [_, _, _, _]) (src_at rfl) rfl rfl rfl rfl ⟨_, rfl⟩) rfl ?_; refine vo_step (ok_callx L rfl rfl (blt_lt rfl) rfl rfl rfl (fun u H hH hle _ => slen_ret rfl hH (hv0.le hle))) rfl ?_; refine vo_step (ok_eql rfl rfl rfl rfl rfl) rfl ?_; refine vo_nil ?_; refine N_seq ?_; refine V_true rfl ?_; refine V_seq ?_; refine V_region (id := 2) ?_; refine vo_step (ok_assign rfl rfl rfl) rfl ?_; refine vo_nil ?_; refine N_seq ?_
    refine V_ret L (rs := [.tmp 4]) rfl (fun _ _ h => h) Since.refl fun u H hH hle => ?_
    rfl
/-- A variable that holds a set. -/
def scs (x : Value × Option Addr × Value × Option Addr) : List Value := [x.1, .pointer x.2.1, x.2.2.1, .pointer x.2.2.2]
abbrev SXp := { x : Value × Option Addr × Value × Option Addr // (scs x).all plainV = true }
abbrev sphi (l : List U) (x : SXp) (H : Heap) : Prop := SetV l (.agg (scs x.1).toArray) H
theorem sphi_mono (l : List U) : MonoX (sphi l) := fun _ _ _ h hle => SetV.le h hle
theorem set_st {l : List U} (v : Value) (H : Heap) (h : SetV l v H) : ∃ x : SXp, sphi l x H ∧ cellsL v = scs x.1 := by
  obtain ⟨f, p, k, q, rfl, hp⟩ := h.shape
  exact ⟨⟨(f, p, k, q), hp⟩, h, rfl⟩
/-- What With gives. -/
abbrev WithS (l : List U) (e : Int) : Value → Heap → Prop := TupS [SetV l, fun v _ => v = .int .i64 e]
theorem WithS.mono {l : List U} {e : Int} : Kn.mono (.sat (WithS l e)) := LE2.mono SetV.mono
theorem mf4 {cf cg : Nat} {t u : Tr U Unit} {v1 v2 : Value} {H : Heap} (h1 : UT.MF cf t v1 H) (h2 : UT.MF cg u v2 H) : ∃ p q, v1 = .agg #[.func (.func cf) #[] #[], .pointer p] ∧ v2 = .agg #[.func (.func cg) #[] #[], .pointer q] ∧ UT.TA t (.pointer p) H ∧ UT.TA u (.pointer q) H := by
  obtain ⟨p, e1, h1⟩ := h1
  obtain ⟨q, e2, h2⟩ := h2
  exact ⟨p, q, e1, e2, h1, h2⟩
theorem ts_ch {l : List U} {t u : Tr U Unit} (h : TS l t u) {x : U} {d : Bool} (hx : decide (x ∈ l) = d) (hc : d = false → l.length < 4096) (he : tE x = 0) : TS (withU l x d).1 (chT cmpT x d t) (chT cmpS x d u) ∧ (withU l x d).2 = 0 := by
  unfold withU chT
  rw [if_pos he]
  cases d
  · have hx' : x ∉ l := by simpa using hx
    rw [if_neg (by decide), if_neg hx', if_neg (by have := hc rfl; omega), if_neg (by decide), if_neg (by decide)]
    exact ⟨h.put hx', rfl⟩
  · have hx' : x ∈ l := by simpa using hx
    rw [if_pos rfl, if_pos rfl, if_pos rfl]
    exact ⟨h.drop hx', rfl⟩
set_option maxHeartbeats 1000000 in
theorem with_ret {l m : List U} {x : U} {d : Bool} {e : Int} (hr : withU l x d = (m, e)) (hl : l.length ≤ 4096) (hz : TZ x) {v : Value} {w : World} {B : Heap} (hB : B.Le (hp w)) (hv : SetV l v B) :
    Ret Try.prog 63 [v, chv x d] w B (WithS m e) := by
  obtain ⟨f1, p1, f2, q1, hsh, hpl⟩ := hv.shape
  by_cases he : tE x = 0
  · obtain ⟨hin, hin0⟩ : ∃ b, decide (x ∈ l) = b := ⟨_, rfl⟩
    by_cases hd : hin = d
    · subst hd
      by_cases hfull : hin = false ∧ l.length = 4096
      · obtain ⟨rfl, hlen⟩ := hfull
        have hw : withU l x false = ([], 3) := by
          unfold withU
          rw [if_pos he, if_neg (by decide), if_neg (by simpa using hin0), if_pos (by omega)]
        rw [hw] at hr
        cases hr
        subst hsh
        refine V_enter Try.func63 rfl Try.ntmps63 (Nat.le_of_ble_eq_true rfl) hB ?_
        refine V_seq ?_; refine V_region (id := 0) ?_; refine vo_step (ok_box rfl rfl rfl rfl) rfl ?_; refine vo_step (ok_box rfl rfl rfl rfl) rfl ?_; refine vo_step (ok_alloc L rfl rfl rfl rfl) rfl ?_; refine vo_step (ok_assign rfl rfl rfl) rfl ?_; refine vo_nil ?_; refine N_seq ?_; refine V_seq ?_; refine V_seq ?_; refine V_region (id := 1) ?_; refine vo_step (ok_fieldAt L rfl rfl rfl rfl) rfl ?_; refine vo_step (ok_loadA L (vs := [_, _, _, _, _, _]) (src_at rfl) rfl rfl rfl rfl ⟨_, rfl⟩) rfl ?_; refine vo_step (ok_callx L rfl rfl (blt_lt rfl) rfl rfl rfl (fun u H hH _ _ => he ▸ tcheck_ret hz hH)) rfl ?_; refine vo_step (ok_assign rfl rfl rfl) rfl ?_; refine vo_nil ?_; refine N_seq ?_; refine V_seq ?_; refine V_region (id := 2) ?_; refine vo_step (ok_move rfl rfl rfl) rfl ?_; refine vo_step (ok_neq rfl rfl rfl rfl (decide_eq_false (by omega))) rfl ?_; refine vo_nil ?_; refine N_seq ?_; refine V_false rfl ?_; refine V_skip ?_; refine N_seq ?_; refine V_seq ?_; refine V_seq ?_; refine V_regionD (id := 4) [] mixed (by kernel_rfl) ?_; refine par_step (ok_loadA L (vs := [_, _, _, _]) (src_at rfl) rfl rfl rfl rfl ⟨_, rfl⟩) rfl ?_; refine par_step (ok_fieldAt L rfl rfl rfl rfl) rfl ?_; refine par_step (ok_loadA L (vs := [_, _, _, _, _, _]) (src_at rfl) rfl rfl rfl rfl ⟨_, rfl⟩) rfl ?_; refine par_step (ok_callx L rfl rfl (blt_lt rfl) rfl rfl rfl (fun u H hH hle _ => shas_ret hin0 hH (hv.le hle))) rfl ?_; refine par_step (ok_fieldAt L rfl rfl rfl rfl) rfl ?_; refine par_step (ok_load1 L (src_at rfl) rfl rfl rfl rfl) rfl ?_; refine par_step (ok_bneq rfl rfl rfl rfl bt4 rfl) rfl ?_; refine par_nil ?_; refine N_seq ?_; refine V_false rfl ?_; refine V_skip ?_; refine N_seq ?_; refine V_seq ?_; refine V_seq ?_; refine V_region (id := 6) ?_; refine vo_step (ok_fieldAt L rfl rfl rfl rfl) rfl ?_; refine vo_step (ok_load1 L (src_at rfl) rfl rfl rfl rfl) rfl ?_; refine vo_step (ok_not rfl rfl rfl rfl) rfl ?_; refine vo_step (ok_move rfl rfl rfl) rfl ?_; refine vo_step (ok_loadA L (vs := [_, _, _, _]) (src_at rfl) rfl rfl rfl rfl ⟨_, rfl⟩) rfl ?_; refine vo_step (ok_callx L rfl rfl (blt_lt rfl) rfl rfl rfl (fun u H hH hle _ => slen_ret hlen hH (hv.le hle))) rfl ?_; refine vo_step (ok_eql rfl rfl rfl rfl (decide_eq_true (by omega))) rfl ?_; refine vo_step (ok_pick rfl rfl rfl rfl) rfl ?_; refine vo_nil ?_; refine N_seq ?_; refine V_true rfl ?_; refine V_seq ?_; refine V_region (id := 7) ?_; refine vo_step (ok_build (cs := [_, _, _, _]) rfl rfl pl41 rfl rfl) rfl ?_; refine vo_step (ok_store L rfl rfl rfl rfl rfl rfl rfl rfl) rfl ?_; refine vo_step (ok_assign rfl rfl rfl) rfl ?_; refine vo_nil ?_; refine N_seq ?_
        refine V_ret L (rs := [.cell 4 41, .tmp 5]) rfl (fun _ _ h => h) Since.refl fun u H hH hle => ?_
        exact ⟨_, src_own rfl, rfl, LE2.mk SetV.nil⟩
      · have hc : hin = false → l.length < 4096 := fun h => by
          rcases Nat.lt_or_ge l.length 4096 with h' | h'
          · exact h'
          · exact absurd ⟨h, by omega⟩ hfull
        obtain ⟨p, q, t, u, hT, ht, hu, hv1⟩ := id hv
        have hch := ts_ch hT hin0 hc he
        rw [hr] at hch
        obtain ⟨hT', rfl⟩ := hch
        have hts := hT.size
        have hus := hT.zu
        have hf1 : p1 = p ∧ q1 = q ∧ (f1 = fvC ∨ (f1 = .nilFunc ∧ t = .nil)) ∧ (f2 = fvS ∨ (f2 = .nilFunc ∧ u = .nil)) := by
          rcases hv1 with h | ⟨h0, rfl, rfl, h⟩
          · rw [hsh] at h; cases h; exact ⟨rfl, rfl, .inl rfl, .inl rfl⟩
          · rw [hsh] at h
            cases h
            subst h0
            have key : ∀ {s : Tr U Unit}, s.size = 0 → s = .nil := fun {s} hs => by
              cases s with
              | nil => rfl
              | node k y l r => simp only [Tr.size] at hs; omega
            exact ⟨rfl, rfl, .inr ⟨rfl, key hts⟩, .inr ⟨rfl, key hus⟩⟩
        obtain ⟨rfl, rfl, hf1, hf2⟩ := hf1
        subst hsh
        have hchg1 := fun (u1 : World) (H : Heap) (hH : H.Le (hp u1)) (hle : B.Le H) => change_ret cmpUT hf1 x hin hH (ht.le hle) (by omega)
        have hchg2 := fun (u1 : World) (H : Heap) (hH : H.Le (hp u1)) (hle : B.Le H) => change_ret cmpUS hf2 x hin hH (hu.le hle) (by omega)
        cases hin
        · have hlen := hc rfl
          refine V_enter Try.func63 rfl Try.ntmps63 (Nat.le_of_ble_eq_true rfl) hB ?_
          refine V_seq ?_; refine V_region (id := 0) ?_; refine vo_step (ok_box rfl rfl rfl rfl) rfl ?_; refine vo_step (ok_box rfl rfl rfl rfl) rfl ?_; refine vo_step (ok_alloc L rfl rfl rfl rfl) rfl ?_; refine vo_step (ok_assign rfl rfl rfl) rfl ?_; refine vo_nil ?_; refine N_seq ?_; refine V_seq ?_; refine V_seq ?_; refine V_region (id := 1) ?_; refine vo_step (ok_fieldAt L rfl rfl rfl rfl) rfl ?_; refine vo_step (ok_loadA L (vs := [_, _, _, _, _, _]) (src_at rfl) rfl rfl rfl rfl ⟨_, rfl⟩) rfl ?_; refine vo_step (ok_callx L rfl rfl (blt_lt rfl) rfl rfl rfl (fun u H hH _ _ => he ▸ tcheck_ret hz hH)) rfl ?_; refine vo_step (ok_assign rfl rfl rfl) rfl ?_; refine vo_nil ?_; refine N_seq ?_; refine V_seq ?_; refine V_region (id := 2) ?_; refine vo_step (ok_move rfl rfl rfl) rfl ?_; refine vo_step (ok_neq rfl rfl rfl rfl (decide_eq_false (by omega))) rfl ?_; refine vo_nil ?_; refine N_seq ?_; refine V_false rfl ?_; refine V_skip ?_; refine N_seq ?_; refine V_seq ?_; refine V_seq ?_; refine V_regionD (id := 4) [] mixed (by kernel_rfl) ?_; refine par_step (ok_loadA L (vs := [_, _, _, _]) (src_at rfl) rfl rfl rfl rfl ⟨_, rfl⟩) rfl ?_; refine par_step (ok_fieldAt L rfl rfl rfl rfl) rfl ?_; refine par_step (ok_loadA L (vs := [_, _, _, _, _, _]) (src_at rfl) rfl rfl rfl rfl ⟨_, rfl⟩) rfl ?_; refine par_step (ok_callx L rfl rfl (blt_lt rfl) rfl rfl rfl (fun u H hH hle _ => shas_ret hin0 hH (hv.le hle))) rfl ?_; refine par_step (ok_fieldAt L rfl rfl rfl rfl) rfl ?_; refine par_step (ok_load1 L (src_at rfl) rfl rfl rfl rfl) rfl ?_; refine par_step (ok_bneq rfl rfl rfl rfl bt4 rfl) rfl ?_; refine par_nil ?_; refine N_seq ?_; refine V_false rfl ?_; refine V_skip ?_; refine N_seq ?_; refine V_seq ?_; refine V_seq ?_; refine V_region (id := 6) ?_; refine vo_step (ok_fieldAt L rfl rfl rfl rfl) rfl ?_; refine vo_step (ok_load1 L (src_at rfl) rfl rfl rfl rfl) rfl ?_; refine vo_step (ok_not rfl rfl rfl rfl) rfl ?_; refine vo_step (ok_move rfl rfl rfl) rfl ?_; refine vo_step (ok_loadA L (vs := [_, _, _, _]) (src_at rfl) rfl rfl rfl rfl ⟨_, rfl⟩) rfl ?_; refine vo_step (ok_callx L rfl rfl (blt_lt rfl) rfl rfl rfl (fun u H hH hle _ => slen_ret rfl hH (hv.le hle))) rfl ?_; refine vo_step (ok_eql rfl rfl rfl rfl (decide_eq_false (by omega))) rfl ?_; refine vo_step (ok_pick rfl rfl rfl rfl) rfl ?_; refine vo_nil ?_; refine N_seq ?_; refine V_false rfl ?_; refine V_skip ?_; refine N_seq ?_; refine V_seq ?_; refine V_regionD (id := 8) [] mixed (by kernel_rfl) ?_; refine par_step (ok_fieldAt L rfl rfl rfl rfl) rfl ?_; refine par_step (ok_loadA L (vs := [_, _]) (src_at rfl) rfl rfl rfl rfl ⟨_, rfl⟩) rfl ?_; refine par_step (ok_loadA L (vs := [_, _, _, _, _, _, _]) (src_at rfl) rfl rfl rfl rfl ⟨_, rfl⟩) rfl ?_; refine par_step (ok_call (φ := UT.MF 76 (chT cmpT x false t)) L rfl rfl (blt_lt rfl) rfl rfl rfl UT.MA.mono (fun u H hH hle _ => hchg1 u H hH hle)) rfl ?_; refine par_step (ok_fieldAt L rfl rfl rfl rfl) rfl ?_; refine par_step (ok_loadA L (vs := [_, _]) (src_at rfl) rfl rfl rfl rfl ⟨_, rfl⟩) rfl ?_; refine par_step (ok_loadA L (vs := [_, _, _, _, _, _, _]) (src_at rfl) rfl rfl rfl rfl ⟨_, rfl⟩) rfl ?_; refine par_step (ok_call (φ := UT.MF 86 (chT cmpS x false u)) L rfl rfl (blt_lt rfl) rfl rfl rfl UT.MA.mono (fun u H hH hle _ => hchg2 u H hH hle)) rfl ?_; refine par_step (ok_buildS (ψ := SetV m) rfl rfl pl41 SetV.mono (fun H _ v1 h1 v2 h2 => by obtain ⟨p, q, rfl, rfl, k1, k2⟩ := mf4 h1 h2; exact ⟨_, rfl, p, q, _, _, hT', k1, k2, .inl rfl⟩)) rfl ?_; refine par_step (ok_storeX L (X := SXp) (fun x => scs x.1) (sphi m) (sphi_mono m) set_st (fun x => ⟨rfl, x.2⟩) rfl rfl rfl rfl rfl) rfl ?_; refine par_step (ok_assign rfl rfl rfl) rfl ?_; refine par_nil ?_; refine N_seq ?_
          refine V_opnX 4 rfl fun x4 H4 hs4 hx4 => ?_
          refine V_ret L (rs := [.cell 4 41, .tmp 5]) rfl (fun _ _ h => h) hs4 fun u H hH hle => ?_
          exact ⟨_, src_own rfl, rfl, LE2.mk (hx4.le hle)⟩
        · refine V_enter Try.func63 rfl Try.ntmps63 (Nat.le_of_ble_eq_true rfl) hB ?_
          refine V_seq ?_; refine V_region (id := 0) ?_; refine vo_step (ok_box rfl rfl rfl rfl) rfl ?_; refine vo_step (ok_box rfl rfl rfl rfl) rfl ?_; refine vo_step (ok_alloc L rfl rfl rfl rfl) rfl ?_; refine vo_step (ok_assign rfl rfl rfl) rfl ?_; refine vo_nil ?_; refine N_seq ?_; refine V_seq ?_; refine V_seq ?_; refine V_region (id := 1) ?_; refine vo_step (ok_fieldAt L rfl rfl rfl rfl) rfl ?_; refine vo_step (ok_loadA L (vs := [_, _, _, _, _, _]) (src_at rfl) rfl rfl rfl rfl ⟨_, rfl⟩) rfl ?_; refine vo_step (ok_callx L rfl rfl (blt_lt rfl) rfl rfl rfl (fun u H hH _ _ => he ▸ tcheck_ret hz hH)) rfl ?_; refine vo_step (ok_assign rfl rfl rfl) rfl ?_; refine vo_nil ?_; refine N_seq ?_; refine V_seq ?_; refine V_region (id := 2) ?_; refine vo_step (ok_move rfl rfl rfl) rfl ?_; refine vo_step (ok_neq rfl rfl rfl rfl (decide_eq_false (by omega))) rfl ?_; refine vo_nil ?_; refine N_seq ?_; refine V_false rfl ?_; refine V_skip ?_; refine N_seq ?_; refine V_seq ?_; refine V_seq ?_; refine V_regionD (id := 4) [] mixed (by kernel_rfl) ?_; refine par_step (ok_loadA L (vs := [_, _, _, _]) (src_at rfl) rfl rfl rfl rfl ⟨_, rfl⟩) rfl ?_; refine par_step (ok_fieldAt L rfl rfl rfl rfl) rfl ?_; refine par_step (ok_loadA L (vs := [_, _, _, _, _, _]) (src_at rfl) rfl rfl rfl rfl ⟨_, rfl⟩) rfl ?_; refine par_step (ok_callx L rfl rfl (blt_lt rfl) rfl rfl rfl (fun u H hH hle _ => shas_ret hin0 hH (hv.le hle))) rfl ?_; refine par_step (ok_fieldAt L rfl rfl rfl rfl) rfl ?_; refine par_step (ok_load1 L (src_at rfl) rfl rfl rfl rfl) rfl ?_; refine par_step (ok_bneq rfl rfl rfl rfl bt4 rfl) rfl ?_; refine par_nil ?_; refine N_seq ?_; refine V_false rfl ?_; refine V_skip ?_; refine N_seq ?_; refine V_seq ?_; refine V_seq ?_; refine V_region (id := 6) ?_; refine vo_step (ok_fieldAt L rfl rfl rfl rfl) rfl ?_; refine vo_step (ok_load1 L (src_at rfl) rfl rfl rfl rfl) rfl ?_; refine vo_step (ok_not rfl rfl rfl rfl) rfl ?_; refine vo_step (ok_move rfl rfl rfl) rfl ?_; refine vo_step (ok_skip rfl (blt_lt rfl) rfl) rfl ?_; refine vo_step (ok_skip rfl (blt_lt rfl) rfl) rfl ?_; refine vo_step (ok_skip rfl (blt_lt rfl) rfl) rfl ?_; refine vo_step (ok_pick rfl rfl rfl rfl) rfl ?_; refine vo_nil ?_; refine N_seq ?_; refine V_false rfl ?_; refine V_skip ?_; refine N_seq ?_; refine V_seq ?_; refine V_regionD (id := 8) [] mixed (by kernel_rfl) ?_; refine par_step (ok_fieldAt L rfl rfl rfl rfl) rfl ?_; refine par_step (ok_loadA L (vs := [_, _]) (src_at rfl) rfl rfl rfl rfl ⟨_, rfl⟩) rfl ?_; refine par_step (ok_loadA L (vs := [_, _, _, _, _, _, _]) (src_at rfl) rfl rfl rfl rfl ⟨_, rfl⟩) rfl ?_; refine par_step (ok_call (φ := UT.MF 76 (chT cmpT x true t)) L rfl rfl (blt_lt rfl) rfl rfl rfl UT.MA.mono (fun u H hH hle _ => hchg1 u H hH hle)) rfl ?_; refine par_step (ok_fieldAt L rfl rfl rfl rfl) rfl ?_; refine par_step (ok_loadA L (vs := [_, _]) (src_at rfl) rfl rfl rfl rfl ⟨_, rfl⟩) rfl ?_; refine par_step (ok_loadA L (vs := [_, _, _, _, _, _, _]) (src_at rfl) rfl rfl rfl rfl ⟨_, rfl⟩) rfl ?_; refine par_step (ok_call (φ := UT.MF 86 (chT cmpS x true u)) L rfl rfl (blt_lt rfl) rfl rfl rfl UT.MA.mono (fun u H hH hle _ => hchg2 u H hH hle)) rfl ?_; refine par_step (ok_buildS (ψ := SetV m) rfl rfl pl41 SetV.mono (fun H _ v1 h1 v2 h2 => by obtain ⟨p, q, rfl, rfl, k1, k2⟩ := mf4 h1 h2; exact ⟨_, rfl, p, q, _, _, hT', k1, k2, .inl rfl⟩)) rfl ?_; refine par_step (ok_storeX L (X := SXp) (fun x => scs x.1) (sphi m) (sphi_mono m) set_st (fun x => ⟨rfl, x.2⟩) rfl rfl rfl rfl rfl) rfl ?_; refine par_step (ok_assign rfl rfl rfl) rfl ?_; refine par_nil ?_; refine N_seq ?_
          refine V_opnX 4 rfl fun x4 H4 hs4 hx4 => ?_
          refine V_ret L (rs := [.cell 4 41, .tmp 5]) rfl (fun _ _ h => h) hs4 fun u H hH hle => ?_
          exact ⟨_, src_own rfl, rfl, LE2.mk (hx4.le hle)⟩
    · have hw : withU l x d = (l, 0) := by
        unfold withU
        rw [if_pos he]
        cases d
        · have : hin = true := by cases hin; exact absurd rfl hd; rfl
          subst this
          rw [if_neg (by decide), if_pos (by simpa using hin0)]
        · have : hin = false := by cases hin; rfl; exact absurd rfl hd
          subst this
          rw [if_pos rfl, filter_out (by simpa using hin0)]
      rw [hw] at hr
      cases hr
      have hb : (hin == d) = false := by cases hin <;> cases d <;> first | rfl | exact absurd rfl hd
      subst hsh
      refine V_enter Try.func63 rfl Try.ntmps63 (Nat.le_of_ble_eq_true rfl) hB ?_
      have hb2 : (!(hin == d)) = true := by rw [hb]; rfl
      refine V_seq ?_; refine V_region (id := 0) ?_; refine vo_step (ok_box rfl rfl rfl rfl) rfl ?_; refine vo_step (ok_box rfl rfl rfl rfl) rfl ?_; refine vo_step (ok_alloc L rfl rfl rfl rfl) rfl ?_; refine vo_step (ok_assign rfl rfl rfl) rfl ?_; refine vo_nil ?_; refine N_seq ?_; refine V_seq ?_; refine V_seq ?_; refine V_region (id := 1) ?_; refine vo_step (ok_fieldAt L rfl rfl rfl rfl) rfl ?_; refine vo_step (ok_loadA L (vs := [_, _, _, _, _, _]) (src_at rfl) rfl rfl rfl rfl ⟨_, rfl⟩) rfl ?_; refine vo_step (ok_callx L rfl rfl (blt_lt rfl) rfl rfl rfl (fun u H hH _ _ => he ▸ tcheck_ret hz hH)) rfl ?_; refine vo_step (ok_assign rfl rfl rfl) rfl ?_; refine vo_nil ?_; refine N_seq ?_; refine V_seq ?_; refine V_region (id := 2) ?_; refine vo_step (ok_move rfl rfl rfl) rfl ?_; refine vo_step (ok_neq rfl rfl rfl rfl (decide_eq_false (by omega))) rfl ?_; refine vo_nil ?_; refine N_seq ?_; refine V_false rfl ?_; refine V_skip ?_; refine N_seq ?_; refine V_seq ?_; refine V_seq ?_; refine V_regionD (id := 4) [] mixed (by kernel_rfl) ?_; refine par_step (ok_loadA L (vs := [_, _, _, _]) (src_at rfl) rfl rfl rfl rfl ⟨_, rfl⟩) rfl ?_; refine par_step (ok_fieldAt L rfl rfl rfl rfl) rfl ?_; refine par_step (ok_loadA L (vs := [_, _, _, _, _, _]) (src_at rfl) rfl rfl rfl rfl ⟨_, rfl⟩) rfl ?_; refine par_step (ok_callx L rfl rfl (blt_lt rfl) rfl rfl rfl (fun u H hH hle _ => shas_ret hin0 hH (hv.le hle))) rfl ?_; refine par_step (ok_fieldAt L rfl rfl rfl rfl) rfl ?_; refine par_step (ok_load1 L (src_at rfl) rfl rfl rfl rfl) rfl ?_; refine par_step (ok_bneq rfl rfl rfl rfl bt4 hb2) rfl ?_; refine par_nil ?_; refine N_seq ?_; refine V_true rfl ?_; refine V_seq ?_; refine V_region (id := 5) ?_; refine vo_step (ok_loadA L (vs := [_, _, _, _]) (src_at rfl) rfl rfl rfl rfl ⟨_, rfl⟩) rfl ?_; refine vo_step (ok_store L rfl rfl rfl rfl rfl rfl (by assumption) rfl) rfl ?_; refine vo_step (ok_assign rfl rfl rfl) rfl ?_; refine vo_nil ?_; refine N_seq ?_
      refine V_ret L (rs := [.cell 4 41, .tmp 5]) rfl (fun _ _ h => h) Since.refl fun u H hH hle => ?_
      exact ⟨_, src_own rfl, rfl, LE2.mk (hv.le hle)⟩
  · have hw : withU l x d = ([], tE x) := if_neg he
    rw [hw] at hr
    cases hr
    subst hsh
    refine V_enter Try.func63 rfl Try.ntmps63 (Nat.le_of_ble_eq_true rfl) hB ?_
    refine V_seq ?_; refine V_region (id := 0) ?_; refine vo_step (ok_box rfl rfl rfl rfl) rfl ?_; refine vo_step (ok_box rfl rfl rfl rfl) rfl ?_; refine vo_step (ok_alloc L rfl rfl rfl rfl) rfl ?_; refine vo_step (ok_assign rfl rfl rfl) rfl ?_; refine vo_nil ?_; refine N_seq ?_; refine V_seq ?_; refine V_seq ?_; refine V_region (id := 1) ?_; refine vo_step (ok_fieldAt L rfl rfl rfl rfl) rfl ?_; refine vo_step (ok_loadA L (vs := [_, _, _, _, _, _]) (src_at rfl) rfl rfl rfl rfl ⟨_, rfl⟩) rfl ?_; refine vo_step (ok_callx L rfl rfl (blt_lt rfl) rfl rfl rfl (fun u H hH _ _ => tcheck_ret hz hH)) rfl ?_; refine vo_step (ok_assign rfl rfl rfl) rfl ?_; refine vo_nil ?_; refine N_seq ?_; refine V_seq ?_; refine V_region (id := 2) ?_; refine vo_step (ok_move rfl rfl rfl) rfl ?_; refine vo_step (ok_neq rfl rfl rfl rfl (decide_eq_true (by omega))) rfl ?_; refine vo_nil ?_; refine N_seq ?_; refine V_true rfl ?_; refine V_seq ?_; refine V_region (id := 3) ?_; refine vo_step (ok_build (cs := [_, _, _, _]) rfl rfl pl41 rfl rfl) rfl ?_; refine vo_step (ok_move rfl rfl rfl) rfl ?_; refine vo_step (ok_store L rfl rfl rfl rfl rfl rfl rfl rfl) rfl ?_; refine vo_step (ok_assign rfl rfl rfl) rfl ?_; refine vo_nil ?_; refine N_seq ?_
    refine V_ret L (rs := [.cell 4 41, .tmp 5]) rfl (fun _ _ h => h) Since.refl fun u H hH hle => ?_
    exact ⟨_, src_own rfl, rfl, LE2.mk SetV.nil⟩
end Go.V.L6
/- The walk of the definition of tuples (chapter 2): parts of two lists. -/
namespace Go.V.L2
open Go.Proofs Go.RowKit Go.V
theorem ups_len : ∀ (l : List U), (l.flatMap ucs).length = l.length * 6
  | [] => rfl
  | y :: l => by rw [List.flatMap_cons, List.length_append, ups_len l, ucs_len, List.length_cons]; omega
theorem ups_plain : ∀ (l : List U), (l.flatMap ucs).all plainV = true
  | [] => rfl
  | g :: l => by rw [List.flatMap_cons, List.all_append, ups_plain l]; rfl
theorem ups_cat {κ : Kap} {s : Nat} {x y : List U} (h : κ s = some (.own (SlR tyU 6 (x.length + y.length) (x.flatMap ucs ++ y.flatMap ucs)))) : κ s = some (.own (SlR tyU 6 (x ++ y).length ((x ++ y).flatMap ucs))) := by
  rw [h, List.flatMap_append, List.length_append]
theorem filter_snoc {p : U → Bool} {l r : List U} {k : Nat} {t : U} (h : l[k]? = some t) (hr : r = (l.take k).filter p) : (l.take (k + 1)).filter p = if p t = true then r ++ [t] else r := by
  rw [take_s h, List.filter_append, hr, List.filter_cons, List.filter_nil]
  split <;> simp
attribute [local irreducible] V N X VO Par StepOK Has Ret RetL Src
set_option maxHeartbeats 4000000 in
theorem rsome_ttt {x y : List U} {fx fy : Bool} (hx : x.length ≤ 100000) (hy : y.length ≤ 100000) (zx : ∀ t ∈ x, TZ t) (zy : ∀ t ∈ y, TZ t) {vx vy : Value} {w : World} {B : Heap} (hB : B.Le (hp w)) (hvx : US x fx vx B) (hvy : US y fy vy B) :
    Ret Try.prog 78 [vx, vy, .bool true, .bool true, .bool true] w B (US (someT x y true true true) false) := by
  have lx := ups_len x
  have ly := ups_len y
  have px := ups_plain x
  have py := ups_plain y
  refine V_enter Try.func78 rfl Try.ntmps78 (Nat.le_of_ble_eq_true rfl) hB ?_
  refine V_seen 0 (US x fx) rfl SlV.mono hvx ?_
  refine V_seen 1 (US y fy) rfl SlV.mono hvy ?_
  refine V_seq ?_; refine V_region (id := 0) ?_; refine vo_step (ok_assign rfl rfl rfl) rfl ?_; refine vo_nil ?_; refine N_seq ?_; refine V_seq ?_; refine V_region (id := 1) ?_; refine vo_step (ok_assign rfl rfl rfl) rfl ?_; refine vo_nil ?_; refine N_seq ?_; refine V_seq ?_
  refine V_nilR 11 tyU 6 rfl ?_
  refine V_region (id := 2) ?_; refine vo_step (ok_moves' rfl rfl rfl) rfl ?_; refine vo_step (ok_append0 L rfl rfl rfl (apd_V rfl) rfl el52 lx px (by omega) (by omega)) rfl ?_; refine vo_step (ok_moves' rfl rfl rfl) rfl ?_; refine vo_step2 (ok_append L rfl rfl rfl (apd_V rfl) rfl el52 ly py (by omega) (by omega)) ?_; refine vo_step2 (ok_moveO (.inr rfl) rfl rfl rfl rfl) ?_; refine vo_nil ?_; refine N_seq ?_; refine V_seq ?_; refine V_seq ?_
  refine V_pubR 12 (ups_cat rfl) ?_
  have hal : (x ++ y).length ≤ 200000 := by rw [List.length_append]; omega
  have hza : ∀ t ∈ x ++ y, TZ t := fun t ht => (List.mem_append.1 ht).elim (zx t) (zy t)
  unfold someT
  generalize hall : x ++ y = l at hal hza
  refine V_region (id := 3) ?_; refine vo_step (ok_assign rfl rfl rfl) rfl ?_; refine vo_nil ?_; refine N_seq ?_; refine V_block ?_
  refine V_loop (fun s : Nat × List U => [(0, .sat (US x fx)), (1, .sat (US y fy)), (2, .is (.bool true)), (3, .is (.bool true)), (4, .is (.bool true)), (11, .own (SlR tyU 6 s.2.length (s.2.flatMap ucs))), (12, .sat (US l false)), (13, .is (.int .i64 s.1))])
    (fun s => s.1 ≤ l.length ∧ s.2.length ≤ s.1 ∧ s.2 = (l.take s.1).filter (pickT x y true true true)) (fun s => l.length - s.1) (0, []) ⟨Nat.zero_le _, Nat.le_refl _, rfl⟩ ⟨rfl, rfl, rfl, rfl, rfl, rfl, rfl, rfl, trivial⟩ ?_
  rintro ⟨i, r⟩ ⟨hi, hrl, hr⟩
  dsimp only at hi hrl hr ⊢
  by_cases hlt : i < l.length
  · obtain ⟨t, ht⟩ := get_some hlt
    have hc := us_at ht
    have hf := filter_snoc ht hr
    by_cases h1 : t ∈ x
    · have e1 : (if t ∈ x then 1 else 0 : Int) = 1 := if_pos h1
      by_cases h2 : t ∈ y
      · have e2 : (if t ∈ y then 1 else 0 : Int) = 1 := if_pos h2
        have hp : (pickT x y true true true) t = true := by simp [pickT, h1, h2]
        rw [hp, if_pos rfl] at hf
        refine V_seq ?_; refine V_seq ?_; refine V_region (id := 4) ?_; refine vo_step (ok_move rfl rfl rfl) rfl ?_; refine vo_step (ok_moves' rfl rfl rfl) rfl ?_; refine vo_step (ok_lenV L rfl rfl rfl rfl) rfl ?_; refine vo_step (ok_lss rfl rfl rfl rfl (decide_eq_true (by omega))) rfl ?_; refine vo_nil ?_; refine N_seq ?_; refine V_true rfl ?_; refine V_skip ?_; refine N_seq ?_; refine V_seq ?_; refine V_block ?_; refine V_seq ?_; refine V_regionD (id := 6) [] mixed (by kernel_rfl) ?_; refine par_step (ok_moves' rfl rfl rfl) rfl ?_; refine par_step (ok_moves' rfl rfl rfl) rfl ?_; refine par_step (ok_move rfl rfl rfl) rfl ?_; refine par_step (ok_indexV L _ rfl rfl rfl rfl rfl rfl rfl (by first | omega | decide) (by assumption)) rfl ?_; refine par_step (ok_loadPA L (vs := [_, _, _, _, _, _]) rfl rfl rfl rfl rfl ⟨_, rfl⟩) rfl ?_; refine par_step (ok_callx L rfl rfl (blt_lt rfl) rfl rfl rfl (fun u H hH _ _ v1 h3 => rin_ret (l := x) (by omega) e1 hH h3)) rfl ?_; refine par_step (ok_eql rfl rfl rfl rfl (decide_eq_true (by omega))) rfl ?_; refine par_step (ok_moves' rfl rfl rfl) rfl ?_; refine par_step (ok_moves' rfl rfl rfl) rfl ?_; refine par_step (ok_move rfl rfl rfl) rfl ?_; refine par_step (ok_indexV L _ rfl rfl rfl rfl rfl rfl rfl (by first | omega | decide) (by assumption)) rfl ?_; refine par_step (ok_loadPA L (vs := [_, _, _, _, _, _]) rfl rfl rfl rfl rfl ⟨_, rfl⟩) rfl ?_; refine par_step (ok_callx L rfl rfl (blt_lt rfl) rfl rfl rfl (fun u H hH _ _ v1 h3 => rin_ret (l := y) (by omega) e2 hH h3)) rfl ?_; refine par_step (ok_eql rfl rfl rfl rfl (decide_eq_true (by omega))) rfl ?_; refine par_step (ok_assign rfl rfl rfl) rfl ?_; refine par_step (ok_assign rfl rfl rfl) rfl ?_; refine par_nil ?_; refine N_seq ?_; refine V_seq ?_; refine V_region (id := 7) ?_; refine vo_step (ok_move rfl rfl rfl) rfl ?_; refine vo_step (ok_move rfl rfl rfl) rfl ?_; refine vo_step (ok_move rfl rfl rfl) rfl ?_; refine vo_step (ok_not rfl rfl rfl rfl) rfl ?_; refine vo_step (ok_pick rfl rfl rfl rfl) rfl ?_; refine vo_step (ok_move rfl rfl rfl) rfl ?_; refine vo_step (ok_skip rfl (blt_lt rfl) rfl) rfl ?_; refine vo_step (ok_pick rfl rfl rfl rfl) rfl ?_; refine vo_step (ok_move rfl rfl rfl) rfl ?_; refine vo_step (ok_move rfl rfl rfl) rfl ?_; refine vo_step (ok_move rfl rfl rfl) rfl ?_; refine vo_step (ok_move rfl rfl rfl) rfl ?_; refine vo_step (ok_pick rfl rfl rfl rfl) rfl ?_; refine vo_step (ok_move rfl rfl rfl) rfl ?_; refine vo_step (ok_move rfl rfl rfl) rfl ?_; refine vo_step (ok_pick rfl rfl rfl rfl) rfl ?_; refine vo_step (ok_pick rfl rfl rfl rfl) rfl ?_; refine vo_step (ok_move rfl rfl rfl) rfl ?_; refine vo_step (ok_skip rfl (blt_lt rfl) rfl) rfl ?_; refine vo_step (ok_skip rfl (blt_lt rfl) rfl) rfl ?_; refine vo_step (ok_skip rfl (blt_lt rfl) rfl) rfl ?_; refine vo_step (ok_skip rfl (blt_lt rfl) rfl) rfl ?_; refine vo_step (ok_skip rfl (blt_lt rfl) rfl) rfl ?_; refine vo_step (ok_skip rfl (blt_lt rfl) rfl) rfl ?_; refine vo_step (ok_skip rfl (blt_lt rfl) rfl) rfl ?_; refine vo_step (ok_skip rfl (blt_lt rfl) rfl) rfl ?_; refine vo_step (ok_pick rfl rfl rfl rfl) rfl ?_; refine vo_nil ?_; refine N_seq ?_; refine V_true rfl ?_; refine V_region (id := 8) ?_; refine vo_step2 (ok_moveO (.inl rfl) rfl rfl rfl rfl) ?_; refine vo_step (ok_moves' rfl rfl rfl) rfl ?_; refine vo_step (ok_move rfl rfl rfl) rfl ?_; refine vo_step (ok_indexV L _ rfl rfl rfl rfl rfl rfl rfl (by first | omega | decide) (by assumption)) rfl ?_; refine vo_step (ok_loadPA L (vs := [_, _, _, _, _, _]) rfl rfl rfl rfl rfl ⟨_, rfl⟩) rfl ?_; refine vo_step (ok_buildSlice L rfl rfl rfl rfl rfl rfl rfl rfl rfl) rfl ?_; refine vo_step2 (ok_append L rfl rfl rfl (apd_B rfl) rfl el52 rfl rfl (by omega) (by omega)) ?_; refine vo_step2 (ok_moveO (.inr rfl) rfl rfl rfl rfl) ?_; refine vo_nil ?_; refine N_block ?_; refine N_seq ?_; refine V_region (id := 5) ?_; refine vo_step (ok_move rfl rfl rfl) rfl ?_; refine vo_step (ok_add rfl rfl rfl rfl (wrap_i64 (by omega) (by omega))) rfl ?_; refine vo_step (ok_assign rfl rfl rfl) rfl ?_; refine vo_nil ?_
        exact N_round (x := (i, r)) (i + 1, r ++ [t]) ⟨hlt, by dsimp only; rw [List.length_append, List.length_singleton]; omega, hf.symm⟩ (by dsimp only; omega) ⟨rfl, rfl, rfl, rfl, rfl, ups_snoc rfl, rfl, rfl, trivial⟩
      · have e2 : (if t ∈ y then 1 else 0 : Int) = 0 := if_neg h2
        have hp : (pickT x y true true true) t = true := by simp [pickT, h1, h2]
        rw [hp, if_pos rfl] at hf
        refine V_seq ?_; refine V_seq ?_; refine V_region (id := 4) ?_; refine vo_step (ok_move rfl rfl rfl) rfl ?_; refine vo_step (ok_moves' rfl rfl rfl) rfl ?_; refine vo_step (ok_lenV L rfl rfl rfl rfl) rfl ?_; refine vo_step (ok_lss rfl rfl rfl rfl (decide_eq_true (by omega))) rfl ?_; refine vo_nil ?_; refine N_seq ?_; refine V_true rfl ?_; refine V_skip ?_; refine N_seq ?_; refine V_seq ?_; refine V_block ?_; refine V_seq ?_; refine V_regionD (id := 6) [] mixed (by kernel_rfl) ?_; refine par_step (ok_moves' rfl rfl rfl) rfl ?_; refine par_step (ok_moves' rfl rfl rfl) rfl ?_; refine par_step (ok_move rfl rfl rfl) rfl ?_; refine par_step (ok_indexV L _ rfl rfl rfl rfl rfl rfl rfl (by first | omega | decide) (by assumption)) rfl ?_; refine par_step (ok_loadPA L (vs := [_, _, _, _, _, _]) rfl rfl rfl rfl rfl ⟨_, rfl⟩) rfl ?_; refine par_step (ok_callx L rfl rfl (blt_lt rfl) rfl rfl rfl (fun u H hH _ _ v1 h3 => rin_ret (l := x) (by omega) e1 hH h3)) rfl ?_; refine par_step (ok_eql rfl rfl rfl rfl (decide_eq_true (by omega))) rfl ?_; refine par_step (ok_moves' rfl rfl rfl) rfl ?_; refine par_step (ok_moves' rfl rfl rfl) rfl ?_; refine par_step (ok_move rfl rfl rfl) rfl ?_; refine par_step (ok_indexV L _ rfl rfl rfl rfl rfl rfl rfl (by first | omega | decide) (by assumption)) rfl ?_; refine par_step (ok_loadPA L (vs := [_, _, _, _, _, _]) rfl rfl rfl rfl rfl ⟨_, rfl⟩) rfl ?_; refine par_step (ok_callx L rfl rfl (blt_lt rfl) rfl rfl rfl (fun u H hH _ _ v1 h3 => rin_ret (l := y) (by omega) e2 hH h3)) rfl ?_; refine par_step (ok_eql rfl rfl rfl rfl (decide_eq_false (by omega))) rfl ?_; refine par_step (ok_assign rfl rfl rfl) rfl ?_; refine par_step (ok_assign rfl rfl rfl) rfl ?_; refine par_nil ?_; refine N_seq ?_; refine V_seq ?_; refine V_region (id := 7) ?_; refine vo_step (ok_move rfl rfl rfl) rfl ?_; refine vo_step (ok_move rfl rfl rfl) rfl ?_; refine vo_step (ok_move rfl rfl rfl) rfl ?_; refine vo_step (ok_not rfl rfl rfl rfl) rfl ?_; refine vo_step (ok_pick rfl rfl rfl rfl) rfl ?_; refine vo_step (ok_move rfl rfl rfl) rfl ?_; refine vo_step (ok_move rfl rfl rfl) rfl ?_; refine vo_step (ok_pick rfl rfl rfl rfl) rfl ?_; refine vo_step (ok_move rfl rfl rfl) rfl ?_; refine vo_step (ok_skip rfl (blt_lt rfl) rfl) rfl ?_; refine vo_step (ok_skip rfl (blt_lt rfl) rfl) rfl ?_; refine vo_step (ok_skip rfl (blt_lt rfl) rfl) rfl ?_; refine vo_step (ok_skip rfl (blt_lt rfl) rfl) rfl ?_; refine vo_step (ok_skip rfl (blt_lt rfl) rfl) rfl ?_; refine vo_step (ok_skip rfl (blt_lt rfl) rfl) rfl ?_; refine vo_step (ok_skip rfl (blt_lt rfl) rfl) rfl ?_; refine vo_step (ok_pick rfl rfl rfl rfl) rfl ?_; refine vo_step (ok_move rfl rfl rfl) rfl ?_; refine vo_step (ok_skip rfl (blt_lt rfl) rfl) rfl ?_; refine vo_step (ok_skip rfl (blt_lt rfl) rfl) rfl ?_; refine vo_step (ok_skip rfl (blt_lt rfl) rfl) rfl ?_; refine vo_step (ok_skip rfl (blt_lt rfl) rfl) rfl ?_; refine vo_step (ok_skip rfl (blt_lt rfl) rfl) rfl ?_; refine vo_step (ok_skip rfl (blt_lt rfl) rfl) rfl ?_; refine vo_step (ok_skip rfl (blt_lt rfl) rfl) rfl ?_; refine vo_step (ok_skip rfl (blt_lt rfl) rfl) rfl ?_; refine vo_step (ok_pick rfl rfl rfl rfl) rfl ?_; refine vo_nil ?_; refine N_seq ?_; refine V_true rfl ?_; refine V_region (id := 8) ?_; refine vo_step2 (ok_moveO (.inl rfl) rfl rfl rfl rfl) ?_; refine vo_step (ok_moves' rfl rfl rfl) rfl ?_; refine vo_step (ok_move rfl rfl rfl) rfl ?_; refine vo_step (ok_indexV L _ rfl rfl rfl rfl rfl rfl rfl (by first | omega | decide) (by assumption)) rfl ?_; refine vo_step (ok_loadPA L (vs := [_, _, _, _, _, _]) rfl rfl rfl rfl rfl ⟨_, rfl⟩) rfl ?_; refine vo_step (ok_buildSlice L rfl rfl rfl rfl rfl rfl rfl rfl rfl) rfl ?_; refine vo_step2 (ok_append L rfl rfl rfl (apd_B rfl) rfl el52 rfl rfl (by omega) (by omega)) ?_; refine vo_step2 (ok_moveO (.inr rfl) rfl rfl rfl rfl) ?_; refine vo_nil ?_; refine N_block ?_; refine N_seq ?_; refine V_region (id := 5) ?_; refine vo_step (ok_move rfl rfl rfl) rfl ?_; refine vo_step (ok_add rfl rfl rfl rfl (wrap_i64 (by omega) (by omega))) rfl ?_; refine vo_step (ok_assign rfl rfl rfl) rfl ?_; refine vo_nil ?_
        exact N_round (x := (i, r)) (i + 1, r ++ [t]) ⟨hlt, by dsimp only; rw [List.length_append, List.length_singleton]; omega, hf.symm⟩ (by dsimp only; omega) ⟨rfl, rfl, rfl, rfl, rfl, ups_snoc rfl, rfl, rfl, trivial⟩
    · have e1 : (if t ∈ x then 1 else 0 : Int) = 0 := if_neg h1
      by_cases h2 : t ∈ y
      · have e2 : (if t ∈ y then 1 else 0 : Int) = 1 := if_pos h2
        have hp : (pickT x y true true true) t = true := by simp [pickT, h1, h2]
        rw [hp, if_pos rfl] at hf
        refine V_seq ?_; refine V_seq ?_; refine V_region (id := 4) ?_; refine vo_step (ok_move rfl rfl rfl) rfl ?_; refine vo_step (ok_moves' rfl rfl rfl) rfl ?_; refine vo_step (ok_lenV L rfl rfl rfl rfl) rfl ?_; refine vo_step (ok_lss rfl rfl rfl rfl (decide_eq_true (by omega))) rfl ?_; refine vo_nil ?_; refine N_seq ?_; refine V_true rfl ?_; refine V_skip ?_; refine N_seq ?_; refine V_seq ?_; refine V_block ?_; refine V_seq ?_; refine V_regionD (id := 6) [] mixed (by kernel_rfl) ?_; refine par_step (ok_moves' rfl rfl rfl) rfl ?_; refine par_step (ok_moves' rfl rfl rfl) rfl ?_; refine par_step (ok_move rfl rfl rfl) rfl ?_; refine par_step (ok_indexV L _ rfl rfl rfl rfl rfl rfl rfl (by first | omega | decide) (by assumption)) rfl ?_; refine par_step (ok_loadPA L (vs := [_, _, _, _, _, _]) rfl rfl rfl rfl rfl ⟨_, rfl⟩) rfl ?_; refine par_step (ok_callx L rfl rfl (blt_lt rfl) rfl rfl rfl (fun u H hH _ _ v1 h3 => rin_ret (l := x) (by omega) e1 hH h3)) rfl ?_; refine par_step (ok_eql rfl rfl rfl rfl (decide_eq_false (by omega))) rfl ?_; refine par_step (ok_moves' rfl rfl rfl) rfl ?_; refine par_step (ok_moves' rfl rfl rfl) rfl ?_; refine par_step (ok_move rfl rfl rfl) rfl ?_; refine par_step (ok_indexV L _ rfl rfl rfl rfl rfl rfl rfl (by first | omega | decide) (by assumption)) rfl ?_; refine par_step (ok_loadPA L (vs := [_, _, _, _, _, _]) rfl rfl rfl rfl rfl ⟨_, rfl⟩) rfl ?_; refine par_step (ok_callx L rfl rfl (blt_lt rfl) rfl rfl rfl (fun u H hH _ _ v1 h3 => rin_ret (l := y) (by omega) e2 hH h3)) rfl ?_; refine par_step (ok_eql rfl rfl rfl rfl (decide_eq_true (by omega))) rfl ?_; refine par_step (ok_assign rfl rfl rfl) rfl ?_; refine par_step (ok_assign rfl rfl rfl) rfl ?_; refine par_nil ?_; refine N_seq ?_; refine V_seq ?_; refine V_region (id := 7) ?_; refine vo_step (ok_move rfl rfl rfl) rfl ?_; refine vo_step (ok_move rfl rfl rfl) rfl ?_; refine vo_step (ok_skip rfl (blt_lt rfl) rfl) rfl ?_; refine vo_step (ok_skip rfl (blt_lt rfl) rfl) rfl ?_; refine vo_step (ok_pick rfl rfl rfl rfl) rfl ?_; refine vo_step (ok_move rfl rfl rfl) rfl ?_; refine vo_step (ok_skip rfl (blt_lt rfl) rfl) rfl ?_; refine vo_step (ok_pick rfl rfl rfl rfl) rfl ?_; refine vo_step (ok_move rfl rfl rfl) rfl ?_; refine vo_step (ok_move rfl rfl rfl) rfl ?_; refine vo_step (ok_move rfl rfl rfl) rfl ?_; refine vo_step (ok_skip rfl (blt_lt rfl) rfl) rfl ?_; refine vo_step (ok_pick rfl rfl rfl rfl) rfl ?_; refine vo_step (ok_move rfl rfl rfl) rfl ?_; refine vo_step (ok_skip rfl (blt_lt rfl) rfl) rfl ?_; refine vo_step (ok_pick rfl rfl rfl rfl) rfl ?_; refine vo_step (ok_pick rfl rfl rfl rfl) rfl ?_; refine vo_step (ok_move rfl rfl rfl) rfl ?_; refine vo_step (ok_move rfl rfl rfl) rfl ?_; refine vo_step (ok_not rfl rfl rfl rfl) rfl ?_; refine vo_step (ok_move rfl rfl rfl) rfl ?_; refine vo_step (ok_move rfl rfl rfl) rfl ?_; refine vo_step (ok_pick rfl rfl rfl rfl) rfl ?_; refine vo_step (ok_move rfl rfl rfl) rfl ?_; refine vo_step (ok_move rfl rfl rfl) rfl ?_; refine vo_step (ok_pick rfl rfl rfl rfl) rfl ?_; refine vo_step (ok_pick rfl rfl rfl rfl) rfl ?_; refine vo_nil ?_; refine N_seq ?_; refine V_true rfl ?_; refine V_region (id := 8) ?_; refine vo_step2 (ok_moveO (.inl rfl) rfl rfl rfl rfl) ?_; refine vo_step (ok_moves' rfl rfl rfl) rfl ?_; refine vo_step (ok_move rfl rfl rfl) rfl ?_; refine vo_step (ok_indexV L _ rfl rfl rfl rfl rfl rfl rfl (by first | omega | decide) (by assumption)) rfl ?_; refine vo_step (ok_loadPA L (vs := [_, _, _, _, _, _]) rfl rfl rfl rfl rfl ⟨_, rfl⟩) rfl ?_; refine vo_step (ok_buildSlice L rfl rfl rfl rfl rfl rfl rfl rfl rfl) rfl ?_; refine vo_step2 (ok_append L rfl rfl rfl (apd_B rfl) rfl el52 rfl rfl (by omega) (by omega)) ?_; refine vo_step2 (ok_moveO (.inr rfl) rfl rfl rfl rfl) ?_; refine vo_nil ?_; refine N_block ?_; refine N_seq ?_; refine V_region (id := 5) ?_; refine vo_step (ok_move rfl rfl rfl) rfl ?_; refine vo_step (ok_add rfl rfl rfl rfl (wrap_i64 (by omega) (by omega))) rfl ?_; refine vo_step (ok_assign rfl rfl rfl) rfl ?_; refine vo_nil ?_
        exact N_round (x := (i, r)) (i + 1, r ++ [t]) ⟨hlt, by dsimp only; rw [List.length_append, List.length_singleton]; omega, hf.symm⟩ (by dsimp only; omega) ⟨rfl, rfl, rfl, rfl, rfl, ups_snoc rfl, rfl, rfl, trivial⟩
      · have e2 : (if t ∈ y then 1 else 0 : Int) = 0 := if_neg h2
        have hp : (pickT x y true true true) t = false := by simp [pickT, h1, h2]
        rw [hp, if_neg (by decide)] at hf
        refine V_seq ?_; refine V_seq ?_; refine V_region (id := 4) ?_; refine vo_step (ok_move rfl rfl rfl) rfl ?_; refine vo_step (ok_moves' rfl rfl rfl) rfl ?_; refine vo_step (ok_lenV L rfl rfl rfl rfl) rfl ?_; refine vo_step (ok_lss rfl rfl rfl rfl (decide_eq_true (by omega))) rfl ?_; refine vo_nil ?_; refine N_seq ?_; refine V_true rfl ?_; refine V_skip ?_; refine N_seq ?_; refine V_seq ?_; refine V_block ?_; refine V_seq ?_; refine V_regionD (id := 6) [] mixed (by kernel_rfl) ?_; refine par_step (ok_moves' rfl rfl rfl) rfl ?_; refine par_step (ok_moves' rfl rfl rfl) rfl ?_; refine par_step (ok_move rfl rfl rfl) rfl ?_; refine par_step (ok_indexV L _ rfl rfl rfl rfl rfl rfl rfl (by first | omega | decide) (by assumption)) rfl ?_; refine par_step (ok_loadPA L (vs := [_, _, _, _, _, _]) rfl rfl rfl rfl rfl ⟨_, rfl⟩) rfl ?_; refine par_step (ok_callx L rfl rfl (blt_lt rfl) rfl rfl rfl (fun u H hH _ _ v1 h3 => rin_ret (l := x) (by omega) e1 hH h3)) rfl ?_; refine par_step (ok_eql rfl rfl rfl rfl (decide_eq_false (by omega))) rfl ?_; refine par_step (ok_moves' rfl rfl rfl) rfl ?_; refine par_step (ok_moves' rfl rfl rfl) rfl ?_; refine par_step (ok_move rfl rfl rfl) rfl ?_; refine par_step (ok_indexV L _ rfl rfl rfl rfl rfl rfl rfl (by first | omega | decide) (by assumption)) rfl ?_; refine par_step (ok_loadPA L (vs := [_, _, _, _, _, _]) rfl rfl rfl rfl rfl ⟨_, rfl⟩) rfl ?_; refine par_step (ok_callx L rfl rfl (blt_lt rfl) rfl rfl rfl (fun u H hH _ _ v1 h3 => rin_ret (l := y) (by omega) e2 hH h3)) rfl ?_; refine par_step (ok_eql rfl rfl rfl rfl (decide_eq_false (by omega))) rfl ?_; refine par_step (ok_assign rfl rfl rfl) rfl ?_; refine par_step (ok_assign rfl rfl rfl) rfl ?_; refine par_nil ?_; refine N_seq ?_; refine V_seq ?_; refine V_region (id := 7) ?_; refine vo_step (ok_move rfl rfl rfl) rfl ?_; refine vo_step (ok_move rfl rfl rfl) rfl ?_; refine vo_step (ok_skip rfl (blt_lt rfl) rfl) rfl ?_; refine vo_step (ok_skip rfl (blt_lt rfl) rfl) rfl ?_; refine vo_step (ok_pick rfl rfl rfl rfl) rfl ?_; refine vo_step (ok_move rfl rfl rfl) rfl ?_; refine vo_step (ok_skip rfl (blt_lt rfl) rfl) rfl ?_; refine vo_step (ok_pick rfl rfl rfl rfl) rfl ?_; refine vo_step (ok_move rfl rfl rfl) rfl ?_; refine vo_step (ok_move rfl rfl rfl) rfl ?_; refine vo_step (ok_move rfl rfl rfl) rfl ?_; refine vo_step (ok_skip rfl (blt_lt rfl) rfl) rfl ?_; refine vo_step (ok_pick rfl rfl rfl rfl) rfl ?_; refine vo_step (ok_move rfl rfl rfl) rfl ?_; refine vo_step (ok_skip rfl (blt_lt rfl) rfl) rfl ?_; refine vo_step (ok_pick rfl rfl rfl rfl) rfl ?_; refine vo_step (ok_pick rfl rfl rfl rfl) rfl ?_; refine vo_step (ok_move rfl rfl rfl) rfl ?_; refine vo_step (ok_move rfl rfl rfl) rfl ?_; refine vo_step (ok_not rfl rfl rfl rfl) rfl ?_; refine vo_step (ok_move rfl rfl rfl) rfl ?_; refine vo_step (ok_move rfl rfl rfl) rfl ?_; refine vo_step (ok_pick rfl rfl rfl rfl) rfl ?_; refine vo_step (ok_move rfl rfl rfl) rfl ?_; refine vo_step (ok_skip rfl (blt_lt rfl) rfl) rfl ?_; refine vo_step (ok_pick rfl rfl rfl rfl) rfl ?_; refine vo_step (ok_pick rfl rfl rfl rfl) rfl ?_; refine vo_nil ?_; refine N_seq ?_; refine V_false rfl ?_; refine V_skip ?_; refine N_block ?_; refine N_seq ?_; refine V_region (id := 5) ?_; refine vo_step (ok_move rfl rfl rfl) rfl ?_; refine vo_step (ok_add rfl rfl rfl rfl (wrap_i64 (by omega) (by omega))) rfl ?_; refine vo_step (ok_assign rfl rfl rfl) rfl ?_; refine vo_nil ?_
        exact N_round (x := (i, r)) (i + 1, r) ⟨hlt, by dsimp only; omega, hf.symm⟩ (by dsimp only; omega) ⟨rfl, rfl, rfl, rfl, rfl, rfl, rfl, rfl, trivial⟩
  · obtain rfl : i = l.length := by omega
    rw [List.take_length] at hr
    have hzr : ∀ t ∈ r, TZ t := fun t h => hza t (List.mem_filter.1 (by rw [← hr]; exact h)).1
    rw [← hr]
    refine V_pubR 11 rfl ?_
    refine V_seq ?_; refine V_seq ?_; refine V_region (id := 4) ?_; refine vo_step (ok_move rfl rfl rfl) rfl ?_; refine vo_step (ok_moves' rfl rfl rfl) rfl ?_; refine vo_step (ok_lenV L rfl rfl rfl rfl) rfl ?_; refine vo_step (ok_lss rfl rfl rfl rfl (decide_eq_false (by omega))) rfl ?_; refine vo_nil ?_; refine N_seq ?_; refine V_false rfl ?_; refine V_exit ?_; refine X_then ?_; refine X_then ?_; refine X_here ?_; refine N_seq ?_; refine V_seq ?_; refine V_region (id := 9) ?_; refine vo_step (ok_moves' rfl rfl rfl) rfl ?_; refine vo_step (ok_call L rfl rfl (blt_lt rfl) rfl rfl rfl SlV.mono (fun u H hH _ _ v1 h3 => rsorted_ret (by omega) hzr hH h3)) rfl ?_; refine vo_step (ok_assigns' rfl rfl rfl) rfl ?_; refine vo_nil ?_; refine N_seq ?_
    refine V_ret L (rs := [.tmp 10]) rfl (fun _ _ h => h) Since.refl fun u H hH hle => ?_
    exact fun v hv => hv
set_option maxHeartbeats 4000000 in
theorem rsome_tff {x y : List U} {fx fy : Bool} (hx : x.length ≤ 100000) (hy : y.length ≤ 100000) (zx : ∀ t ∈ x, TZ t) (zy : ∀ t ∈ y, TZ t) {vx vy : Value} {w : World} {B : Heap} (hB : B.Le (hp w)) (hvx : US x fx vx B) (hvy : US y fy vy B) :
    Ret Try.prog 78 [vx, vy, .bool true, .bool false, .bool false] w B (US (someT x y true false false) false) := by
  have lx := ups_len x
  have ly := ups_len y
  have px := ups_plain x
  have py := ups_plain y
  refine V_enter Try.func78 rfl Try.ntmps78 (Nat.le_of_ble_eq_true rfl) hB ?_
  refine V_seen 0 (US x fx) rfl SlV.mono hvx ?_
  refine V_seen 1 (US y fy) rfl SlV.mono hvy ?_
  refine V_seq ?_; refine V_region (id := 0) ?_; refine vo_step (ok_assign rfl rfl rfl) rfl ?_; refine vo_nil ?_; refine N_seq ?_; refine V_seq ?_; refine V_region (id := 1) ?_; refine vo_step (ok_assign rfl rfl rfl) rfl ?_; refine vo_nil ?_; refine N_seq ?_; refine V_seq ?_
  refine V_nilR 11 tyU 6 rfl ?_
  refine V_region (id := 2) ?_; refine vo_step (ok_moves' rfl rfl rfl) rfl ?_; refine vo_step (ok_append0 L rfl rfl rfl (apd_V rfl) rfl el52 lx px (by omega) (by omega)) rfl ?_; refine vo_step (ok_moves' rfl rfl rfl) rfl ?_; refine vo_step2 (ok_append L rfl rfl rfl (apd_V rfl) rfl el52 ly py (by omega) (by omega)) ?_; refine vo_step2 (ok_moveO (.inr rfl) rfl rfl rfl rfl) ?_; refine vo_nil ?_; refine N_seq ?_; refine V_seq ?_; refine V_seq ?_
  refine V_pubR 12 (ups_cat rfl) ?_
  have hal : (x ++ y).length ≤ 200000 := by rw [List.length_append]; omega
  have hza : ∀ t ∈ x ++ y, TZ t := fun t ht => (List.mem_append.1 ht).elim (zx t) (zy t)
  unfold someT
  generalize hall : x ++ y = l at hal hza
  refine V_region (id := 3) ?_; refine vo_step (ok_assign rfl rfl rfl) rfl ?_; refine vo_nil ?_; refine N_seq ?_; refine V_block ?_
  refine V_loop (fun s : Nat × List U => [(0, .sat (US x fx)), (1, .sat (US y fy)), (2, .is (.bool true)), (3, .is (.bool false)), (4, .is (.bool false)), (11, .own (SlR tyU 6 s.2.length (s.2.flatMap ucs))), (12, .sat (US l false)), (13, .is (.int .i64 s.1))])
    (fun s => s.1 ≤ l.length ∧ s.2.length ≤ s.1 ∧ s.2 = (l.take s.1).filter (pickT x y true false false)) (fun s => l.length - s.1) (0, []) ⟨Nat.zero_le _, Nat.le_refl _, rfl⟩ ⟨rfl, rfl, rfl, rfl, rfl, rfl, rfl, rfl, trivial⟩ ?_
  rintro ⟨i, r⟩ ⟨hi, hrl, hr⟩
  dsimp only at hi hrl hr ⊢
  by_cases hlt : i < l.length
  · obtain ⟨t, ht⟩ := get_some hlt
    have hc := us_at ht
    have hf := filter_snoc ht hr
    by_cases h1 : t ∈ x
    · have e1 : (if t ∈ x then 1 else 0 : Int) = 1 := if_pos h1
      by_cases h2 : t ∈ y
      · have e2 : (if t ∈ y then 1 else 0 : Int) = 1 := if_pos h2
        have hp : (pickT x y true false false) t = false := by simp [pickT, h1, h2]
        rw [hp, if_neg (by decide)] at hf
        refine V_seq ?_; refine V_seq ?_; refine V_region (id := 4) ?_; refine vo_step (ok_move rfl rfl rfl) rfl ?_; refine vo_step (ok_moves' rfl rfl rfl) rfl ?_; refine vo_step (ok_lenV L rfl rfl rfl rfl) rfl ?_; refine vo_step (ok_lss rfl rfl rfl rfl (decide_eq_true (by omega))) rfl ?_; refine vo_nil ?_; refine N_seq ?_; refine V_true rfl ?_; refine V_skip ?_; refine N_seq ?_; refine V_seq ?_; refine V_block ?_; refine V_seq ?_; refine V_regionD (id := 6) [] mixed (by kernel_rfl) ?_; refine par_step (ok_moves' rfl rfl rfl) rfl ?_; refine par_step (ok_moves' rfl rfl rfl) rfl ?_; refine par_step (ok_move rfl rfl rfl) rfl ?_; refine par_step (ok_indexV L _ rfl rfl rfl rfl rfl rfl rfl (by first | omega | decide) (by assumption)) rfl ?_; refine par_step (ok_loadPA L (vs := [_, _, _, _, _, _]) rfl rfl rfl rfl rfl ⟨_, rfl⟩) rfl ?_; refine par_step (ok_callx L rfl rfl (blt_lt rfl) rfl rfl rfl (fun u H hH _ _ v1 h3 => rin_ret (l := x) (by omega) e1 hH h3)) rfl ?_; refine par_step (ok_eql rfl rfl rfl rfl (decide_eq_true (by omega))) rfl ?_; refine par_step (ok_moves' rfl rfl rfl) rfl ?_; refine par_step (ok_moves' rfl rfl rfl) rfl ?_; refine par_step (ok_move rfl rfl rfl) rfl ?_; refine par_step (ok_indexV L _ rfl rfl rfl rfl rfl rfl rfl (by first | omega | decide) (by assumption)) rfl ?_; refine par_step (ok_loadPA L (vs := [_, _, _, _, _, _]) rfl rfl rfl rfl rfl ⟨_, rfl⟩) rfl ?_; refine par_step (ok_callx L rfl rfl (blt_lt rfl) rfl rfl rfl (fun u H hH _ _ v1 h3 => rin_ret (l := y) (by omega) e2 hH h3)) rfl ?_; refine par_step (ok_eql rfl rfl rfl rfl (decide_eq_true (by omega))) rfl ?_; refine par_step (ok_assign rfl rfl rfl) rfl ?_; refine par_step (ok_assign rfl rfl rfl) rfl ?_; refine par_nil ?_; refine N_seq ?_; refine V_seq ?_; refine V_region (id := 7) ?_; refine vo_step (ok_move rfl rfl rfl) rfl ?_; refine vo_step (ok_move rfl rfl rfl) rfl ?_; refine vo_step (ok_move rfl rfl rfl) rfl ?_; refine vo_step (ok_not rfl rfl rfl rfl) rfl ?_; refine vo_step (ok_pick rfl rfl rfl rfl) rfl ?_; refine vo_step (ok_move rfl rfl rfl) rfl ?_; refine vo_step (ok_skip rfl (blt_lt rfl) rfl) rfl ?_; refine vo_step (ok_pick rfl rfl rfl rfl) rfl ?_; refine vo_step (ok_move rfl rfl rfl) rfl ?_; refine vo_step (ok_move rfl rfl rfl) rfl ?_; refine vo_step (ok_move rfl rfl rfl) rfl ?_; refine vo_step (ok_move rfl rfl rfl) rfl ?_; refine vo_step (ok_pick rfl rfl rfl rfl) rfl ?_; refine vo_step (ok_move rfl rfl rfl) rfl ?_; refine vo_step (ok_move rfl rfl rfl) rfl ?_; refine vo_step (ok_pick rfl rfl rfl rfl) rfl ?_; refine vo_step (ok_pick rfl rfl rfl rfl) rfl ?_; refine vo_step (ok_move rfl rfl rfl) rfl ?_; refine vo_step (ok_move rfl rfl rfl) rfl ?_; refine vo_step (ok_not rfl rfl rfl rfl) rfl ?_; refine vo_step (ok_move rfl rfl rfl) rfl ?_; refine vo_step (ok_skip rfl (blt_lt rfl) rfl) rfl ?_; refine vo_step (ok_pick rfl rfl rfl rfl) rfl ?_; refine vo_step (ok_move rfl rfl rfl) rfl ?_; refine vo_step (ok_skip rfl (blt_lt rfl) rfl) rfl ?_; refine vo_step (ok_pick rfl rfl rfl rfl) rfl ?_; refine vo_step (ok_pick rfl rfl rfl rfl) rfl ?_; refine vo_nil ?_; refine N_seq ?_; refine V_false rfl ?_; refine V_skip ?_; refine N_block ?_; refine N_seq ?_; refine V_region (id := 5) ?_; refine vo_step (ok_move rfl rfl rfl) rfl ?_; refine vo_step (ok_add rfl rfl rfl rfl (wrap_i64 (by omega) (by omega))) rfl ?_; refine vo_step (ok_assign rfl rfl rfl) rfl ?_; refine vo_nil ?_
        exact N_round (x := (i, r)) (i + 1, r) ⟨hlt, by dsimp only; omega, hf.symm⟩ (by dsimp only; omega) ⟨rfl, rfl, rfl, rfl, rfl, rfl, rfl, rfl, trivial⟩
      · have e2 : (if t ∈ y then 1 else 0 : Int) = 0 := if_neg h2
        have hp : (pickT x y true false false) t = true := by simp [pickT, h1, h2]
        rw [hp, if_pos rfl] at hf
        refine V_seq ?_; refine V_seq ?_; refine V_region (id := 4) ?_; refine vo_step (ok_move rfl rfl rfl) rfl ?_; refine vo_step (ok_moves' rfl rfl rfl) rfl ?_; refine vo_step (ok_lenV L rfl rfl rfl rfl) rfl ?_; refine vo_step (ok_lss rfl rfl rfl rfl (decide_eq_true (by omega))) rfl ?_; refine vo_nil ?_; refine N_seq ?_; refine V_true rfl ?_; refine V_skip ?_; refine N_seq ?_; refine V_seq ?_; refine V_block ?_; refine V_seq ?_; refine V_regionD (id := 6) [] mixed (by kernel_rfl) ?_; refine par_step (ok_moves' rfl rfl rfl) rfl ?_; refine par_step (ok_moves' rfl rfl rfl) rfl ?_; refine par_step (ok_move rfl rfl rfl) rfl ?_; refine par_step (ok_indexV L _ rfl rfl rfl rfl rfl rfl rfl (by first | omega | decide) (by assumption)) rfl ?_; refine par_step (ok_loadPA L (vs := [_, _, _, _, _, _]) rfl rfl rfl rfl rfl ⟨_, rfl⟩) rfl ?_; refine par_step (ok_callx L rfl rfl (blt_lt rfl) rfl rfl rfl (fun u H hH _ _ v1 h3 => rin_ret (l := x) (by omega) e1 hH h3)) rfl ?_; refine par_step (ok_eql rfl rfl rfl rfl (decide_eq_true (by omega))) rfl ?_; refine par_step (ok_moves' rfl rfl rfl) rfl ?_; refine par_step (ok_moves' rfl rfl rfl) rfl ?_; refine par_step (ok_move rfl rfl rfl) rfl ?_; refine par_step (ok_indexV L _ rfl rfl rfl rfl rfl rfl rfl (by first | omega | decide) (by assumption)) rfl ?_; refine par_step (ok_loadPA L (vs := [_, _, _, _, _, _]) rfl rfl rfl rfl rfl ⟨_, rfl⟩) rfl ?_; refine par_step (ok_callx L rfl rfl (blt_lt rfl) rfl rfl rfl (fun u H hH _ _ v1 h3 => rin_ret (l := y) (by omega) e2 hH h3)) rfl ?_; refine par_step (ok_eql rfl rfl rfl rfl (decide_eq_false (by omega))) rfl ?_; refine par_step (ok_assign rfl rfl rfl) rfl ?_; refine par_step (ok_assign rfl rfl rfl) rfl ?_; refine par_nil ?_; refine N_seq ?_; refine V_seq ?_; refine V_region (id := 7) ?_; refine vo_step (ok_move rfl rfl rfl) rfl ?_; refine vo_step (ok_move rfl rfl rfl) rfl ?_; refine vo_step (ok_move rfl rfl rfl) rfl ?_; refine vo_step (ok_not rfl rfl rfl rfl) rfl ?_; refine vo_step (ok_pick rfl rfl rfl rfl) rfl ?_; refine vo_step (ok_move rfl rfl rfl) rfl ?_; refine vo_step (ok_move rfl rfl rfl) rfl ?_; refine vo_step (ok_pick rfl rfl rfl rfl) rfl ?_; refine vo_step (ok_move rfl rfl rfl) rfl ?_; refine vo_step (ok_skip rfl (blt_lt rfl) rfl) rfl ?_; refine vo_step (ok_skip rfl (blt_lt rfl) rfl) rfl ?_; refine vo_step (ok_skip rfl (blt_lt rfl) rfl) rfl ?_; refine vo_step (ok_skip rfl (blt_lt rfl) rfl) rfl ?_; refine vo_step (ok_skip rfl (blt_lt rfl) rfl) rfl ?_; refine vo_step (ok_skip rfl (blt_lt rfl) rfl) rfl ?_; refine vo_step (ok_skip rfl (blt_lt rfl) rfl) rfl ?_; refine vo_step (ok_pick rfl rfl rfl rfl) rfl ?_; refine vo_step (ok_move rfl rfl rfl) rfl ?_; refine vo_step (ok_skip rfl (blt_lt rfl) rfl) rfl ?_; refine vo_step (ok_skip rfl (blt_lt rfl) rfl) rfl ?_; refine vo_step (ok_skip rfl (blt_lt rfl) rfl) rfl ?_; refine vo_step (ok_skip rfl (blt_lt rfl) rfl) rfl ?_; refine vo_step (ok_skip rfl (blt_lt rfl) rfl) rfl ?_; refine vo_step (ok_skip rfl (blt_lt rfl) rfl) rfl ?_; refine vo_step (ok_skip rfl (blt_lt rfl) rfl) rfl ?_; refine vo_step (ok_skip rfl (blt_lt rfl) rfl) rfl ?_; refine vo_step (ok_pick rfl rfl rfl rfl) rfl ?_; refine vo_nil ?_; refine N_seq ?_; refine V_true rfl ?_; refine V_region (id := 8) ?_; refine vo_step2 (ok_moveO (.inl rfl) rfl rfl rfl rfl) ?_; refine vo_step (ok_moves' rfl rfl rfl) rfl ?_; refine vo_step (ok_move rfl rfl rfl) rfl ?_; refine vo_step (ok_indexV L _ rfl rfl rfl rfl rfl rfl rfl (by first | omega | decide) (by assumption)) rfl ?_; refine vo_step (ok_loadPA L (vs := [_, _, _, _, _, _]) rfl rfl rfl rfl rfl ⟨_, rfl⟩) rfl ?_; refine vo_step (ok_buildSlice L rfl rfl rfl rfl rfl rfl rfl rfl rfl) rfl ?_; refine vo_step2 (ok_append L rfl rfl rfl (apd_B rfl) rfl el52 rfl rfl (by omega) (by omega)) ?_; refine vo_step2 (ok_moveO (.inr rfl) rfl rfl rfl rfl) ?_; refine vo_nil ?_; refine N_block ?_; refine N_seq ?_; refine V_region (id := 5) ?_; refine vo_step (ok_move rfl rfl rfl) rfl ?_; refine vo_step (ok_add rfl rfl rfl rfl (wrap_i64 (by omega) (by omega))) rfl ?_; refine vo_step (ok_assign rfl rfl rfl) rfl ?_; refine vo_nil ?_
        exact N_round (x := (i, r)) (i + 1, r ++ [t]) ⟨hlt, by dsimp only; rw [List.length_append, List.length_singleton]; omega, hf.symm⟩ (by dsimp only; omega) ⟨rfl, rfl, rfl, rfl, rfl, ups_snoc rfl, rfl, rfl, trivial⟩
    · have e1 : (if t ∈ x then 1 else 0 : Int) = 0 := if_neg h1
      by_cases h2 : t ∈ y
      · have e2 : (if t ∈ y then 1 else 0 : Int) = 1 := if_pos h2
        have hp : (pickT x y true false false) t = false := by simp [pickT, h1, h2]
        rw [hp, if_neg (by decide)] at hf
        refine V_seq ?_; refine V_seq ?_; refine V_region (id := 4) ?_; refine vo_step (ok_move rfl rfl rfl) rfl ?_; refine vo_step (ok_moves' rfl rfl rfl) rfl ?_; refine vo_step (ok_lenV L rfl rfl rfl rfl) rfl ?_; refine vo_step (ok_lss rfl rfl rfl rfl (decide_eq_true (by omega))) rfl ?_; refine vo_nil ?_; refine N_seq ?_; refine V_true rfl ?_; refine V_skip ?_; refine N_seq ?_; refine V_seq ?_; refine V_block ?_; refine V_seq ?_; refine V_regionD (id := 6) [] mixed (by kernel_rfl) ?_; refine par_step (ok_moves' rfl rfl rfl) rfl ?_; refine par_step (ok_moves' rfl rfl rfl) rfl ?_; refine par_step (ok_move rfl rfl rfl) rfl ?_; refine par_step (ok_indexV L _ rfl rfl rfl rfl rfl rfl rfl (by first | omega | decide) (by assumption)) rfl ?_; refine par_step (ok_loadPA L (vs := [_, _, _, _, _, _]) rfl rfl rfl rfl rfl ⟨_, rfl⟩) rfl ?_; refine par_step (ok_callx L rfl rfl (blt_lt rfl) rfl rfl rfl (fun u H hH _ _ v1 h3 => rin_ret (l := x) (by omega) e1 hH h3)) rfl ?_; refine par_step (ok_eql rfl rfl rfl rfl (decide_eq_false (by omega))) rfl ?_; refine par_step (ok_moves' rfl rfl rfl) rfl ?_; refine par_step (ok_moves' rfl rfl rfl) rfl ?_; refine par_step (ok_move rfl rfl rfl) rfl ?_; refine par_step (ok_indexV L _ rfl rfl rfl rfl rfl rfl rfl (by first | omega | decide) (by assumption)) rfl ?_; refine par_step (ok_loadPA L (vs := [_, _, _, _, _, _]) rfl rfl rfl rfl rfl ⟨_, rfl⟩) rfl ?_; refine par_step (ok_callx L rfl rfl (blt_lt rfl) rfl rfl rfl (fun u H hH _ _ v1 h3 => rin_ret (l := y) (by omega) e2 hH h3)) rfl ?_; refine par_step (ok_eql rfl rfl rfl rfl (decide_eq_true (by omega))) rfl ?_; refine par_step (ok_assign rfl rfl rfl) rfl ?_; refine par_step (ok_assign rfl rfl rfl) rfl ?_; refine par_nil ?_; refine N_seq ?_; refine V_seq ?_; refine V_region (id := 7) ?_; refine vo_step (ok_move rfl rfl rfl) rfl ?_; refine vo_step (ok_move rfl rfl rfl) rfl ?_; refine vo_step (ok_skip rfl (blt_lt rfl) rfl) rfl ?_; refine vo_step (ok_skip rfl (blt_lt rfl) rfl) rfl ?_; refine vo_step (ok_pick rfl rfl rfl rfl) rfl ?_; refine vo_step (ok_move rfl rfl rfl) rfl ?_; refine vo_step (ok_skip rfl (blt_lt rfl) rfl) rfl ?_; refine vo_step (ok_pick rfl rfl rfl rfl) rfl ?_; refine vo_step (ok_move rfl rfl rfl) rfl ?_; refine vo_step (ok_move rfl rfl rfl) rfl ?_; refine vo_step (ok_move rfl rfl rfl) rfl ?_; refine vo_step (ok_skip rfl (blt_lt rfl) rfl) rfl ?_; refine vo_step (ok_pick rfl rfl rfl rfl) rfl ?_; refine vo_step (ok_move rfl rfl rfl) rfl ?_; refine vo_step (ok_skip rfl (blt_lt rfl) rfl) rfl ?_; refine vo_step (ok_pick rfl rfl rfl rfl) rfl ?_; refine vo_step (ok_pick rfl rfl rfl rfl) rfl ?_; refine vo_step (ok_move rfl rfl rfl) rfl ?_; refine vo_step (ok_move rfl rfl rfl) rfl ?_; refine vo_step (ok_not rfl rfl rfl rfl) rfl ?_; refine vo_step (ok_move rfl rfl rfl) rfl ?_; refine vo_step (ok_move rfl rfl rfl) rfl ?_; refine vo_step (ok_pick rfl rfl rfl rfl) rfl ?_; refine vo_step (ok_move rfl rfl rfl) rfl ?_; refine vo_step (ok_move rfl rfl rfl) rfl ?_; refine vo_step (ok_pick rfl rfl rfl rfl) rfl ?_; refine vo_step (ok_pick rfl rfl rfl rfl) rfl ?_; refine vo_nil ?_; refine N_seq ?_; refine V_false rfl ?_; refine V_skip ?_; refine N_block ?_; refine N_seq ?_; refine V_region (id := 5) ?_; refine vo_step (ok_move rfl rfl rfl) rfl ?_; refine vo_step (ok_add rfl rfl rfl rfl (wrap_i64 (by omega) (by omega))) rfl ?_; refine vo_step (ok_assign rfl rfl rfl) rfl ?_; refine vo_nil ?_
        exact N_round (x := (i, r)) (i + 1, r) ⟨hlt, by dsimp only; omega, hf.symm⟩ (by dsimp only; omega) ⟨rfl, rfl, rfl, rfl, rfl, rfl, rfl, rfl, trivial⟩
      · have e2 : (if t ∈ y then 1 else 0 : Int) = 0 := if_neg h2
        have hp : (pickT x y true false false) t = false := by simp [pickT, h1, h2]
        rw [hp, if_neg (by decide)] at hf
        refine V_seq ?_; refine V_seq ?_; refine V_region (id := 4) ?_; refine vo_step (ok_move rfl rfl rfl) rfl ?_; refine vo_step (ok_moves' rfl rfl rfl) rfl ?_; refine vo_step (ok_lenV L rfl rfl rfl rfl) rfl ?_; refine vo_step (ok_lss rfl rfl rfl rfl (decide_eq_true (by omega))) rfl ?_; refine vo_nil ?_; refine N_seq ?_; refine V_true rfl ?_; refine V_skip ?_; refine N_seq ?_; refine V_seq ?_; refine V_block ?_; refine V_seq ?_; refine V_regionD (id := 6) [] mixed (by kernel_rfl) ?_; refine par_step (ok_moves' rfl rfl rfl) rfl ?_; refine par_step (ok_moves' rfl rfl rfl) rfl ?_; refine par_step (ok_move rfl rfl rfl) rfl ?_; refine par_step (ok_indexV L _ rfl rfl rfl rfl rfl rfl rfl (by first | omega | decide) (by assumption)) rfl ?_; refine par_step (ok_loadPA L (vs := [_, _, _, _, _, _]) rfl rfl rfl rfl rfl ⟨_, rfl⟩) rfl ?_; refine par_step (ok_callx L rfl rfl (blt_lt rfl) rfl rfl rfl (fun u H hH _ _ v1 h3 => rin_ret (l := x) (by omega) e1 hH h3)) rfl ?_; refine par_step (ok_eql rfl rfl rfl rfl (decide_eq_false (by omega))) rfl ?_; refine par_step (ok_moves' rfl rfl rfl) rfl ?_; refine par_step (ok_moves' rfl rfl rfl) rfl ?_; refine par_step (ok_move rfl rfl rfl) rfl ?_; refine par_step (ok_indexV L _ rfl rfl rfl rfl rfl rfl rfl (by first | omega | decide) (by assumption)) rfl ?_; refine par_step (ok_loadPA L (vs := [_, _, _, _, _, _]) rfl rfl rfl rfl rfl ⟨_, rfl⟩) rfl ?_; refine par_step (ok_callx L rfl rfl (blt_lt rfl) rfl rfl rfl (fun u H hH _ _ v1 h3 => rin_ret (l := y) (by omega) e2 hH h3)) rfl ?_; refine par_step (ok_eql rfl rfl rfl rfl (decide_eq_false (by omega))) rfl ?_; refine par_step (ok_assign rfl rfl rfl) rfl ?_; refine par_step (ok_assign rfl rfl rfl) rfl ?_; refine par_nil ?_; refine N_seq ?_; refine V_seq ?_; refine V_region (id := 7) ?_; refine vo_step (ok_move rfl rfl rfl) rfl ?_; refine vo_step (ok_move rfl rfl rfl) rfl ?_; refine vo_step (ok_skip rfl (blt_lt rfl) rfl) rfl ?_; refine vo_step (ok_skip rfl (blt_lt rfl) rfl) rfl ?_; refine vo_step (ok_pick rfl rfl rfl rfl) rfl ?_; refine vo_step (ok_move rfl rfl rfl) rfl ?_; refine vo_step (ok_skip rfl (blt_lt rfl) rfl) rfl ?_; refine vo_step (ok_pick rfl rfl rfl rfl) rfl ?_; refine vo_step (ok_move rfl rfl rfl) rfl ?_; refine vo_step (ok_move rfl rfl rfl) rfl ?_; refine vo_step (ok_move rfl rfl rfl) rfl ?_; refine vo_step (ok_skip rfl (blt_lt rfl) rfl) rfl ?_; refine vo_step (ok_pick rfl rfl rfl rfl) rfl ?_; refine vo_step (ok_move rfl rfl rfl) rfl ?_; refine vo_step (ok_skip rfl (blt_lt rfl) rfl) rfl ?_; refine vo_step (ok_pick rfl rfl rfl rfl) rfl ?_; refine vo_step (ok_pick rfl rfl rfl rfl) rfl ?_; refine vo_step (ok_move rfl rfl rfl) rfl ?_; refine vo_step (ok_move rfl rfl rfl) rfl ?_; refine vo_step (ok_not rfl rfl rfl rfl) rfl ?_; refine vo_step (ok_move rfl rfl rfl) rfl ?_; refine vo_step (ok_move rfl rfl rfl) rfl ?_; refine vo_step (ok_pick rfl rfl rfl rfl) rfl ?_; refine vo_step (ok_move rfl rfl rfl) rfl ?_; refine vo_step (ok_skip rfl (blt_lt rfl) rfl) rfl ?_; refine vo_step (ok_pick rfl rfl rfl rfl) rfl ?_; refine vo_step (ok_pick rfl rfl rfl rfl) rfl ?_; refine vo_nil ?_; refine N_seq ?_; refine V_false rfl ?_; refine V_skip ?_; refine N_block ?_; refine N_seq ?_; refine V_region (id := 5) ?_; refine vo_step (ok_move rfl rfl rfl) rfl ?_; refine vo_step (ok_add rfl rfl rfl rfl (wrap_i64 (by omega) (by omega))) rfl ?_; refine vo_step (ok_assign rfl rfl rfl) rfl ?_; refine vo_nil ?_
        exact N_round (x := (i, r)) (i + 1, r) ⟨hlt, by dsimp only; omega, hf.symm⟩ (by dsimp only; omega) ⟨rfl, rfl, rfl, rfl, rfl, rfl, rfl, rfl, trivial⟩
  · obtain rfl : i = l.length := by omega
    rw [List.take_length] at hr
    have hzr : ∀ t ∈ r, TZ t := fun t h => hza t (List.mem_filter.1 (by rw [← hr]; exact h)).1
    rw [← hr]
    refine V_pubR 11 rfl ?_
    refine V_seq ?_; refine V_seq ?_; refine V_region (id := 4) ?_; refine vo_step (ok_move rfl rfl rfl) rfl ?_; refine vo_step (ok_moves' rfl rfl rfl) rfl ?_; refine vo_step (ok_lenV L rfl rfl rfl rfl) rfl ?_; refine vo_step (ok_lss rfl rfl rfl rfl (decide_eq_false (by omega))) rfl ?_; refine vo_nil ?_; refine N_seq ?_; refine V_false rfl ?_; refine V_exit ?_; refine X_then ?_; refine X_then ?_; refine X_here ?_; refine N_seq ?_; refine V_seq ?_; refine V_region (id := 9) ?_; refine vo_step (ok_moves' rfl rfl rfl) rfl ?_; refine vo_step (ok_call L rfl rfl (blt_lt rfl) rfl rfl rfl SlV.mono (fun u H hH _ _ v1 h3 => rsorted_ret (by omega) hzr hH h3)) rfl ?_; refine vo_step (ok_assigns' rfl rfl rfl) rfl ?_; refine vo_nil ?_; refine N_seq ?_
    refine V_ret L (rs := [.tmp 10]) rfl (fun _ _ h => h) Since.refl fun u H hH hle => ?_
    exact fun v hv => hv
end Go.V.L2
/- The walks of sets (chapter 6): lists of tuples. -/
namespace Go.V.L6
open Go.Proofs Go.RowKit Go.V Go.V.L2 Go.V.L3
theorem flat_keys (N : List (U × Unit)) : UT.flat N = (kS N).flatMap ucs := by
  unfold UT.flat kS
  rw [List.flatMap_map]
  rfl
theorem rangeL_nat {t : Tr U Unit} {r k : Nat} (hk : k ≤ t.size) : kS (UT.rangeL t (r : Int) (k : Int)) = ((kS t.list).take k).drop r := by
  unfold UT.rangeL
  have h0 : max (r : Int) 0 = (r : Int) := by omega
  have h1 : min (k : Int) (t.size : Int) = (k : Int) := by omega
  rw [h0, h1]
  by_cases h : (r : Int) ≥ k
  · rw [if_pos h, List.drop_eq_nil_of_le (by rw [List.length_take]; omega)]
    rfl
  · rw [if_neg h, Tr.prs_list]
    have := cutI_nat r k t.list 0
    rw [show ((0 : Nat) : Int) = 0 from rfl] at this
    rw [this, Nat.sub_zero, Nat.sub_zero]
    unfold kS
    rw [List.map_drop, List.map_take]
attribute [local irreducible] V N X VO Par StepOK Has Ret RetL RetO Src
set_option maxHeartbeats 1000000 in
theorem ilist_retO {fv : Value} {p : Option Addr} {t : Tr U Unit} {f e : Int} {M : List U} (hM : kS (UT.rangeL t f e) = M) (hs : t.size ≤ 100000) {w : World} {B : Heap} (hB : B.Le (hp w)) (ht : UT.TA t (.pointer p) B) :
    RetO Try.prog 69 [.agg #[fv, .pointer p], .int .i64 f, .int .i64 e] w B (SlE tyU 6 M.length (M.flatMap ucs)) := by
  obtain ⟨N, hN⟩ : ∃ N, UT.rangeL t f e = N := ⟨_, rfl⟩
  rw [hN] at hM
  have hfl := flat_keys N
  have hNM : N.length = M.length := by rw [← hM]; simp
  have hlen : M.length ≤ 100000 := by
    rw [← hNM, ← hN]
    unfold UT.rangeL
    split
    · exact Nat.zero_le _
    · exact Nat.le_trans (Tr.prs_length_le _ _ _ _) hs
  have hat : ∀ {k : Nat} {g : U}, M[k]? = some g → ((UT.flat N).drop (k * 6)).take 6 = [.string g.1.1.1, .string g.1.1.2, .string g.1.2, .string g.2.1.1, .string g.2.1.2, .string g.2.2] := fun {k g} h => by
    rw [hfl, hM]; exact us_at h
  clear hM hfl
  refine V_enterO Try.func69 rfl Try.ntmps69 (Nat.le_of_ble_eq_true rfl) hB ?_
  refine V_seq ?_; refine V_region (id := 0) ?_; refine vo_step (ok_box rfl rfl rfl rfl) rfl ?_; refine vo_step (ok_assign rfl rfl rfl) rfl ?_; refine vo_nil ?_; refine N_seq ?_; refine V_seq ?_; refine V_region (id := 1) ?_; refine vo_step (ok_fieldAt L rfl rfl rfl rfl) rfl ?_; refine vo_step (ok_loadA L (vs := [_, _]) (src_at rfl) rfl rfl rfl rfl ⟨_, rfl⟩) rfl ?_; refine vo_step (ok_move rfl rfl rfl) rfl ?_; refine vo_step (ok_move rfl rfl rfl) rfl ?_; refine vo_step (ok_call (φ := UT.PS N true) L rfl rfl (blt_lt rfl) rfl rfl rfl UT.PS.mono (fun u H hH hle _ => UT.range_m _ _ hH (⟨_, rfl, ht.le hle⟩) (by omega) hN)) rfl ?_; refine vo_step (ok_assigns' rfl rfl rfl) rfl ?_; refine vo_nil ?_; refine N_seq ?_; refine V_seq ?_; refine V_region (id := 2) ?_; refine vo_step (ok_moves' rfl rfl rfl) rfl ?_; refine vo_step (ok_lenV L rfl rfl rfl rfl) rfl ?_; refine vo_step (ok_makeN L _ rfl rfl rfl el52 rfl rfl rfl rfl (by omega) (by simp only [maxLen]; omega)) rfl ?_; refine vo_step2 (ok_moveO (.inr rfl) rfl rfl rfl rfl) ?_; refine vo_nil ?_; refine N_seq ?_; refine V_seq ?_; refine V_seq ?_; refine V_region (id := 3) ?_; refine vo_step (ok_moves' rfl rfl rfl) rfl ?_; refine vo_step (ok_lenV L rfl rfl rfl rfl) rfl ?_; refine vo_step (ok_move rfl rfl rfl) rfl ?_; refine vo_nil ?_; refine N_seq ?_; refine V_block ?_
  have hzl := zsL_length (P := Try.prog) (k := N.length * 6) el52
  generalize zsL Try.prog tyU (N.length * 6) = zs0 at hzl
  rw [hNM] at hzl ⊢
  refine V_loop (fun s : Nat × List Value => [(7, .sat (UT.PS N true)), (8, .own (SlE tyU 6 M.length ((M.take s.1).flatMap ucs ++ s.2))), (19, .is (.int .i64 M.length)), (20, .is (.int .i64 s.1))])
    (fun s => s.1 ≤ M.length ∧ s.2.length = (M.length - s.1) * 6) (fun s => M.length - s.1) (0, zs0) ⟨Nat.zero_le _, hzl⟩ ⟨rfl, rfl, rfl, rfl, trivial⟩ ?_
  rintro ⟨k, zs⟩ ⟨hk, hz⟩
  dsimp only at hk hz ⊢
  by_cases hlt : k < M.length
  · obtain ⟨g, hg⟩ := get_some hlt
    have hc := hat hg
    have hlN : k < N.length := by omega
    have ht1 : M.take (k + 1) = M.take k ++ [g] := by rw [List.take_add_one, hg]; rfl
    have hr : List.take (0 + k * 6) ((M.take k).flatMap ucs ++ zs) ++ (ucs g ++ List.drop (0 + k * 6 + 6) ((M.take k).flatMap ucs ++ zs)) = (M.take (k + 1)).flatMap ucs ++ zs.drop 6 := by
      rw [ht1, Nat.zero_add]
      exact set_at ucs_len (M.take k) k M.length zs g (by rw [List.length_take]; omega) hz hlt
    have hlen' : ((M.take (k + 1)).flatMap ucs ++ zs.drop 6).length = M.length * 6 := by
      rw [List.length_append, ups_len, List.length_take, List.length_drop, hz]; omega
    refine V_boxE 8 (by omega) rfl fun b hb => ?_
    have hle1 : 0 + k * 6 + 6 ≤ ((M.take k).flatMap ucs ++ zs).length := by rw [hb.1]; omega
    refine V_seq ?_; refine V_region (id := 4) ?_; refine vo_step (ok_lss rfl rfl rfl rfl (decide_eq_true (by omega))) rfl ?_; refine vo_nil ?_; refine N_seq ?_; refine V_seq ?_; refine V_true rfl ?_; refine V_skip ?_; refine N_seq ?_; refine V_seq ?_; refine V_block ?_; refine V_seq ?_; refine V_region (id := 5) ?_; refine vo_step (ok_move rfl rfl rfl) rfl ?_; refine vo_step (ok_assign rfl rfl rfl) rfl ?_; refine vo_nil ?_; refine N_seq ?_; refine V_region (id := 6) ?_; refine vo_step (ok_move rfl rfl rfl) rfl ?_; refine vo_step (ok_move rfl rfl rfl) rfl ?_; refine vo_step (ok_moves' rfl rfl rfl) rfl ?_; refine vo_step (ok_move rfl rfl rfl) rfl ?_; refine vo_step (ok_indexV L _ rfl rfl rfl rfl rfl rfl rfl (by first | omega | decide) (by assumption)) rfl ?_; refine vo_step (ok_fieldAP L rfl rfl rfl rfl) rfl ?_; refine vo_step (ok_loadPA L (vs := [_, _, _, _, _, _]) rfl rfl rfl rfl rfl ⟨_, rfl⟩) rfl ?_; refine vo_step (ok_indexAt L _ rfl rfl rfl rfl rfl rfl rfl (by omega)) rfl ?_; refine box_store L (O1 := []) (cs' := (M.take (k + 1)).flatMap ucs ++ zs.drop 6) rfl rfl rfl rfl rfl rfl (Nat.ble_eq_true_of_le hle1) rfl hr ?_; refine vo_nil ?_; refine N_block ?_; refine N_seq ?_
    refine V_unboxE (s := 6) 8 [] rfl rfl hlen' hb.2 ?_
    refine V_region (id := 7) ?_; refine vo_step (ok_add rfl rfl rfl rfl (wrap_i64 (by omega) (by omega))) rfl ?_; refine vo_step (ok_move rfl rfl rfl) rfl ?_; refine vo_nil ?_
    exact N_round (x := (k, zs)) (k + 1, zs.drop 6) ⟨hlt, by dsimp only; rw [List.length_drop, hz]; omega⟩ (by dsimp only; omega) ⟨rfl, rfl, rfl, rfl, trivial⟩
  · obtain rfl : k = M.length := by omega
    have hzn : zs = [] := List.eq_nil_of_length_eq_zero (by rw [hz]; omega)
    rw [hzn, List.append_nil, List.take_length]
    refine V_seq ?_; refine V_region (id := 4) ?_; refine vo_step (ok_lss rfl rfl rfl rfl (decide_eq_false (by omega))) rfl ?_; refine vo_nil ?_; refine N_seq ?_; refine V_seq ?_; refine V_false rfl ?_; refine V_exit ?_; refine X_then ?_; refine X_then ?_; refine X_here ?_; refine N_seq ?_; refine V_seq ?_; refine V_region (id := 8) ?_; refine vo_step2 (ok_moveO (.inl rfl) rfl rfl rfl rfl) ?_; refine vo_step2 (ok_moveO (.inr rfl) rfl rfl rfl rfl) ?_; refine vo_nil ?_; refine N_seq ?_
    exact V_retO rfl (fun _ _ h => h) Since.refl rfl
end Go.V.L6
/- The walks of sets (chapter 6): what is asked of a set. -/
namespace Go.V.L6
open Go.Proofs Go.RowKit Go.V Go.V.L2 Go.V.L3
attribute [local irreducible] V N X VO Par StepOK Has Ret RetL RetO Src
theorem SetV.trees {l : List U} {v : Value} {B : Heap} (hv : SetV l v B) : ∃ f p k q t u, v = .agg #[f, .pointer p, k, .pointer q] ∧ TS l t u ∧ UT.TA t (.pointer p) B ∧ UT.TA u (.pointer q) B := by
  obtain ⟨p, q, t, u, hT, ht, hu, rfl | ⟨rfl, rfl, rfl, rfl⟩⟩ := hv
  · exact ⟨_, _, _, _, t, u, rfl, hT, ht, hu⟩
  · exact ⟨_, _, _, _, t, u, rfl, hT, ht, hu⟩
theorem slistO {l : List U} (hl : l.length ≤ 100000) {v : Value} {w : World} {B : Heap} (hB : B.Le (hp w)) (hv : SetV l v B) : RetO Try.prog 32 [v] w B (SlE tyU 6 l.length (l.flatMap ucs)) := by
  obtain ⟨f, p, k, q, t, u, rfl, hT, ht, hu⟩ := hv.trees
  have hts := hT.size
  have hr : kS (UT.rangeL t 0 (l.length : Int)) = l := by
    have := rangeL_nat (t := t) (r := 0) (k := l.length) (by omega)
    rw [show ((0 : Nat) : Int) = 0 from rfl] at this
    rw [this, hT.kt, List.drop_zero, List.take_length]
  refine V_enterO Try.func32 rfl Try.ntmps32 (Nat.le_of_ble_eq_true rfl) hB ?_
  refine V_seq ?_; refine V_region (id := 0) ?_; refine vo_step (ok_box rfl rfl rfl rfl) rfl ?_; refine vo_step (ok_assign rfl rfl rfl) rfl ?_; refine vo_nil ?_; refine N_seq ?_; refine V_seq ?_; refine V_regionD (id := 1) [(2, [7])] mixed (by kernel_rfl) ?_; refine par_step (ok_fieldAt L rfl rfl rfl rfl) rfl ?_; refine par_step (ok_loadA L (vs := [_, _]) (src_at rfl) rfl rfl rfl rfl ⟨_, rfl⟩) rfl ?_; refine par_step (ok_loadA L (vs := [_, _, _, _]) (src_at rfl) rfl rfl rfl rfl ⟨_, rfl⟩) rfl ?_; refine par_step (ok_callx L rfl rfl (blt_lt rfl) rfl rfl rfl (fun u H hH hle _ => slen_ret rfl hH (hv.le hle))) rfl ?_; refine par_step (ok_callO L rfl rfl (blt_lt rfl) rfl rfl rfl (fun u H hH hle _ => ilist_retO hr (by omega) hH (ht.le hle))) rfl ?_; refine par_step2 (ok_moveO (.inr rfl) rfl rfl rfl rfl) rfl rfl ?_; refine par_nil ?_; refine N_seq ?_
  exact V_retO rfl (fun _ _ h => h) Since.refl rfl
end Go.V.L6
/- The kit: what is owned is clipped: no room is left behind it. -/
namespace Go.V
open Go.RowKit
/-- An owned slice without spare capacity; its block may be longer. -/
def SlC (e : TypeId) (s n : Nat) (xs : List Value) : Res where
  P x _ u C := xs.length = n * s ∧ ((n = 0 ∧ x = .slice none 0 0 ∧ ∀ k, ¬ C k) ∨ ∃ b rest, x = .slice (some ⟨b, 0, none⟩) n n ∧ u.heap[b]? = some (.cells (xs ++ rest).toArray e) ∧ n ≤ maxLen ∧ ∀ k, C k ↔ k = b)
  st := fun ⟨hl, h⟩ _ _ _ hk => ⟨hl, by
    rcases h with h | ⟨b, rest, h1, h2, h3, h4⟩
    · exact .inl h
    · exact .inr ⟨b, rest, h1, (hk b ((h4 b).2 rfl)).trans h2, h3, h4⟩⟩
section
variable {P : Program} {F : Fr} {B : Heap} {O : Boxes} {n : Nat} {ops : Array Oper} {κ : Kap} {d : Nat} {ty : TypeId} {pos : String} {aft : Array Edge} {g : Option (Nat × Bool)} {a : Act} {u : World} {Q : Exit → Act → World → Prop}
theorem SlC.shape {e : TypeId} {s m : Nat} {xs : List Value} : ∀ v H u C, (SlC e s m xs).P v H u C → ∃ p, v = .slice p m m := fun v _ _ _ ⟨_, h⟩ => by
  rcases h with ⟨h0, h, _⟩ | ⟨b, rest, h, _⟩
  · subst h0; exact ⟨none, h⟩
  · exact ⟨_, h⟩
end
end Go.V
/- The walks of sets (chapter 6): what a filter takes of a set. -/
namespace Go.V.L6
open Go.Proofs Go.RowKit Go.V Go.V.L2 Go.V.L3
attribute [local irreducible] V N X VO Par StepOK Has Ret RetL RetO RetT Src
end Go.V.L6
/- slices.Compact at goals. -/
namespace Go.V.L6
open Go.Proofs Go.RowKit Go.V Go.V.L2
attribute [local irreducible] V N X VO Par StepOK Has Ret RetL RetO Src
end Go.V.L6
/- The walks of sets (chapter 6): goals, equality, sets of lists. -/
namespace Go.V.L6
open Go.Proofs Go.RowKit Go.V Go.V.L2 Go.V.L3
theorem LE2.out {φ : Value → Heap → Prop} {a v : Value} {H : Heap} (h : TupS [φ, fun v _ => v = a] v H) : ∃ tv, v = .tuple #[tv, a] ∧ φ tv H := by
  obtain ⟨vs, rfl, hl, h⟩ := h
  match vs, hl with
  | [x, y], _ =>
    have h1 := h 0 _ x rfl rfl
    have h2 := h 1 _ y rfl rfl
    subst h2
    exact ⟨x, rfl, h1⟩
def WithP (l : List U) (e : Int) (r : Value) (H : Heap) : Prop := ∃ tv, r = .tuple #[tv, .int .i64 e] ∧ SetV l tv H
theorem WithP.mono {l : List U} {e : Int} : Kn.mono (.sat (WithP l e)) := fun _ _ _ ⟨tv, h1, h2⟩ hle => ⟨tv, h1, h2.le hle⟩
theorem slist_ret {l : List U} (hl : l.length ≤ 100000) {v : Value} {w : World} {B : Heap} (hB : B.Le (hp w)) (hv : SetV l v B) : Ret Try.prog 32 [v] w B (US l true) := (slistO hl hB hv).toRet lend_SlE
theorem with_p {l m : List U} {x : U} {d : Bool} {e : Int} (hr : withU l x d = (m, e)) (hl : l.length ≤ 4096) (hz : TZ x) {v : Value} {w : World} {B : Heap} (hB : B.Le (hp w)) (hv : SetV l v B) :
    Ret Try.prog 63 [v, chv x d] w B (WithP m e) := (with_ret hr hl hz hB hv).mono fun _ _ _ h => LE2.out h
attribute [local irreducible] V N X VO Par StepOK Has Ret RetL RetO RetT Src
set_option maxHeartbeats 2000000 in
theorem sof_ret {l m : List U} {fu : Bool} {e : Int} (hr : ofU [] l = (m, e)) (hl : l.length ≤ 100000) (hz : ∀ t ∈ l, TZ t) {v : Value} {w : World} {B : Heap} (hB : B.Le (hp w)) (hv : US l fu v B) :
    Ret Try.prog 58 [v] w B (WithP m e) := by
  refine V_enter Try.func58 rfl Try.ntmps58 (Nat.le_of_ble_eq_true rfl) hB ?_
  refine V_seen 0 (US l fu) rfl SlV.mono hv ?_
  refine V_seq ?_; refine V_region (id := 0) ?_; refine vo_step (ok_alloc L rfl rfl rfl rfl) rfl ?_; refine vo_step (ok_assign rfl rfl rfl) rfl ?_; refine vo_nil ?_; refine N_seq ?_; refine V_seq ?_; refine V_region (id := 1) ?_; refine vo_step (ok_alloc L rfl rfl rfl rfl) rfl ?_; refine vo_nil ?_; refine N_seq ?_; refine V_seq ?_; refine V_seq ?_; refine V_region (id := 2) ?_; refine vo_step (ok_moves' rfl rfl rfl) rfl ?_; refine vo_step (ok_lenV L rfl rfl rfl rfl) rfl ?_; refine vo_step (ok_move rfl rfl rfl) rfl ?_; refine vo_nil ?_; refine N_seq ?_; refine V_block ?_
  refine V_clsX (X := SXp) 4 (r := fun x => Cell (scs x.1) tySet) (φ := sphi []) (sphi_mono []) ⟨(.nilFunc, none, .nilFunc, none), rfl⟩ SetV.nil rfl ?_
  refine V_loop (fun y : Nat × List U => [(2, .own (Cell [.nilFunc, .pointer none, .nilFunc, .pointer none] tySet)), (4, .own (ExR (fun x : SXp => Cell (scs x.1) tySet) (sphi y.2) (sphi_mono y.2))), (9, .sat (US l fu)), (10, .is (.int .i64 l.length)), (11, .is (.int .i64 y.1))])
    (fun y => y.1 ≤ l.length ∧ ofU y.2 (l.drop y.1) = (m, e) ∧ y.2.length ≤ 4096) (fun y => l.length - y.1) (0, []) ⟨Nat.zero_le _, hr, Nat.zero_le _⟩ ⟨rfl, rfl, rfl, rfl, rfl, trivial⟩ ?_
  rintro ⟨k, s⟩ ⟨hk, he, hsl⟩
  dsimp only at hk he hsl ⊢
  refine V_opnX 4 rfl fun ⟨⟨f1, p1, f2, q1⟩, hpl⟩ H3 hs3 hT => ?_
  have hT : SetV s (.agg #[f1, .pointer p1, f2, .pointer q1]) H3 := hT
  by_cases hlt : k < l.length
  · obtain ⟨t, ht⟩ := get_some hlt
    have hc := us_at ht
    have hzt := hz t (List.mem_of_getElem? ht)
    rw [drop_g ht, ofU] at he
    rcases hw : withU s t false with ⟨s', e'⟩
    rw [hw] at he
    dsimp only at he
    have hsl' := withU_len hsl t false
    rw [hw] at hsl'
    by_cases h0 : e' = 0
    · rw [if_pos h0] at he
      subst h0
      refine V_seq ?_; refine V_region (id := 3) ?_; refine vo_step (ok_lss rfl rfl rfl rfl (decide_eq_true (by omega))) rfl ?_; refine vo_nil ?_; refine N_seq ?_; refine V_seq ?_; refine V_true rfl ?_; refine V_skip ?_; refine N_seq ?_; refine V_seq ?_; refine V_block ?_; refine V_seq ?_; refine V_region (id := 4) ?_; refine vo_step (ok_indexV L _ rfl rfl rfl rfl rfl rfl rfl (by first | omega | decide) (by assumption)) rfl ?_; refine vo_step (ok_loadPA L (vs := [_, _, _, _, _, _]) rfl rfl rfl rfl rfl ⟨_, rfl⟩) rfl ?_; refine vo_step (ok_alloc L rfl rfl rfl rfl) rfl ?_; refine vo_step (ok_store L rfl rfl rfl rfl rfl rfl rfl rfl) rfl ?_; refine vo_nil ?_; refine N_seq ?_; refine V_seq ?_; refine V_region (id := 5) ?_; refine vo_step (ok_loadA L (vs := [_, _, _, _]) (src_own rfl) rfl rfl rfl rfl ⟨_, rfl⟩) rfl ?_; refine vo_step (ok_loadA L (vs := [_, _, _, _, _, _]) (src_own rfl) rfl rfl rfl rfl ⟨_, rfl⟩) rfl ?_; refine vo_step (ok_build (cs := [_, _, _, _, _, _, _]) rfl rfl pl67 rfl rfl) rfl ?_; refine vo_step (ok_call (φ := WithP s' 0) L rfl rfl (blt_lt rfl) rfl rfl rfl WithP.mono (fun u H hH hle _ => with_p hw hsl hzt hH (hT.le hle))) rfl ?_; refine vo_opn 19 rfl ?_; rintro _ H19 hs19 ⟨tv, rfl, hT19⟩; obtain ⟨g1, r1, g2, r2, rfl, hpl2⟩ := hT19.shape; refine vo_step (ok_move rfl rfl rfl) rfl ?_; refine vo_step (ok_extract rfl rfl rfl rfl) rfl ?_; refine vo_step (ok_extract rfl rfl rfl rfl) rfl ?_; refine vo_step (ok_alloc L rfl rfl rfl rfl) rfl ?_; refine vo_step (ok_store L rfl rfl rfl rfl rfl rfl (by assumption) rfl) rfl ?_; refine vo_step (ok_assign rfl rfl rfl) rfl ?_; refine vo_nil ?_; refine N_seq ?_; refine V_seq ?_; refine V_seq ?_; refine V_region (id := 6) ?_; refine vo_step (ok_move rfl rfl rfl) rfl ?_; refine vo_step (ok_neq rfl rfl rfl rfl (decide_eq_false (by omega))) rfl ?_; refine vo_nil ?_; refine N_seq ?_; refine V_false rfl ?_; refine V_skip ?_; refine N_seq ?_; refine V_region (id := 8) ?_; refine vo_step (ok_loadA L (vs := [_, _, _, _]) (src_own rfl) rfl rfl rfl rfl ⟨_, rfl⟩) rfl ?_; refine vo_step (ok_store L rfl rfl rfl rfl rfl rfl (by assumption) rfl) rfl ?_; refine vo_nil ?_; refine N_block ?_; refine N_seq ?_; refine V_region (id := 9) ?_; refine vo_step (ok_add rfl rfl rfl rfl (wrap_i64 (by omega) (by omega))) rfl ?_; refine vo_step (ok_move rfl rfl rfl) rfl ?_; refine vo_nil ?_
      refine N_clsX (X := SXp) 4 (r := fun x => Cell (scs x.1) tySet) (φ := sphi s') (sphi_mono _) ⟨(g1, r1, g2, r2), hpl2⟩ hT19 rfl ?_
      exact N_roundS (x := (k, s)) (k + 1, s') (hs3.trans hs19) ⟨hlt, he, hsl'⟩ (by dsimp only; omega) ⟨rfl, rfl, rfl, rfl, rfl, trivial⟩
    · rw [if_neg h0] at he
      cases he
      refine V_seq ?_; refine V_region (id := 3) ?_; refine vo_step (ok_lss rfl rfl rfl rfl (decide_eq_true (by omega))) rfl ?_; refine vo_nil ?_; refine N_seq ?_; refine V_seq ?_; refine V_true rfl ?_; refine V_skip ?_; refine N_seq ?_; refine V_seq ?_; refine V_block ?_; refine V_seq ?_; refine V_region (id := 4) ?_; refine vo_step (ok_indexV L _ rfl rfl rfl rfl rfl rfl rfl (by first | omega | decide) (by assumption)) rfl ?_; refine vo_step (ok_loadPA L (vs := [_, _, _, _, _, _]) rfl rfl rfl rfl rfl ⟨_, rfl⟩) rfl ?_; refine vo_step (ok_alloc L rfl rfl rfl rfl) rfl ?_; refine vo_step (ok_store L rfl rfl rfl rfl rfl rfl rfl rfl) rfl ?_; refine vo_nil ?_; refine N_seq ?_; refine V_seq ?_; refine V_region (id := 5) ?_; refine vo_step (ok_loadA L (vs := [_, _, _, _]) (src_own rfl) rfl rfl rfl rfl ⟨_, rfl⟩) rfl ?_; refine vo_step (ok_loadA L (vs := [_, _, _, _, _, _]) (src_own rfl) rfl rfl rfl rfl ⟨_, rfl⟩) rfl ?_; refine vo_step (ok_build (cs := [_, _, _, _, _, _, _]) rfl rfl pl67 rfl rfl) rfl ?_; refine vo_step (ok_call (φ := WithP s' e) L rfl rfl (blt_lt rfl) rfl rfl rfl WithP.mono (fun u H hH hle _ => with_p hw hsl hzt hH (hT.le hle))) rfl ?_; refine vo_opn 19 rfl ?_; rintro _ H19 hs19 ⟨tv, rfl, hT19⟩; obtain ⟨g1, r1, g2, r2, rfl, hpl2⟩ := hT19.shape; refine vo_step (ok_move rfl rfl rfl) rfl ?_; refine vo_step (ok_extract rfl rfl rfl rfl) rfl ?_; refine vo_step (ok_extract rfl rfl rfl rfl) rfl ?_; refine vo_step (ok_alloc L rfl rfl rfl rfl) rfl ?_; refine vo_step (ok_store L rfl rfl rfl rfl rfl rfl (by assumption) rfl) rfl ?_; refine vo_step (ok_assign rfl rfl rfl) rfl ?_; refine vo_nil ?_; refine N_seq ?_; refine V_seq ?_; refine V_seq ?_; refine V_region (id := 6) ?_; refine vo_step (ok_move rfl rfl rfl) rfl ?_; refine vo_step (ok_neq rfl rfl rfl rfl (decide_eq_true (by omega))) rfl ?_; refine vo_nil ?_; refine N_seq ?_; refine V_true rfl ?_; refine V_seq ?_; refine V_region (id := 7) ?_; refine vo_step (ok_build (cs := [_, _, _, _]) rfl rfl pl41 rfl rfl) rfl ?_; refine vo_step (ok_move rfl rfl rfl) rfl ?_; refine vo_step (ok_store L rfl rfl rfl rfl rfl rfl rfl rfl) rfl ?_; refine vo_step (ok_assign rfl rfl rfl) rfl ?_; refine vo_nil ?_; refine N_seq ?_
      refine V_ret L (rs := [.cell 2 41, .tmp 3]) rfl (fun _ _ h => h) (hs3.trans hs19) fun u H hH hle => ?_
      exact ⟨_, src_own rfl, rfl, _, rfl, SetV.nil⟩
  · obtain rfl : k = l.length := by omega
    rw [List.drop_length, ofU] at he
    cases he
    refine V_seq ?_; refine V_region (id := 3) ?_; refine vo_step (ok_lss rfl rfl rfl rfl (decide_eq_false (by omega))) rfl ?_; refine vo_nil ?_; refine N_seq ?_; refine V_seq ?_; refine V_false rfl ?_; refine V_exit ?_; refine X_then ?_; refine X_then ?_; refine X_here ?_; refine N_seq ?_; refine V_seq ?_; refine V_region (id := 10) ?_; refine vo_step (ok_loadA L (vs := [_, _, _, _]) (src_own rfl) rfl rfl rfl rfl ⟨_, rfl⟩) rfl ?_; refine vo_step (ok_store L rfl rfl rfl rfl rfl rfl (by assumption) rfl) rfl ?_; refine vo_step (ok_assign rfl rfl rfl) rfl ?_; refine vo_nil ?_; refine N_seq ?_
    refine V_ret L (rs := [.cell 2 41, .tmp 3]) rfl (fun _ _ h => h) hs3 fun u H hH hle => ?_
    exact ⟨_, src_own rfl, rfl, _, rfl, hT.le hle⟩
end Go.V.L6
/- The walks of the definition of filters (chapter 3): errors, what is taken, prefixes, spans. -/
namespace Go.V.L3
open Go.Proofs Go.RowKit Go.V Go.V.L2
attribute [local irreducible] V N X VO Par StepOK Has Ret RetL RetO RetT Src
end Go.V.L3
/- The walks of the definition of filters (chapter 3): first fields, spans, what is selected. -/
namespace Go.V.L3
open Go.Proofs Go.RowKit Go.V Go.V.L2
attribute [local irreducible] V N X VO Par StepOK Has Ret RetL RetO RetT Src
end Go.V.L3
/- The walk of the definition of sets (chapter 6). -/
namespace Go.V.L6
open Go.Proofs Go.RowKit Go.V Go.V.L2 Go.V.L3
/-- A slice of tuples, none being known to be behind it. -/
abbrev R6 (l : List U) (e : Int) : Value → Heap → Prop := TupS [US l false, fun v _ => v = .int .i64 e]
theorem R6.mono {l : List U} {e : Int} : Kn.mono (.sat (R6 l e)) := LE2.mono SlV.mono
theorem some_out {l : List U} (hs : Sst cmpT l) (x : U) : someT l [x] true false false = l.filter fun z => decide (z ≠ x) := by
  refine sst_ext cmpT_ord (sst_sortS cmpT_ord Sst.nil) (hs.sublist List.filter_sublist) fun z => ?_
  unfold someT sortT
  rw [mem_sortS, List.mem_filter, List.mem_filter]
  unfold pickT
  simp only [List.mem_append, List.mem_singleton, List.not_mem_nil, false_or, Bool.and_true, Bool.and_false, Bool.or_false, Bool.and_eq_true, decide_eq_true_eq, Bool.not_eq_true', decide_eq_false_iff_not, ne_eq]
  constructor
  · rintro ⟨_, h1, h2⟩; exact ⟨h1, h2⟩
  · rintro ⟨h1, h2⟩; exact ⟨.inl h1, h1, h2⟩
theorem some_in {l : List U} (hs : Sst cmpT l) {x : U} (hx : x ∉ l) : someT l [x] true true true = insS cmpT x l := by
  refine sst_ext cmpT_ord (sst_sortS cmpT_ord Sst.nil) (sst_insS cmpT_ord hs hx) fun z => ?_
  unfold someT sortT
  rw [mem_sortS, List.mem_filter, mem_insS]
  unfold pickT
  simp only [List.mem_append, List.mem_singleton, List.not_mem_nil, false_or, Bool.and_true, Bool.or_eq_true, Bool.and_eq_true, decide_eq_true_eq, Bool.not_eq_true', decide_eq_false_iff_not]
  constructor
  · rintro ⟨h, _⟩; exact h.symm
  · rintro (rfl | h)
    · exact ⟨.inr rfl, .inr ⟨hx, rfl⟩⟩
    · refine ⟨.inl h, .inl (.inl ⟨h, fun e => ?_⟩)⟩
      subst e; exact hx h
theorem tE_two (t : U) : tE t = 0 ∨ tE t = 6 := by
  unfold tE
  split
  · exact subjE_two _ _ _
  · rename_i h; exact .inr ((allE_two _).resolve_left h)
theorem withU_mem {l : List U} {x z : U} {d : Bool} (h : z ∈ (withU l x d).1) : z ∈ l ∨ z = x := by
  unfold withU at h
  split at h
  · split at h
    · exact .inl (List.mem_filter.1 h).1
    · split at h
      · exact .inl h
      · split at h
        · cases h
        · exact (mem_insS.1 h).symm
  · cases h
attribute [local irreducible] V N X VO Par StepOK Has Ret RetL RetO RetT Src
set_option maxHeartbeats 1000000 in
theorem rwith_ret {l m : List U} {x : U} {d fu : Bool} {e : Int} (hr : withU l x d = (m, e)) (hs : Sst cmpT l) (hl : l.length ≤ 90000) (hz : TZ x) (zl : ∀ t ∈ l, TZ t) {v : Value} {w : World} {B : Heap} (hB : B.Le (hp w)) (hv : US l fu v B) :
    Ret Try.prog 56 [v, chv x d] w B (R6 m e) := by
  have z1 : ∀ t ∈ [x], TZ t := fun t ht => by rw [List.mem_singleton] at ht; subst ht; exact hz
  have zx1 : ([x] : List U).length ≤ 100000 := show 1 ≤ 100000 by decide
  have key : ∀ {a b c : Bool} (u : World) (H : Heap) (v1 v2 : Value), H.Le (hp u) → US l fu v1 H → SlB (ucs x) tyU 1 v2 H → (a = true ∧ b = false ∧ c = false ∨ a = true ∧ b = true ∧ c = true) → Ret Try.prog 78 [v1, v2, .bool a, .bool b, .bool c] u H (US (someT l [x] a b c) false) := by
    rintro a b c u H v1 v2 hH h1 h2 (⟨rfl, rfl, rfl⟩ | ⟨rfl, rfl, rfl⟩)
    · exact rsome_tff (y := [x]) (by omega) zx1 zl z1 hH h1 (h2.toV rfl)
    · exact rsome_ttt (y := [x]) (by omega) zx1 zl z1 hH h1 (h2.toV rfl)
  refine V_enter Try.func56 rfl Try.ntmps56 (Nat.le_of_ble_eq_true rfl) hB ?_
  refine V_seen 0 (US l fu) rfl SlV.mono hv ?_
  unfold withU at hr
  by_cases he : tE x = 0
  · rw [if_pos he] at hr
    cases d
    · rw [if_neg (by decide)] at hr
      by_cases hx : x ∈ l
      · rw [if_pos hx] at hr
        cases hr
        have hin : (if x ∈ l then 1 else 0 : Int) = 1 := if_pos hx
        refine V_seq ?_; refine V_region (id := 0) ?_; refine vo_step (ok_box rfl rfl rfl rfl) rfl ?_; refine vo_step (ok_assign rfl rfl rfl) rfl ?_; refine vo_step (ok_assign rfl rfl rfl) rfl ?_; refine vo_nil ?_; refine N_seq ?_; refine V_seq ?_; refine V_seq ?_; refine V_region (id := 1) ?_; refine vo_step (ok_fieldAt L rfl rfl rfl rfl) rfl ?_; refine vo_step (ok_loadA L (vs := [_, _, _, _, _, _]) (src_at rfl) rfl rfl rfl rfl ⟨_, rfl⟩) rfl ?_; refine vo_step (ok_callx L rfl rfl (blt_lt rfl) rfl rfl rfl (fun u H hH _ _ => he ▸ rtcheck_ret hz hH)) rfl ?_; refine vo_step (ok_neq rfl rfl rfl rfl (decide_eq_false (by omega))) rfl ?_; refine vo_nil ?_; refine N_seq ?_; refine V_false rfl ?_; refine V_skip ?_; refine N_seq ?_; refine V_seq ?_; refine V_seq ?_; refine V_region (id := 3) ?_; refine vo_step (ok_fieldAt L rfl rfl rfl rfl) rfl ?_; refine vo_step (ok_load1 L (src_at rfl) rfl rfl rfl rfl) rfl ?_; refine vo_nil ?_; refine N_seq ?_; refine V_false rfl ?_; refine V_skip ?_; refine N_seq ?_; refine V_seq ?_; refine V_seq ?_; refine V_region (id := 5) ?_; refine vo_step (ok_moves' rfl rfl rfl) rfl ?_; refine vo_step (ok_fieldAt L rfl rfl rfl rfl) rfl ?_; refine vo_step (ok_loadA L (vs := [_, _, _, _, _, _]) (src_at rfl) rfl rfl rfl rfl ⟨_, rfl⟩) rfl ?_; refine vo_step (ok_callx L rfl rfl (blt_lt rfl) rfl rfl rfl (fun u H hH _ _ v1 h1 => rin_ret (by omega) hin hH h1)) rfl ?_; refine vo_step (ok_eql rfl rfl rfl rfl (decide_eq_true (by omega))) rfl ?_; refine vo_nil ?_; refine N_seq ?_; refine V_true rfl ?_; refine V_seq ?_; refine V_region (id := 6) ?_; refine vo_step (ok_moves' rfl rfl rfl) rfl ?_; refine vo_step (ok_assigns' rfl rfl rfl) rfl ?_; refine vo_step (ok_assign rfl rfl rfl) rfl ?_; refine vo_nil ?_; refine N_seq ?_
        refine V_ret L (rs := [.tmp 4, .tmp 5]) rfl (fun _ _ h => h) Since.refl fun u H hH hle => ?_
        exact fun v hv => LE2.mk hv.nofu
      · rw [if_neg hx] at hr
        have hin : (if x ∈ l then 1 else 0 : Int) = 0 := if_neg hx
        by_cases hf : l.length ≥ 4096
        · rw [if_pos hf] at hr
          cases hr
          refine V_seq ?_; refine V_region (id := 0) ?_; refine vo_step (ok_box rfl rfl rfl rfl) rfl ?_; refine vo_step (ok_assign rfl rfl rfl) rfl ?_; refine vo_step (ok_assign rfl rfl rfl) rfl ?_; refine vo_nil ?_; refine N_seq ?_; refine V_seq ?_; refine V_seq ?_; refine V_region (id := 1) ?_; refine vo_step (ok_fieldAt L rfl rfl rfl rfl) rfl ?_; refine vo_step (ok_loadA L (vs := [_, _, _, _, _, _]) (src_at rfl) rfl rfl rfl rfl ⟨_, rfl⟩) rfl ?_; refine vo_step (ok_callx L rfl rfl (blt_lt rfl) rfl rfl rfl (fun u H hH _ _ => he ▸ rtcheck_ret hz hH)) rfl ?_; refine vo_step (ok_neq rfl rfl rfl rfl (decide_eq_false (by omega))) rfl ?_; refine vo_nil ?_; refine N_seq ?_; refine V_false rfl ?_; refine V_skip ?_; refine N_seq ?_; refine V_seq ?_; refine V_seq ?_; refine V_region (id := 3) ?_; refine vo_step (ok_fieldAt L rfl rfl rfl rfl) rfl ?_; refine vo_step (ok_load1 L (src_at rfl) rfl rfl rfl rfl) rfl ?_; refine vo_nil ?_; refine N_seq ?_; refine V_false rfl ?_; refine V_skip ?_; refine N_seq ?_; refine V_seq ?_; refine V_seq ?_; refine V_region (id := 5) ?_; refine vo_step (ok_moves' rfl rfl rfl) rfl ?_; refine vo_step (ok_fieldAt L rfl rfl rfl rfl) rfl ?_; refine vo_step (ok_loadA L (vs := [_, _, _, _, _, _]) (src_at rfl) rfl rfl rfl rfl ⟨_, rfl⟩) rfl ?_; refine vo_step (ok_callx L rfl rfl (blt_lt rfl) rfl rfl rfl (fun u H hH _ _ v1 h1 => rin_ret (by omega) hin hH h1)) rfl ?_; refine vo_step (ok_eql rfl rfl rfl rfl (decide_eq_false (by omega))) rfl ?_; refine vo_nil ?_; refine N_seq ?_; refine V_false rfl ?_; refine V_skip ?_; refine N_seq ?_; refine V_seq ?_; refine V_seq ?_; refine V_region (id := 7) ?_; refine vo_step (ok_moves' rfl rfl rfl) rfl ?_; refine vo_step (ok_lenV L rfl rfl rfl rfl) rfl ?_; refine vo_step (ok_geq rfl rfl rfl rfl (decide_eq_true (by omega))) rfl ?_; refine vo_nil ?_; refine N_seq ?_; refine V_true rfl ?_; refine V_seq ?_; refine V_region (id := 8) ?_; refine vo_step (ok_assign rfl rfl rfl) rfl ?_; refine vo_step (ok_assign rfl rfl rfl) rfl ?_; refine vo_nil ?_; refine N_seq ?_
          refine V_ret L (rs := [.tmp 4, .tmp 5]) rfl (fun _ _ h => h) Since.refl fun u H hH hle => ?_
          exact LE2.mk SlV.nil
        · rw [if_neg hf] at hr
          cases hr
          rw [← some_in hs hx]
          refine V_seq ?_; refine V_region (id := 0) ?_; refine vo_step (ok_box rfl rfl rfl rfl) rfl ?_; refine vo_step (ok_assign rfl rfl rfl) rfl ?_; refine vo_step (ok_assign rfl rfl rfl) rfl ?_; refine vo_nil ?_; refine N_seq ?_; refine V_seq ?_; refine V_seq ?_; refine V_region (id := 1) ?_; refine vo_step (ok_fieldAt L rfl rfl rfl rfl) rfl ?_; refine vo_step (ok_loadA L (vs := [_, _, _, _, _, _]) (src_at rfl) rfl rfl rfl rfl ⟨_, rfl⟩) rfl ?_; refine vo_step (ok_callx L rfl rfl (blt_lt rfl) rfl rfl rfl (fun u H hH _ _ => he ▸ rtcheck_ret hz hH)) rfl ?_; refine vo_step (ok_neq rfl rfl rfl rfl (decide_eq_false (by omega))) rfl ?_; refine vo_nil ?_; refine N_seq ?_; refine V_false rfl ?_; refine V_skip ?_; refine N_seq ?_; refine V_seq ?_; refine V_seq ?_; refine V_region (id := 3) ?_; refine vo_step (ok_fieldAt L rfl rfl rfl rfl) rfl ?_; refine vo_step (ok_load1 L (src_at rfl) rfl rfl rfl rfl) rfl ?_; refine vo_nil ?_; refine N_seq ?_; refine V_false rfl ?_; refine V_skip ?_; refine N_seq ?_; refine V_seq ?_; refine V_seq ?_; refine V_region (id := 5) ?_; refine vo_step (ok_moves' rfl rfl rfl) rfl ?_; refine vo_step (ok_fieldAt L rfl rfl rfl rfl) rfl ?_; refine vo_step (ok_loadA L (vs := [_, _, _, _, _, _]) (src_at rfl) rfl rfl rfl rfl ⟨_, rfl⟩) rfl ?_; refine vo_step (ok_callx L rfl rfl (blt_lt rfl) rfl rfl rfl (fun u H hH _ _ v1 h1 => rin_ret (by omega) hin hH h1)) rfl ?_; refine vo_step (ok_eql rfl rfl rfl rfl (decide_eq_false (by omega))) rfl ?_; refine vo_nil ?_; refine N_seq ?_; refine V_false rfl ?_; refine V_skip ?_; refine N_seq ?_; refine V_seq ?_; refine V_seq ?_; refine V_region (id := 7) ?_; refine vo_step (ok_moves' rfl rfl rfl) rfl ?_; refine vo_step (ok_lenV L rfl rfl rfl rfl) rfl ?_; refine vo_step (ok_geq rfl rfl rfl rfl (decide_eq_false (by omega))) rfl ?_; refine vo_nil ?_; refine N_seq ?_; refine V_false rfl ?_; refine V_skip ?_; refine N_seq ?_; refine V_seq ?_; refine V_region (id := 9) ?_; refine vo_step (ok_moves' rfl rfl rfl) rfl ?_; refine vo_step (ok_fieldAt L rfl rfl rfl rfl) rfl ?_; refine vo_step (ok_loadA L (vs := [_, _, _, _, _, _]) (src_at rfl) rfl rfl rfl rfl ⟨_, rfl⟩) rfl ?_; refine vo_step (ok_buildSlice L rfl rfl rfl rfl rfl rfl rfl rfl rfl) rfl ?_; refine vo_step (ok_call (φ := US (someT l [x] true true true) false) L rfl rfl (blt_lt rfl) rfl rfl rfl SlV.mono (fun u H hH _ _ v1 h1 v2 h2 => key u H v1 v2 hH h1 h2 (.inr ⟨rfl, rfl, rfl⟩))) rfl ?_; refine vo_step (ok_assigns' rfl rfl rfl) rfl ?_; refine vo_step (ok_assign rfl rfl rfl) rfl ?_; refine vo_nil ?_; refine N_seq ?_
          refine V_ret L (rs := [.tmp 4, .tmp 5]) rfl (fun _ _ h => h) Since.refl fun u H hH hle => ?_
          exact fun v hv => LE2.mk hv
    · rw [if_pos rfl] at hr
      cases hr
      rw [← some_out hs x]
      refine V_seq ?_; refine V_region (id := 0) ?_; refine vo_step (ok_box rfl rfl rfl rfl) rfl ?_; refine vo_step (ok_assign rfl rfl rfl) rfl ?_; refine vo_step (ok_assign rfl rfl rfl) rfl ?_; refine vo_nil ?_; refine N_seq ?_; refine V_seq ?_; refine V_seq ?_; refine V_region (id := 1) ?_; refine vo_step (ok_fieldAt L rfl rfl rfl rfl) rfl ?_; refine vo_step (ok_loadA L (vs := [_, _, _, _, _, _]) (src_at rfl) rfl rfl rfl rfl ⟨_, rfl⟩) rfl ?_; refine vo_step (ok_callx L rfl rfl (blt_lt rfl) rfl rfl rfl (fun u H hH _ _ => he ▸ rtcheck_ret hz hH)) rfl ?_; refine vo_step (ok_neq rfl rfl rfl rfl (decide_eq_false (by omega))) rfl ?_; refine vo_nil ?_; refine N_seq ?_; refine V_false rfl ?_; refine V_skip ?_; refine N_seq ?_; refine V_seq ?_; refine V_seq ?_; refine V_region (id := 3) ?_; refine vo_step (ok_fieldAt L rfl rfl rfl rfl) rfl ?_; refine vo_step (ok_load1 L (src_at rfl) rfl rfl rfl rfl) rfl ?_; refine vo_nil ?_; refine N_seq ?_; refine V_true rfl ?_; refine V_seq ?_; refine V_region (id := 4) ?_; refine vo_step (ok_moves' rfl rfl rfl) rfl ?_; refine vo_step (ok_fieldAt L rfl rfl rfl rfl) rfl ?_; refine vo_step (ok_loadA L (vs := [_, _, _, _, _, _]) (src_at rfl) rfl rfl rfl rfl ⟨_, rfl⟩) rfl ?_; refine vo_step (ok_buildSlice L rfl rfl rfl rfl rfl rfl rfl rfl rfl) rfl ?_; refine vo_step (ok_call (φ := US (someT l [x] true false false) false) L rfl rfl (blt_lt rfl) rfl rfl rfl SlV.mono (fun u H hH _ _ v1 h1 v2 h2 => key u H v1 v2 hH h1 h2 (.inl ⟨rfl, rfl, rfl⟩))) rfl ?_; refine vo_step (ok_assigns' rfl rfl rfl) rfl ?_; refine vo_step (ok_assign rfl rfl rfl) rfl ?_; refine vo_nil ?_; refine N_seq ?_
      refine V_ret L (rs := [.tmp 4, .tmp 5]) rfl (fun _ _ h => h) Since.refl fun u H hH hle => ?_
      exact fun v hv => LE2.mk hv
  · have h6 := (tE_two x).resolve_left he
    rw [if_neg he, h6] at hr
    cases hr
    refine V_seq ?_; refine V_region (id := 0) ?_; refine vo_step (ok_box rfl rfl rfl rfl) rfl ?_; refine vo_step (ok_assign rfl rfl rfl) rfl ?_; refine vo_step (ok_assign rfl rfl rfl) rfl ?_; refine vo_nil ?_; refine N_seq ?_; refine V_seq ?_; refine V_seq ?_; refine V_region (id := 1) ?_; refine vo_step (ok_fieldAt L rfl rfl rfl rfl) rfl ?_; refine vo_step (ok_loadA L (vs := [_, _, _, _, _, _]) (src_at rfl) rfl rfl rfl rfl ⟨_, rfl⟩) rfl ?_; refine vo_step (ok_callx L rfl rfl (blt_lt rfl) rfl rfl rfl (fun u H hH _ _ => h6 ▸ rtcheck_ret hz hH)) rfl ?_; refine vo_step (ok_neq rfl rfl rfl rfl (decide_eq_true (by omega))) rfl ?_; refine vo_nil ?_; refine N_seq ?_; refine V_true rfl ?_; refine V_seq ?_; refine V_region (id := 2) ?_; refine vo_step (ok_assign rfl rfl rfl) rfl ?_; refine vo_step (ok_assign rfl rfl rfl) rfl ?_; refine vo_nil ?_; refine N_seq ?_
    refine V_ret L (rs := [.tmp 4, .tmp 5]) rfl (fun _ _ h => h) Since.refl fun u H hH hle => ?_
    exact LE2.mk SlV.nil
end Go.V.L6
/- The walks of the definition of tuples (chapter 2) at strings however long: compared, sorted or not. -/
namespace Go.V.L2
open Go.Proofs Go.RowKit Go.V
/-- Strings of a tuple, as long as strings can be. -/
def TM (t : U) : Prop := (t.1.1.1.size ≤ 9223372036854775807 ∧ t.1.1.2.size ≤ 9223372036854775807 ∧ t.1.2.size ≤ 9223372036854775807) ∧ t.2.1.1.size ≤ 9223372036854775807 ∧ t.2.1.2.size ≤ 9223372036854775807 ∧ t.2.2.size ≤ 9223372036854775807
attribute [local irreducible] V N X VO Par StepOK Has Ret RetL Src
theorem rorder_retM {a b : ByteArray} (ha : a.size ≤ 9223372036854775807) (hb : b.size ≤ 9223372036854775807) {w : World} {B : Heap} (hB : B.Le (hp w)) :
    Ret Try.prog 94 [.string a, .string b] w B (fun v _ => v = .int .i64 (cmpB a b)) := by
  refine V_enter Try.func94 rfl Try.ntmps94 (Nat.le_of_ble_eq_true rfl) hB ?_
  refine V_seq ?_; refine V_region (id := 0) ?_; refine vo_step (ok_assign rfl rfl rfl) rfl ?_; refine vo_nil ?_; refine N_seq ?_; refine V_seq ?_; refine V_seq ?_; refine V_region (id := 1) ?_; refine vo_step (ok_assign rfl rfl rfl) rfl ?_; refine vo_nil ?_; refine N_seq ?_; refine V_block ?_
  refine V_loop (fun k : Nat => [(0, .is (.string a)), (1, .is (.string b)), (5, .is (.int .i64 k))])
    (fun k => k ≤ a.size ∧ k ≤ b.size ∧ upTo a b k) (fun k => a.size - k) 0 ⟨Nat.zero_le _, Nat.zero_le _, rfl⟩ ⟨rfl, rfl, rfl, trivial⟩ ?_
  rintro k ⟨hk1, hk2, hall⟩
  by_cases h1 : k < a.size
  · by_cases h2 : k < b.size
    · obtain ⟨x, hx⟩ := getElem?_lt h1
      obtain ⟨y, hy⟩ := getElem?_lt h2
      by_cases hxy : (x.toNat : Int) < y.toNat
      · refine V_seq ?_; refine V_seq ?_; refine V_region (id := 2) ?_; refine vo_step (ok_move rfl rfl rfl) rfl ?_; refine vo_step (ok_move rfl rfl rfl) rfl ?_; refine vo_step (ok_lenS L rfl rfl rfl rfl) rfl ?_; refine vo_step (ok_lss rfl rfl rfl rfl (decide_eq_true (by omega))) rfl ?_; refine vo_step (ok_move rfl rfl rfl) rfl ?_; refine vo_step (ok_move rfl rfl rfl) rfl ?_; refine vo_step (ok_move rfl rfl rfl) rfl ?_; refine vo_step (ok_lenS L rfl rfl rfl rfl) rfl ?_; refine vo_step (ok_lss rfl rfl rfl rfl (decide_eq_true (by omega))) rfl ?_; refine vo_step (ok_pick rfl rfl rfl rfl) rfl ?_; refine vo_nil ?_; refine N_seq ?_; refine V_true rfl ?_; refine V_skip ?_; refine N_seq ?_; refine V_seq ?_; refine V_block ?_; refine V_seq ?_; refine V_seq ?_; refine V_regionD (id := 4) [] mixed (by kernel_rfl) ?_; refine par_step (ok_move rfl rfl rfl) rfl ?_; refine par_step (ok_move rfl rfl rfl) rfl ?_; refine par_step (ok_indexS L rfl rfl rfl rfl rfl (by assumption)) rfl ?_; refine par_step (ok_move rfl rfl rfl) rfl ?_; refine par_step (ok_move rfl rfl rfl) rfl ?_; refine par_step (ok_indexS L rfl rfl rfl rfl rfl (by assumption)) rfl ?_; refine par_step (ok_lss rfl rfl rfl rfl (decide_eq_true (by omega))) rfl ?_; refine par_nil ?_; refine N_seq ?_; refine V_true rfl ?_; refine V_seq ?_; refine V_region (id := 5) ?_; refine vo_step (ok_assign rfl rfl rfl) rfl ?_; refine vo_nil ?_; refine N_seq ?_
        refine V_ret L (rs := [.tmp 4]) rfl (fun _ _ h => h) Since.refl fun u H hH hle => ?_
        exact congrArg _ (upTo_lt hall hx hy hxy).symm
      · by_cases hyx : (y.toNat : Int) < x.toNat
        · refine V_seq ?_; refine V_seq ?_; refine V_region (id := 2) ?_; refine vo_step (ok_move rfl rfl rfl) rfl ?_; refine vo_step (ok_move rfl rfl rfl) rfl ?_; refine vo_step (ok_lenS L rfl rfl rfl rfl) rfl ?_; refine vo_step (ok_lss rfl rfl rfl rfl (decide_eq_true (by omega))) rfl ?_; refine vo_step (ok_move rfl rfl rfl) rfl ?_; refine vo_step (ok_move rfl rfl rfl) rfl ?_; refine vo_step (ok_move rfl rfl rfl) rfl ?_; refine vo_step (ok_lenS L rfl rfl rfl rfl) rfl ?_; refine vo_step (ok_lss rfl rfl rfl rfl (decide_eq_true (by omega))) rfl ?_; refine vo_step (ok_pick rfl rfl rfl rfl) rfl ?_; refine vo_nil ?_; refine N_seq ?_; refine V_true rfl ?_; refine V_skip ?_; refine N_seq ?_; refine V_seq ?_; refine V_block ?_; refine V_seq ?_; refine V_seq ?_; refine V_regionD (id := 4) [] mixed (by kernel_rfl) ?_; refine par_step (ok_move rfl rfl rfl) rfl ?_; refine par_step (ok_move rfl rfl rfl) rfl ?_; refine par_step (ok_indexS L rfl rfl rfl rfl rfl (by assumption)) rfl ?_; refine par_step (ok_move rfl rfl rfl) rfl ?_; refine par_step (ok_move rfl rfl rfl) rfl ?_; refine par_step (ok_indexS L rfl rfl rfl rfl rfl (by assumption)) rfl ?_; refine par_step (ok_lss rfl rfl rfl rfl (decide_eq_false (by omega))) rfl ?_; refine par_nil ?_; refine N_seq ?_; refine V_false rfl ?_; refine V_skip ?_; refine N_seq ?_; refine V_seq ?_; refine V_regionD (id := 6) [] mixed (by kernel_rfl) ?_; refine par_step (ok_move rfl rfl rfl) rfl ?_; refine par_step (ok_move rfl rfl rfl) rfl ?_; refine par_step (ok_indexS L rfl rfl rfl rfl rfl (by assumption)) rfl ?_; refine par_step (ok_move rfl rfl rfl) rfl ?_; refine par_step (ok_move rfl rfl rfl) rfl ?_; refine par_step (ok_indexS L rfl rfl rfl rfl rfl (by assumption)) rfl ?_; refine par_step (ok_gtr rfl rfl rfl rfl (decide_eq_true (by omega))) rfl ?_; refine par_nil ?_; refine N_seq ?_; refine V_true rfl ?_; refine V_seq ?_; refine V_region (id := 7) ?_; refine vo_step (ok_assign rfl rfl rfl) rfl ?_; refine vo_nil ?_; refine N_seq ?_
          refine V_ret L (rs := [.tmp 4]) rfl (fun _ _ h => h) Since.refl fun u H hH hle => ?_
          exact congrArg _ (upTo_gt hall hx hy hyx).symm
        · refine V_seq ?_; refine V_seq ?_; refine V_region (id := 2) ?_; refine vo_step (ok_move rfl rfl rfl) rfl ?_; refine vo_step (ok_move rfl rfl rfl) rfl ?_; refine vo_step (ok_lenS L rfl rfl rfl rfl) rfl ?_; refine vo_step (ok_lss rfl rfl rfl rfl (decide_eq_true (by omega))) rfl ?_; refine vo_step (ok_move rfl rfl rfl) rfl ?_; refine vo_step (ok_move rfl rfl rfl) rfl ?_; refine vo_step (ok_move rfl rfl rfl) rfl ?_; refine vo_step (ok_lenS L rfl rfl rfl rfl) rfl ?_; refine vo_step (ok_lss rfl rfl rfl rfl (decide_eq_true (by omega))) rfl ?_; refine vo_step (ok_pick rfl rfl rfl rfl) rfl ?_; refine vo_nil ?_; refine N_seq ?_; refine V_true rfl ?_; refine V_skip ?_; refine N_seq ?_; refine V_seq ?_; refine V_block ?_; refine V_seq ?_; refine V_seq ?_; refine V_regionD (id := 4) [] mixed (by kernel_rfl) ?_; refine par_step (ok_move rfl rfl rfl) rfl ?_; refine par_step (ok_move rfl rfl rfl) rfl ?_; refine par_step (ok_indexS L rfl rfl rfl rfl rfl (by assumption)) rfl ?_; refine par_step (ok_move rfl rfl rfl) rfl ?_; refine par_step (ok_move rfl rfl rfl) rfl ?_; refine par_step (ok_indexS L rfl rfl rfl rfl rfl (by assumption)) rfl ?_; refine par_step (ok_lss rfl rfl rfl rfl (decide_eq_false (by omega))) rfl ?_; refine par_nil ?_; refine N_seq ?_; refine V_false rfl ?_; refine V_skip ?_; refine N_seq ?_; refine V_seq ?_; refine V_regionD (id := 6) [] mixed (by kernel_rfl) ?_; refine par_step (ok_move rfl rfl rfl) rfl ?_; refine par_step (ok_move rfl rfl rfl) rfl ?_; refine par_step (ok_indexS L rfl rfl rfl rfl rfl (by assumption)) rfl ?_; refine par_step (ok_move rfl rfl rfl) rfl ?_; refine par_step (ok_move rfl rfl rfl) rfl ?_; refine par_step (ok_indexS L rfl rfl rfl rfl rfl (by assumption)) rfl ?_; refine par_step (ok_gtr rfl rfl rfl rfl (decide_eq_false (by omega))) rfl ?_; refine par_nil ?_; refine N_seq ?_; refine V_false rfl ?_; refine V_skip ?_; refine N_block ?_; refine N_seq ?_; refine V_region (id := 3) ?_; refine vo_step (ok_move rfl rfl rfl) rfl ?_; refine vo_step (ok_add rfl rfl rfl rfl (wrap_i64 (by omega) (by omega))) rfl ?_; refine vo_step (ok_assign rfl rfl rfl) rfl ?_; refine vo_nil ?_
          exact N_round (k + 1) ⟨h1, h2, upTo_next hall hx hy hxy hyx⟩ (by omega) ⟨rfl, rfl, rfl, trivial⟩
    · refine V_seq ?_; refine V_seq ?_; refine V_region (id := 2) ?_; refine vo_step (ok_move rfl rfl rfl) rfl ?_; refine vo_step (ok_move rfl rfl rfl) rfl ?_; refine vo_step (ok_lenS L rfl rfl rfl rfl) rfl ?_; refine vo_step (ok_lss rfl rfl rfl rfl (decide_eq_true (by omega))) rfl ?_; refine vo_step (ok_move rfl rfl rfl) rfl ?_; refine vo_step (ok_move rfl rfl rfl) rfl ?_; refine vo_step (ok_move rfl rfl rfl) rfl ?_; refine vo_step (ok_lenS L rfl rfl rfl rfl) rfl ?_; refine vo_step (ok_lss rfl rfl rfl rfl (decide_eq_false (by omega))) rfl ?_; refine vo_step (ok_pick rfl rfl rfl rfl) rfl ?_; refine vo_nil ?_; refine N_seq ?_; refine V_false rfl ?_; refine V_exit ?_; refine X_then ?_; refine X_then ?_; refine X_here ?_; refine N_seq ?_; refine V_seq ?_; refine V_seq ?_; refine V_region (id := 8) ?_; refine vo_step (ok_move rfl rfl rfl) rfl ?_; refine vo_step (ok_lenS L rfl rfl rfl rfl) rfl ?_; refine vo_step (ok_move rfl rfl rfl) rfl ?_; refine vo_step (ok_lenS L rfl rfl rfl rfl) rfl ?_; refine vo_step (ok_lss rfl rfl rfl rfl (decide_eq_false (by omega))) rfl ?_; refine vo_nil ?_; refine N_seq ?_; refine V_false rfl ?_; refine V_skip ?_; refine N_seq ?_; refine V_seq ?_; refine V_seq ?_; refine V_region (id := 10) ?_; refine vo_step (ok_move rfl rfl rfl) rfl ?_; refine vo_step (ok_lenS L rfl rfl rfl rfl) rfl ?_; refine vo_step (ok_move rfl rfl rfl) rfl ?_; refine vo_step (ok_lenS L rfl rfl rfl rfl) rfl ?_; refine vo_step (ok_gtr rfl rfl rfl rfl (decide_eq_true (by omega))) rfl ?_; refine vo_nil ?_; refine N_seq ?_; refine V_true rfl ?_; refine V_seq ?_; refine V_region (id := 11) ?_; refine vo_step (ok_assign rfl rfl rfl) rfl ?_; refine vo_nil ?_; refine N_seq ?_
      refine V_ret L (rs := [.tmp 4]) rfl (fun _ _ h => h) Since.refl fun u H hH hle => ?_
      exact congrArg _ (upTo_long hall (by omega) h1).symm
  · by_cases h2 : k < b.size
    · refine V_seq ?_; refine V_seq ?_; refine V_region (id := 2) ?_; refine vo_step (ok_move rfl rfl rfl) rfl ?_; refine vo_step (ok_move rfl rfl rfl) rfl ?_; refine vo_step (ok_lenS L rfl rfl rfl rfl) rfl ?_; refine vo_step (ok_lss rfl rfl rfl rfl (decide_eq_false (by omega))) rfl ?_; refine vo_step (ok_move rfl rfl rfl) rfl ?_; refine vo_step (ok_skip rfl (blt_lt rfl) rfl) rfl ?_; refine vo_step (ok_skip rfl (blt_lt rfl) rfl) rfl ?_; refine vo_step (ok_skip rfl (blt_lt rfl) rfl) rfl ?_; refine vo_step (ok_skip rfl (blt_lt rfl) rfl) rfl ?_; refine vo_step (ok_pick rfl rfl rfl rfl) rfl ?_; refine vo_nil ?_; refine N_seq ?_; refine V_false rfl ?_; refine V_exit ?_; refine X_then ?_; refine X_then ?_; refine X_here ?_; refine N_seq ?_; refine V_seq ?_; refine V_seq ?_; refine V_region (id := 8) ?_; refine vo_step (ok_move rfl rfl rfl) rfl ?_; refine vo_step (ok_lenS L rfl rfl rfl rfl) rfl ?_; refine vo_step (ok_move rfl rfl rfl) rfl ?_; refine vo_step (ok_lenS L rfl rfl rfl rfl) rfl ?_; refine vo_step (ok_lss rfl rfl rfl rfl (decide_eq_true (by omega))) rfl ?_; refine vo_nil ?_; refine N_seq ?_; refine V_true rfl ?_; refine V_seq ?_; refine V_region (id := 9) ?_; refine vo_step (ok_assign rfl rfl rfl) rfl ?_; refine vo_nil ?_; refine N_seq ?_
      refine V_ret L (rs := [.tmp 4]) rfl (fun _ _ h => h) Since.refl fun u H hH hle => ?_
      exact congrArg _ (upTo_short hall (by omega) h2).symm
    · refine V_seq ?_; refine V_seq ?_; refine V_region (id := 2) ?_; refine vo_step (ok_move rfl rfl rfl) rfl ?_; refine vo_step (ok_move rfl rfl rfl) rfl ?_; refine vo_step (ok_lenS L rfl rfl rfl rfl) rfl ?_; refine vo_step (ok_lss rfl rfl rfl rfl (decide_eq_false (by omega))) rfl ?_; refine vo_step (ok_move rfl rfl rfl) rfl ?_; refine vo_step (ok_skip rfl (blt_lt rfl) rfl) rfl ?_; refine vo_step (ok_skip rfl (blt_lt rfl) rfl) rfl ?_; refine vo_step (ok_skip rfl (blt_lt rfl) rfl) rfl ?_; refine vo_step (ok_skip rfl (blt_lt rfl) rfl) rfl ?_; refine vo_step (ok_pick rfl rfl rfl rfl) rfl ?_; refine vo_nil ?_; refine N_seq ?_; refine V_false rfl ?_; refine V_exit ?_; refine X_then ?_; refine X_then ?_; refine X_here ?_; refine N_seq ?_; refine V_seq ?_; refine V_seq ?_; refine V_region (id := 8) ?_; refine vo_step (ok_move rfl rfl rfl) rfl ?_; refine vo_step (ok_lenS L rfl rfl rfl rfl) rfl ?_; refine vo_step (ok_move rfl rfl rfl) rfl ?_; refine vo_step (ok_lenS L rfl rfl rfl rfl) rfl ?_; refine vo_step (ok_lss rfl rfl rfl rfl (decide_eq_false (by omega))) rfl ?_; refine vo_nil ?_; refine N_seq ?_; refine V_false rfl ?_; refine V_skip ?_; refine N_seq ?_; refine V_seq ?_; refine V_seq ?_; refine V_region (id := 10) ?_; refine vo_step (ok_move rfl rfl rfl) rfl ?_; refine vo_step (ok_lenS L rfl rfl rfl rfl) rfl ?_; refine vo_step (ok_move rfl rfl rfl) rfl ?_; refine vo_step (ok_lenS L rfl rfl rfl rfl) rfl ?_; refine vo_step (ok_gtr rfl rfl rfl rfl (decide_eq_false (by omega))) rfl ?_; refine vo_nil ?_; refine N_seq ?_; refine V_false rfl ?_; refine V_skip ?_; refine N_seq ?_; refine V_seq ?_; refine V_region (id := 12) ?_; refine vo_step (ok_assign rfl rfl rfl) rfl ?_; refine vo_nil ?_; refine N_seq ?_
      refine V_ret L (rs := [.tmp 4]) rfl (fun _ _ h => h) Since.refl fun u H hH hle => ?_
      exact congrArg _ (upTo_both hall (by omega) (by omega)).symm
theorem rcmpO_retM {a b c d : ByteArray} (ha : a.size ≤ 9223372036854775807) (hb : b.size ≤ 9223372036854775807) (hc : c.size ≤ 9223372036854775807) (hd : d.size ≤ 9223372036854775807) {w : World} {B : Heap} (hB : B.Le (hp w)) :
    Ret Try.prog 93 [.agg #[.string a, .string b], .agg #[.string c, .string d]] w B (fun v _ => v = .int .i64 (cmpO a b c d)) := by
  refine V_enter Try.func93 rfl Try.ntmps93 (Nat.le_of_ble_eq_true rfl) hB ?_
  by_cases h : a = c
  · have h' : ¬ a ≠ c := fun e => e h
    refine V_seq ?_; refine V_region (id := 0) ?_; refine vo_step (ok_box rfl rfl rfl rfl) rfl ?_; refine vo_step (ok_box rfl rfl rfl rfl) rfl ?_; refine vo_step (ok_assign rfl rfl rfl) rfl ?_; refine vo_nil ?_; refine N_seq ?_; refine V_seq ?_; refine V_seq ?_; refine V_region (id := 1) ?_; refine vo_step (ok_fieldAt L rfl rfl rfl rfl) rfl ?_; refine vo_step (ok_load1 L (src_at rfl) rfl rfl rfl rfl) rfl ?_; refine vo_step (ok_fieldAt L rfl rfl rfl rfl) rfl ?_; refine vo_step (ok_load1 L (src_at rfl) rfl rfl rfl rfl) rfl ?_; refine vo_step (ok_sneq rfl rfl rfl rfl (decide_eq_false (by assumption))) rfl ?_; refine vo_nil ?_; refine N_seq ?_; refine V_false rfl ?_; refine V_skip ?_; refine N_seq ?_; refine V_seq ?_; refine V_region (id := 3) ?_; refine vo_step (ok_fieldAt L rfl rfl rfl rfl) rfl ?_; refine vo_step (ok_load1 L (src_at rfl) rfl rfl rfl rfl) rfl ?_; refine vo_step (ok_fieldAt L rfl rfl rfl rfl) rfl ?_; refine vo_step (ok_load1 L (src_at rfl) rfl rfl rfl rfl) rfl ?_; refine vo_step (ok_callx L rfl rfl (blt_lt rfl) rfl rfl rfl (fun u H hH _ _ => rorder_retM (by first | assumption | decide) (by first | assumption | decide) hH)) rfl ?_; refine vo_step (ok_assign rfl rfl rfl) rfl ?_; refine vo_nil ?_; refine N_seq ?_
    refine V_ret L (rs := [.tmp 4]) rfl (fun _ _ h => h) Since.refl fun u H hH hle => ?_
    exact congrArg _ (cmpO_2 h).symm
  · have h' : a ≠ c := h
    refine V_seq ?_; refine V_region (id := 0) ?_; refine vo_step (ok_box rfl rfl rfl rfl) rfl ?_; refine vo_step (ok_box rfl rfl rfl rfl) rfl ?_; refine vo_step (ok_assign rfl rfl rfl) rfl ?_; refine vo_nil ?_; refine N_seq ?_; refine V_seq ?_; refine V_seq ?_; refine V_region (id := 1) ?_; refine vo_step (ok_fieldAt L rfl rfl rfl rfl) rfl ?_; refine vo_step (ok_load1 L (src_at rfl) rfl rfl rfl rfl) rfl ?_; refine vo_step (ok_fieldAt L rfl rfl rfl rfl) rfl ?_; refine vo_step (ok_load1 L (src_at rfl) rfl rfl rfl rfl) rfl ?_; refine vo_step (ok_sneq rfl rfl rfl rfl (decide_eq_true (by assumption))) rfl ?_; refine vo_nil ?_; refine N_seq ?_; refine V_true rfl ?_; refine V_seq ?_; refine V_region (id := 2) ?_; refine vo_step (ok_fieldAt L rfl rfl rfl rfl) rfl ?_; refine vo_step (ok_load1 L (src_at rfl) rfl rfl rfl rfl) rfl ?_; refine vo_step (ok_fieldAt L rfl rfl rfl rfl) rfl ?_; refine vo_step (ok_load1 L (src_at rfl) rfl rfl rfl rfl) rfl ?_; refine vo_step (ok_callx L rfl rfl (blt_lt rfl) rfl rfl rfl (fun u H hH _ _ => rorder_retM (by first | assumption | decide) (by first | assumption | decide) hH)) rfl ?_; refine vo_step (ok_assign rfl rfl rfl) rfl ?_; refine vo_nil ?_; refine N_seq ?_
    refine V_ret L (rs := [.tmp 4]) rfl (fun _ _ h => h) Since.refl fun u H hH hle => ?_
    exact congrArg _ (cmpO_1 h).symm
theorem rcmpG_retM {a b r c d s : ByteArray} (ha : a.size ≤ 9223372036854775807) (hb : b.size ≤ 9223372036854775807) (hr : r.size ≤ 9223372036854775807) (hc : c.size ≤ 9223372036854775807) (hd : d.size ≤ 9223372036854775807) (hs : s.size ≤ 9223372036854775807) {w : World} {B : Heap} (hB : B.Le (hp w)) :
    Ret Try.prog 74 [.agg #[.string a, .string b, .string r], .agg #[.string c, .string d, .string s]] w B (fun v _ => v = .int .i64 (cmpG a b r c d s)) := by
  refine V_enter Try.func74 rfl Try.ntmps74 (Nat.le_of_ble_eq_true rfl) hB ?_
  by_cases h : a = c ∧ b = d
  · have h' := eqCs2 (decide_eq_true h)
    refine V_seq ?_; refine V_region (id := 0) ?_; refine vo_step (ok_box rfl rfl rfl rfl) rfl ?_; refine vo_step (ok_box rfl rfl rfl rfl) rfl ?_; refine vo_step (ok_assign rfl rfl rfl) rfl ?_; refine vo_nil ?_; refine N_seq ?_; refine V_seq ?_; refine V_seq ?_; refine V_region (id := 1) ?_; refine vo_step (ok_fieldAt L rfl rfl rfl rfl) rfl ?_; refine vo_step (ok_loadA L (vs := [_, _]) (src_at rfl) rfl rfl rfl rfl ⟨_, rfl⟩) rfl ?_; refine vo_step (ok_fieldAt L rfl rfl rfl rfl) rfl ?_; refine vo_step (ok_loadA L (vs := [_, _]) (src_at rfl) rfl rfl rfl rfl ⟨_, rfl⟩) rfl ?_; refine vo_step (ok_aneq rfl rfl rfl rfl eq47 (by assumption) rfl) rfl ?_; refine vo_nil ?_; refine N_seq ?_; refine V_false rfl ?_; refine V_skip ?_; refine N_seq ?_; refine V_seq ?_; refine V_region (id := 3) ?_; refine vo_step (ok_fieldAt L rfl rfl rfl rfl) rfl ?_; refine vo_step (ok_load1 L (src_at rfl) rfl rfl rfl rfl) rfl ?_; refine vo_step (ok_fieldAt L rfl rfl rfl rfl) rfl ?_; refine vo_step (ok_load1 L (src_at rfl) rfl rfl rfl rfl) rfl ?_; refine vo_step (ok_callx L rfl rfl (blt_lt rfl) rfl rfl rfl (fun u H hH _ _ => rorder_retM (by first | assumption | decide) (by first | assumption | decide) hH)) rfl ?_; refine vo_step (ok_assign rfl rfl rfl) rfl ?_; refine vo_nil ?_; refine N_seq ?_
    refine V_ret L (rs := [.tmp 4]) rfl (fun _ _ h => h) Since.refl fun u H hH hle => ?_
    exact congrArg _ (cmpG_2 h).symm
  · have h' := eqCs2 (decide_eq_false h)
    refine V_seq ?_; refine V_region (id := 0) ?_; refine vo_step (ok_box rfl rfl rfl rfl) rfl ?_; refine vo_step (ok_box rfl rfl rfl rfl) rfl ?_; refine vo_step (ok_assign rfl rfl rfl) rfl ?_; refine vo_nil ?_; refine N_seq ?_; refine V_seq ?_; refine V_seq ?_; refine V_region (id := 1) ?_; refine vo_step (ok_fieldAt L rfl rfl rfl rfl) rfl ?_; refine vo_step (ok_loadA L (vs := [_, _]) (src_at rfl) rfl rfl rfl rfl ⟨_, rfl⟩) rfl ?_; refine vo_step (ok_fieldAt L rfl rfl rfl rfl) rfl ?_; refine vo_step (ok_loadA L (vs := [_, _]) (src_at rfl) rfl rfl rfl rfl ⟨_, rfl⟩) rfl ?_; refine vo_step (ok_aneq rfl rfl rfl rfl eq47 (by assumption) rfl) rfl ?_; refine vo_nil ?_; refine N_seq ?_; refine V_true rfl ?_; refine V_seq ?_; refine V_region (id := 2) ?_; refine vo_step (ok_fieldAt L rfl rfl rfl rfl) rfl ?_; refine vo_step (ok_loadA L (vs := [_, _]) (src_at rfl) rfl rfl rfl rfl ⟨_, rfl⟩) rfl ?_; refine vo_step (ok_fieldAt L rfl rfl rfl rfl) rfl ?_; refine vo_step (ok_loadA L (vs := [_, _]) (src_at rfl) rfl rfl rfl rfl ⟨_, rfl⟩) rfl ?_; refine vo_step (ok_callx L rfl rfl (blt_lt rfl) rfl rfl rfl (fun u H hH _ _ => rcmpO_retM (by first | assumption | decide) (by first | assumption | decide) (by first | assumption | decide) (by first | assumption | decide) hH)) rfl ?_; refine vo_step (ok_assign rfl rfl rfl) rfl ?_; refine vo_nil ?_; refine N_seq ?_
    refine V_ret L (rs := [.tmp 4]) rfl (fun _ _ h => h) Since.refl fun u H hH hle => ?_
    exact congrArg _ (cmpG_1 h).symm
theorem rcmpU_retM {a b r c d s : ByteArray} (ha : a.size ≤ 9223372036854775807) (hb : b.size ≤ 9223372036854775807) (hr : r.size ≤ 9223372036854775807) (hc : c.size ≤ 9223372036854775807) (hd : d.size ≤ 9223372036854775807) (hs : s.size ≤ 9223372036854775807) {w : World} {B : Heap} (hB : B.Le (hp w)) :
    Ret Try.prog 75 [.agg #[.string a, .string b, .string r], .agg #[.string c, .string d, .string s]] w B (fun v _ => v = .int .i64 (cmpG a b r c d s)) := by
  refine V_enter Try.func75 rfl Try.ntmps75 (Nat.le_of_ble_eq_true rfl) hB ?_
  by_cases h : a = c ∧ b = d
  · have h' := eqCs2 (decide_eq_true h)
    refine V_seq ?_; refine V_region (id := 0) ?_; refine vo_step (ok_box rfl rfl rfl rfl) rfl ?_; refine vo_step (ok_box rfl rfl rfl rfl) rfl ?_; refine vo_step (ok_assign rfl rfl rfl) rfl ?_; refine vo_nil ?_; refine N_seq ?_; refine V_seq ?_; refine V_seq ?_; refine V_region (id := 1) ?_; refine vo_step (ok_fieldAt L rfl rfl rfl rfl) rfl ?_; refine vo_step (ok_loadA L (vs := [_, _]) (src_at rfl) rfl rfl rfl rfl ⟨_, rfl⟩) rfl ?_; refine vo_step (ok_fieldAt L rfl rfl rfl rfl) rfl ?_; refine vo_step (ok_loadA L (vs := [_, _]) (src_at rfl) rfl rfl rfl rfl ⟨_, rfl⟩) rfl ?_; refine vo_step (ok_aneq rfl rfl rfl rfl eq47 (by assumption) rfl) rfl ?_; refine vo_nil ?_; refine N_seq ?_; refine V_false rfl ?_; refine V_skip ?_; refine N_seq ?_; refine V_seq ?_; refine V_region (id := 3) ?_; refine vo_step (ok_fieldAt L rfl rfl rfl rfl) rfl ?_; refine vo_step (ok_load1 L (src_at rfl) rfl rfl rfl rfl) rfl ?_; refine vo_step (ok_fieldAt L rfl rfl rfl rfl) rfl ?_; refine vo_step (ok_load1 L (src_at rfl) rfl rfl rfl rfl) rfl ?_; refine vo_step (ok_callx L rfl rfl (blt_lt rfl) rfl rfl rfl (fun u H hH _ _ => rorder_retM (by first | assumption | decide) (by first | assumption | decide) hH)) rfl ?_; refine vo_step (ok_assign rfl rfl rfl) rfl ?_; refine vo_nil ?_; refine N_seq ?_
    refine V_ret L (rs := [.tmp 4]) rfl (fun _ _ h => h) Since.refl fun u H hH hle => ?_
    exact congrArg _ (cmpG_2 h).symm
  · have h' := eqCs2 (decide_eq_false h)
    refine V_seq ?_; refine V_region (id := 0) ?_; refine vo_step (ok_box rfl rfl rfl rfl) rfl ?_; refine vo_step (ok_box rfl rfl rfl rfl) rfl ?_; refine vo_step (ok_assign rfl rfl rfl) rfl ?_; refine vo_nil ?_; refine N_seq ?_; refine V_seq ?_; refine V_seq ?_; refine V_region (id := 1) ?_; refine vo_step (ok_fieldAt L rfl rfl rfl rfl) rfl ?_; refine vo_step (ok_loadA L (vs := [_, _]) (src_at rfl) rfl rfl rfl rfl ⟨_, rfl⟩) rfl ?_; refine vo_step (ok_fieldAt L rfl rfl rfl rfl) rfl ?_; refine vo_step (ok_loadA L (vs := [_, _]) (src_at rfl) rfl rfl rfl rfl ⟨_, rfl⟩) rfl ?_; refine vo_step (ok_aneq rfl rfl rfl rfl eq47 (by assumption) rfl) rfl ?_; refine vo_nil ?_; refine N_seq ?_; refine V_true rfl ?_; refine V_seq ?_; refine V_region (id := 2) ?_; refine vo_step (ok_fieldAt L rfl rfl rfl rfl) rfl ?_; refine vo_step (ok_loadA L (vs := [_, _]) (src_at rfl) rfl rfl rfl rfl ⟨_, rfl⟩) rfl ?_; refine vo_step (ok_fieldAt L rfl rfl rfl rfl) rfl ?_; refine vo_step (ok_loadA L (vs := [_, _]) (src_at rfl) rfl rfl rfl rfl ⟨_, rfl⟩) rfl ?_; refine vo_step (ok_callx L rfl rfl (blt_lt rfl) rfl rfl rfl (fun u H hH _ _ => rcmpO_retM (by first | assumption | decide) (by first | assumption | decide) (by first | assumption | decide) (by first | assumption | decide) hH)) rfl ?_; refine vo_step (ok_assign rfl rfl rfl) rfl ?_; refine vo_nil ?_; refine N_seq ?_
    refine V_ret L (rs := [.tmp 4]) rfl (fun _ _ h => h) Since.refl fun u H hH hle => ?_
    exact congrArg _ (cmpG_1 h).symm
theorem rtcmp_retM {a b : U} (ha : TM a) (hb : TM b) {w : World} {B : Heap} (hB : B.Le (hp w)) : Ret Try.prog 46 [uv a, uv b] w B (fun v _ => v = .int .i64 (cmpT a b)) := by
  obtain ⟨⟨z1, z2, z3⟩, z4, z5, z6⟩ := ha
  obtain ⟨⟨y1, y2, y3⟩, y4, y5, y6⟩ := hb
  refine V_enter Try.func46 rfl Try.ntmps46 (Nat.le_of_ble_eq_true rfl) hB ?_
  by_cases h : a.1 = b.1
  · have hq := eq3 (decide_eq_true h)
    rw [cmpT_2 h]
    refine V_seq ?_; refine V_region (id := 0) ?_; refine vo_step (ok_box rfl rfl rfl rfl) rfl ?_; refine vo_step (ok_box rfl rfl rfl rfl) rfl ?_; refine vo_step (ok_assign rfl rfl rfl) rfl ?_; refine vo_nil ?_; refine N_seq ?_; refine V_seq ?_; refine V_seq ?_; refine V_region (id := 1) ?_; refine vo_step (ok_fieldAt L rfl rfl rfl rfl) rfl ?_; refine vo_step (ok_loadA L (vs := [_, _, _]) (src_at rfl) rfl rfl rfl rfl ⟨_, rfl⟩) rfl ?_; refine vo_step (ok_fieldAt L rfl rfl rfl rfl) rfl ?_; refine vo_step (ok_loadA L (vs := [_, _, _]) (src_at rfl) rfl rfl rfl rfl ⟨_, rfl⟩) rfl ?_; refine vo_step (ok_aneq rfl rfl rfl rfl eq49 (by assumption) rfl) rfl ?_; refine vo_nil ?_; refine N_seq ?_; refine V_false rfl ?_; refine V_skip ?_; refine N_seq ?_; refine V_seq ?_; refine V_region (id := 3) ?_; refine vo_step (ok_fieldAt L rfl rfl rfl rfl) rfl ?_; refine vo_step (ok_loadA L (vs := [_, _, _]) (src_at rfl) rfl rfl rfl rfl ⟨_, rfl⟩) rfl ?_; refine vo_step (ok_fieldAt L rfl rfl rfl rfl) rfl ?_; refine vo_step (ok_loadA L (vs := [_, _, _]) (src_at rfl) rfl rfl rfl rfl ⟨_, rfl⟩) rfl ?_; refine vo_step (ok_callx L rfl rfl (blt_lt rfl) rfl rfl rfl (fun u H hH _ _ => rcmpU_retM (by first | assumption | decide) (by first | assumption | decide) (by first | assumption | decide) (by first | assumption | decide) (by first | assumption | decide) (by first | assumption | decide) hH)) rfl ?_; refine vo_step (ok_assign rfl rfl rfl) rfl ?_; refine vo_nil ?_; refine N_seq ?_
    refine V_ret L (rs := [.tmp 4]) rfl (fun _ _ h => h) Since.refl fun u H hH hle => ?_
    rfl
  · have hq := eq3 (decide_eq_false h)
    rw [cmpT_1 h]
    refine V_seq ?_; refine V_region (id := 0) ?_; refine vo_step (ok_box rfl rfl rfl rfl) rfl ?_; refine vo_step (ok_box rfl rfl rfl rfl) rfl ?_; refine vo_step (ok_assign rfl rfl rfl) rfl ?_; refine vo_nil ?_; refine N_seq ?_; refine V_seq ?_; refine V_seq ?_; refine V_region (id := 1) ?_; refine vo_step (ok_fieldAt L rfl rfl rfl rfl) rfl ?_; refine vo_step (ok_loadA L (vs := [_, _, _]) (src_at rfl) rfl rfl rfl rfl ⟨_, rfl⟩) rfl ?_; refine vo_step (ok_fieldAt L rfl rfl rfl rfl) rfl ?_; refine vo_step (ok_loadA L (vs := [_, _, _]) (src_at rfl) rfl rfl rfl rfl ⟨_, rfl⟩) rfl ?_; refine vo_step (ok_aneq rfl rfl rfl rfl eq49 (by assumption) rfl) rfl ?_; refine vo_nil ?_; refine N_seq ?_; refine V_true rfl ?_; refine V_seq ?_; refine V_region (id := 2) ?_; refine vo_step (ok_fieldAt L rfl rfl rfl rfl) rfl ?_; refine vo_step (ok_loadA L (vs := [_, _, _]) (src_at rfl) rfl rfl rfl rfl ⟨_, rfl⟩) rfl ?_; refine vo_step (ok_fieldAt L rfl rfl rfl rfl) rfl ?_; refine vo_step (ok_loadA L (vs := [_, _, _]) (src_at rfl) rfl rfl rfl rfl ⟨_, rfl⟩) rfl ?_; refine vo_step (ok_callx L rfl rfl (blt_lt rfl) rfl rfl rfl (fun u H hH _ _ => rcmpG_retM (by first | assumption | decide) (by first | assumption | decide) (by first | assumption | decide) (by first | assumption | decide) (by first | assumption | decide) (by first | assumption | decide) hH)) rfl ?_; refine vo_step (ok_assign rfl rfl rfl) rfl ?_; refine vo_nil ?_; refine N_seq ?_
    refine V_ret L (rs := [.tmp 4]) rfl (fun _ _ h => h) Since.refl fun u H hH hle => ?_
    rfl
end Go.V.L2
/- The kit: ranges over strings. -/
namespace Go.V
open Go.RowKit
section
variable {P : Program} {F : Fr} {B : Heap} {O : Boxes} {n : Nat} {ops : Array Oper} {κ : Kap} {d : Nat} {ty : TypeId} {pos : String} {aft : Array Edge} {g : Option (Nat × Bool)}
end
/-! ### a scope without jumps -/
section
variable {P : Program} {b : Frame} {a : Act} {k : List Item} {cs : List Frame} {w : World}
end
section
variable {P : Program} {F : Fr} {B : Heap} {O : Boxes} {n : Nat} {κ : Kap} {Q : Exit → Act → World → Prop}
end
end Go.V
/- The kit: maps of a call's own, keyed by flat structures. -/
namespace Go.V
open Go.RowKit
section
variable {P : Program}
end
/-! ### entries, plainly -/
section
variable {K V : Type} [DecidableEq K]
end
/-! ### the map's block -/
section
variable {P : Program} {K V : Type} [DecidableEq K] {kc : K → List Value} {vc : V → Value} {l : List (K × V)} {t kt et : TypeId} {ls : List Nat}
end
section
variable {P : Program} {F : Fr} {B : Heap} {O : Boxes} {n : Nat} {ops : Array Oper} {κ : Kap} {d : Nat} {ty : TypeId} {pos : String} {aft : Array Edge} {g : Option (Nat × Bool)} {a : Act} {u : World} {H : Heap} {os : List Oper} {Q : Exit → Act → World → Prop} {ex : Exs}
variable {K Y : Type} [DecidableEq K] {kc : K → List Value} {vc : Y → Value} {l : List (K × Y)}
end
end Go.V
/- The walks of musts (chapter 8): lists are checked. -/
namespace Go.V.L8
open Go.Proofs Go.RowKit Go.V Go.V.L2 Go.V.L3 Go.V.L6
abbrev tyM : TypeId := 54
abbrev tyC : TypeId := 67
abbrev tyLM : TypeId := 43
abbrev tyLC : TypeId := 65
def ccs (c : CH) : List Value := [.string c.1.1.1.1, .string c.1.1.1.2, .string c.1.1.2, .string c.1.2.1.1, .string c.1.2.1.2, .string c.1.2.2, .bool c.2]
theorem ccs_len (c : CH) : (ccs c).length = 7 := rfl
/-- A list of musts or changes that is seen. -/
abbrev KS (ty : TypeId) (l : List CH) (fu : Bool) : Value → Heap → Prop := SlV ty 7 (l.flatMap ccs) l.length fu
theorem ks_at {l : List CH} {i : Nat} {c : CH} (h : l[i]? = some c) : ((l.flatMap ccs).drop (i * 7)).take 7 = [.string c.1.1.1.1, .string c.1.1.1.2, .string c.1.1.2, .string c.1.2.1.1, .string c.1.2.1.2, .string c.1.2.2, .bool c.2] := flatMap_at ccs_len l i c h
theorem ks_snoc {ty : TypeId} {κ : Kap} {s : Nat} {r : List CH} {c : CH} (h : κ s = some (.own (SlR ty 7 (r.length + 1) (r.flatMap ccs ++ [.string c.1.1.1.1, .string c.1.1.1.2, .string c.1.1.2, .string c.1.2.1.1, .string c.1.2.1.2, .string c.1.2.2, .bool c.2])))) : κ s = some (.own (SlR ty 7 (r ++ [c]).length ((r ++ [c]).flatMap ccs))) := by
  rw [h, List.flatMap_append, List.length_append]; rfl
theorem cE_no {n : Nat} {l : List CH} (hl : ¬ n < l.length) {i : Nat} {c : CH} (hc : l[i]? = some c) (h : ¬ tE c.1 = 0) : cE n l = 6 := by
  unfold cE
  rw [if_neg hl, if_pos]
  rw [List.any_eq_true]
  exact ⟨c, List.mem_of_getElem? hc, by simp [h]⟩
theorem cE_yes {n : Nat} {l : List CH} (hl : ¬ n < l.length) (h : ∀ (j : Nat) c, l[j]? = some c → tE c.1 = 0) : cE n l = 0 := by
  unfold cE
  rw [if_neg hl, if_neg]
  rw [List.any_eq_true]
  rintro ⟨c, hc, h1⟩
  obtain ⟨j, hj⟩ := List.getElem?_of_mem hc
  rw [decide_eq_true (h j c hj)] at h1
  cases h1
attribute [local irreducible] V N X VO Par StepOK Has Ret RetL RetO RetT Src
theorem tcheckM {t : U} (hz : TM t) {w : World} {B : Heap} (hB : B.Le (hp w)) : Ret Try.prog 60 [uv t] w B (fun v _ => v = .int .i64 (tE t)) := by
  obtain ⟨⟨z1, z2, z3⟩, z4, z5, z6⟩ := hz
  unfold tE
  refine V_enter Try.func60 rfl Try.ntmps60 (Nat.le_of_ble_eq_true rfl) hB ?_
  by_cases h : allE [t.1.1.1, t.1.1.2, t.1.2] = 0
  · rw [if_pos h]
    refine V_seq ?_; refine V_region (id := 0) ?_; refine vo_step (ok_box rfl rfl rfl rfl) rfl ?_; refine vo_step (ok_assign rfl rfl rfl) rfl ?_; refine vo_nil ?_; refine N_seq ?_; refine V_seq ?_; refine V_seq ?_; refine V_region (id := 1) ?_; refine vo_step (ok_fieldAt L rfl rfl rfl rfl) rfl ?_; refine vo_step (ok_loadA L (vs := [_, _, _]) (src_at rfl) rfl rfl rfl rfl ⟨_, rfl⟩) rfl ?_; refine vo_step (ok_callx L rfl rfl (blt_lt rfl) rfl rfl rfl (fun u H hH _ _ => goal_ret (by first | assumption | omega | decide) (by first | assumption | omega | decide) (by first | assumption | omega | decide) hH)) rfl ?_; refine vo_step (ok_assign rfl rfl rfl) rfl ?_; refine vo_nil ?_; refine N_seq ?_; refine V_seq ?_; refine V_region (id := 2) ?_; refine vo_step (ok_move rfl rfl rfl) rfl ?_; refine vo_step (ok_neq rfl rfl rfl rfl (decide_eq_false (by omega))) rfl ?_; refine vo_nil ?_; refine N_seq ?_; refine V_false rfl ?_; refine V_skip ?_; refine N_seq ?_; refine V_seq ?_; refine V_region (id := 4) ?_; refine vo_step (ok_fieldAt L rfl rfl rfl rfl) rfl ?_; refine vo_step (ok_loadA L (vs := [_, _, _]) (src_at rfl) rfl rfl rfl rfl ⟨_, rfl⟩) rfl ?_; refine vo_step (ok_callx L rfl rfl (blt_lt rfl) rfl rfl rfl (fun u H hH _ _ => subject_ret (by first | assumption | omega | decide) (by first | assumption | omega | decide) (by first | assumption | omega | decide) hH)) rfl ?_; refine vo_step (ok_assign rfl rfl rfl) rfl ?_; refine vo_nil ?_; refine N_seq ?_
    refine V_ret L (rs := [.tmp 2]) rfl (fun _ _ h => h) Since.refl fun u H hH hle => ?_
    rfl
  · rw [if_neg h]
    refine V_seq ?_; refine V_region (id := 0) ?_; refine vo_step (ok_box rfl rfl rfl rfl) rfl ?_; refine vo_step (ok_assign rfl rfl rfl) rfl ?_; refine vo_nil ?_; refine N_seq ?_; refine V_seq ?_; refine V_seq ?_; refine V_region (id := 1) ?_; refine vo_step (ok_fieldAt L rfl rfl rfl rfl) rfl ?_; refine vo_step (ok_loadA L (vs := [_, _, _]) (src_at rfl) rfl rfl rfl rfl ⟨_, rfl⟩) rfl ?_; refine vo_step (ok_callx L rfl rfl (blt_lt rfl) rfl rfl rfl (fun u H hH _ _ => goal_ret (by first | assumption | omega | decide) (by first | assumption | omega | decide) (by first | assumption | omega | decide) hH)) rfl ?_; refine vo_step (ok_assign rfl rfl rfl) rfl ?_; refine vo_nil ?_; refine N_seq ?_; refine V_seq ?_; refine V_region (id := 2) ?_; refine vo_step (ok_move rfl rfl rfl) rfl ?_; refine vo_step (ok_neq rfl rfl rfl rfl (decide_eq_true (by omega))) rfl ?_; refine vo_nil ?_; refine N_seq ?_; refine V_true rfl ?_; refine V_seq ?_; refine V_region (id := 3) ?_; refine vo_step (ok_move rfl rfl rfl) rfl ?_; refine vo_step (ok_assign rfl rfl rfl) rfl ?_; refine vo_nil ?_; refine N_seq ?_
    refine V_ret L (rs := [.tmp 2]) rfl (fun _ _ h => h) Since.refl fun u H hH hle => ?_
    rfl
theorem rtcheckM {t : U} (hz : TM t) {w : World} {B : Heap} (hB : B.Le (hp w)) : Ret Try.prog 61 [uv t] w B (fun v _ => v = .int .i64 (tE t)) := by
  obtain ⟨⟨z1, z2, z3⟩, z4, z5, z6⟩ := hz
  have hm := tE_max t
  refine V_enter Try.func61 rfl Try.ntmps61 (Nat.le_of_ble_eq_true rfl) hB ?_
  refine V_seq ?_; refine V_region (id := 0) ?_; refine vo_step (ok_box rfl rfl rfl rfl) rfl ?_; refine vo_step (ok_assign rfl rfl rfl) rfl ?_; refine vo_nil ?_; refine N_seq ?_; refine V_seq ?_; refine V_regionD (id := 1) [] mixed (by kernel_rfl) ?_; refine par_step (ok_fieldAt L rfl rfl rfl rfl) rfl ?_; refine par_step (ok_loadA L (vs := [_, _, _]) (src_at rfl) rfl rfl rfl rfl ⟨_, rfl⟩) rfl ?_; refine par_step (ok_callx L rfl rfl (blt_lt rfl) rfl rfl rfl (fun u H hH _ _ => rgoal_ret (by first | assumption | omega | decide) (by first | assumption | omega | decide) (by first | assumption | omega | decide) hH)) rfl ?_; refine par_step (ok_fieldAt L rfl rfl rfl rfl) rfl ?_; refine par_step (ok_loadA L (vs := [_, _, _]) (src_at rfl) rfl rfl rfl rfl ⟨_, rfl⟩) rfl ?_; refine par_step (ok_callx L rfl rfl (blt_lt rfl) rfl rfl rfl (fun u H hH _ _ => rsubject_ret (by first | assumption | omega | decide) (by first | assumption | omega | decide) (by first | assumption | omega | decide) hH)) rfl ?_; refine par_step (ok_max rfl rfl rfl rfl (by assumption)) rfl ?_; refine par_step (ok_assign rfl rfl rfl) rfl ?_; refine par_nil ?_; refine N_seq ?_
  refine V_ret L (rs := [.tmp 2]) rfl (fun _ _ h => h) Since.refl fun u H hH hle => ?_
  rfl
theorem mcl_ret {l : List CH} {fu : Bool} {b i : Nat} {c : CH} (hc0 : l[i]? = some c) {v : Value} {w : World} {B : Heap} (hB : B.Le (hp w)) (hb : B b = some (.cells #[v] tyLM)) (hv : KS tyM l fu v B) :
    Ret Try.prog 67 ([.int .i64 i] ++ [.pointer (some ⟨b, 0, none⟩)]) w B (fun r _ => r = uv c.1) := by
  have hc := ks_at hc0
  have hil := get_lt hc0
  refine V_enter Try.func67 rfl Try.ntmps67 (Nat.le_of_ble_eq_true rfl) hB ?_
  refine V_seq ?_; refine V_region (id := 0) ?_; refine vo_step (ok_alloc L rfl rfl rfl rfl) rfl ?_; refine vo_nil ?_; refine N_seq ?_; refine V_seq ?_; refine V_region (id := 1) ?_; refine vo_step (ok_load1 L (src_base rfl (by assumption)) rfl rfl rfl rfl) rfl ?_; refine vo_seen 4 (KS tyM l fu) rfl SlV.mono hv ?_; refine vo_step (ok_move rfl rfl rfl) rfl ?_; refine vo_step (ok_indexV L _ rfl rfl rfl rfl rfl rfl rfl (by first | omega | decide) (by assumption)) rfl ?_; refine vo_step (ok_fieldAP L rfl rfl rfl rfl) rfl ?_; refine vo_step (ok_loadPA L (vs := [_, _, _, _, _, _]) rfl rfl rfl rfl rfl ⟨_, rfl⟩) rfl ?_; refine vo_step (ok_store L rfl rfl rfl rfl rfl rfl rfl rfl) rfl ?_; refine vo_nil ?_; refine N_seq ?_
  refine V_ret L (rs := [.cell 3 52]) rfl (fun _ _ h => h) Since.refl fun u H hH hle => ?_
  refine resK_cellA (src_own rfl) rfl rfl ?_
  rfl
theorem mcheck_ret {l : List CH} {cf : Nat} {caps : List Value} (hz : ∀ c ∈ l, TM c.1) (hl : l.length ≤ 9223372036854775807) (hfn : L.fn cf = some ()) {e : Int} (he : cE 32 l = e) {w : World} {B : Heap} (hB : B.Le (hp w))
    (hcl : ∀ (i : Nat) (c : CH), l[i]? = some c → ∀ (u : World) (H : Heap), H.Le (hp u) → B.Le H → Ret Try.prog cf ([.int .i64 i] ++ caps) u H (fun r _ => r = uv c.1)) :
    Ret Try.prog 66 [.int .i64 l.length, .func (.func cf) #[] caps.toArray] w B (fun v _ => v = .int .i64 e) := by
  subst he
  refine V_enter Try.func66 rfl Try.ntmps66 (Nat.le_of_ble_eq_true rfl) hB ?_
  by_cases h32 : 32 < l.length
  · have : cE 32 l = 3 := if_pos h32
    rw [this]
    refine V_seq ?_; refine V_region (id := 0) ?_; refine vo_step (ok_assign rfl rfl rfl) rfl ?_; refine vo_nil ?_; refine N_seq ?_; refine V_seq ?_; refine V_seq ?_; refine V_region (id := 1) ?_; refine vo_step (ok_move rfl rfl rfl) rfl ?_; refine vo_step (ok_gtr rfl rfl rfl rfl (decide_eq_true (by omega))) rfl ?_; refine vo_nil ?_; refine N_seq ?_; refine V_true rfl ?_; refine V_seq ?_; refine V_region (id := 2) ?_; refine vo_step (ok_assign rfl rfl rfl) rfl ?_; refine vo_nil ?_; refine N_seq ?_
    refine V_ret L (rs := [.tmp 4]) rfl (fun _ _ h => h) Since.refl fun u H hH hle => ?_
    rfl
  · refine V_seq ?_; refine V_region (id := 0) ?_; refine vo_step (ok_assign rfl rfl rfl) rfl ?_; refine vo_nil ?_; refine N_seq ?_; refine V_seq ?_; refine V_seq ?_; refine V_region (id := 1) ?_; refine vo_step (ok_move rfl rfl rfl) rfl ?_; refine vo_step (ok_gtr rfl rfl rfl rfl (decide_eq_false (by omega))) rfl ?_; refine vo_nil ?_; refine N_seq ?_; refine V_false rfl ?_; refine V_skip ?_; refine N_seq ?_; refine V_seq ?_; refine V_seq ?_; refine V_region (id := 3) ?_; refine vo_step (ok_move rfl rfl rfl) rfl ?_; refine vo_step (ok_move rfl rfl rfl) rfl ?_; refine vo_nil ?_; refine N_seq ?_; refine V_block ?_
    refine V_loop (fun i : Nat => [(1, .is (.func (.func cf) #[] caps.toArray)), (9, .is (.int .i64 l.length)), (10, .is (.int .i64 i))]) (fun i => i ≤ l.length ∧ ∀ (j : Nat) c, j < i → l[j]? = some c → tE c.1 = 0) (fun i => l.length - i) 0 ⟨Nat.zero_le _, fun j c h => absurd h (Nat.not_lt_zero _)⟩ ⟨rfl, rfl, rfl, trivial⟩ ?_
    rintro i ⟨hi, hok⟩
    by_cases hlt : i < l.length
    · obtain ⟨c, hc⟩ := get_some hlt
      have hzc := hz c (List.mem_of_getElem? hc)
      by_cases h0 : tE c.1 = 0
      · refine V_seq ?_; refine V_region (id := 4) ?_; refine vo_step (ok_lss rfl rfl rfl rfl (decide_eq_true (by omega))) rfl ?_; refine vo_nil ?_; refine N_seq ?_; refine V_seq ?_; refine V_true rfl ?_; refine V_skip ?_; refine N_seq ?_; refine V_seq ?_; refine V_block ?_; refine V_seq ?_; refine V_region (id := 5) ?_; refine vo_step (ok_move rfl rfl rfl) rfl ?_; refine vo_step (ok_assign rfl rfl rfl) rfl ?_; refine vo_nil ?_; refine N_seq ?_; refine V_seq ?_; refine V_region (id := 6) ?_; refine vo_step (ok_move rfl rfl rfl) rfl ?_; refine vo_step (ok_move rfl rfl rfl) rfl ?_; refine vo_step (ok_callx L rfl rfl (blt_lt rfl) rfl rfl hfn (fun u H hH hle _ => hcl i c hc u H hH hle)) rfl ?_; refine vo_step (ok_callx L rfl rfl (blt_lt rfl) rfl rfl rfl (fun u H hH _ _ => h0 ▸ tcheckM hzc hH)) rfl ?_; refine vo_step (ok_assign rfl rfl rfl) rfl ?_; refine vo_nil ?_; refine N_seq ?_; refine V_seq ?_; refine V_region (id := 7) ?_; refine vo_step (ok_move rfl rfl rfl) rfl ?_; refine vo_step (ok_neq rfl rfl rfl rfl (decide_eq_false (by omega))) rfl ?_; refine vo_nil ?_; refine N_seq ?_; refine V_false rfl ?_; refine V_skip ?_; refine N_block ?_; refine N_seq ?_; refine V_region (id := 9) ?_; refine vo_step (ok_add rfl rfl rfl rfl (wrap_i64 (by omega) (by omega))) rfl ?_; refine vo_step (ok_move rfl rfl rfl) rfl ?_; refine vo_nil ?_
        exact N_round (x := i) (i + 1) ⟨hlt, fun j c' hj hc' => by
          rcases Nat.lt_or_ge j i with h | h
          · exact hok j c' h hc'
          · have : j = i := by omega
            subst this; rw [hc] at hc'; cases hc'; exact h0⟩ (by omega) ⟨rfl, rfl, rfl, trivial⟩
      · have h6 := (tE_two c.1).resolve_left h0
        rw [cE_no h32 hc h0]
        refine V_seq ?_; refine V_region (id := 4) ?_; refine vo_step (ok_lss rfl rfl rfl rfl (decide_eq_true (by omega))) rfl ?_; refine vo_nil ?_; refine N_seq ?_; refine V_seq ?_; refine V_true rfl ?_; refine V_skip ?_; refine N_seq ?_; refine V_seq ?_; refine V_block ?_; refine V_seq ?_; refine V_region (id := 5) ?_; refine vo_step (ok_move rfl rfl rfl) rfl ?_; refine vo_step (ok_assign rfl rfl rfl) rfl ?_; refine vo_nil ?_; refine N_seq ?_; refine V_seq ?_; refine V_region (id := 6) ?_; refine vo_step (ok_move rfl rfl rfl) rfl ?_; refine vo_step (ok_move rfl rfl rfl) rfl ?_; refine vo_step (ok_callx L rfl rfl (blt_lt rfl) rfl rfl hfn (fun u H hH hle _ => hcl i c hc u H hH hle)) rfl ?_; refine vo_step (ok_callx L rfl rfl (blt_lt rfl) rfl rfl rfl (fun u H hH _ _ => h6 ▸ tcheckM hzc hH)) rfl ?_; refine vo_step (ok_assign rfl rfl rfl) rfl ?_; refine vo_nil ?_; refine N_seq ?_; refine V_seq ?_; refine V_region (id := 7) ?_; refine vo_step (ok_move rfl rfl rfl) rfl ?_; refine vo_step (ok_neq rfl rfl rfl rfl (decide_eq_true (by omega))) rfl ?_; refine vo_nil ?_; refine N_seq ?_; refine V_true rfl ?_; refine V_seq ?_; refine V_region (id := 8) ?_; refine vo_step (ok_move rfl rfl rfl) rfl ?_; refine vo_step (ok_assign rfl rfl rfl) rfl ?_; refine vo_nil ?_; refine N_seq ?_
        refine V_ret L (rs := [.tmp 4]) rfl (fun _ _ h => h) Since.refl fun u H hH hle => ?_
        rfl
    · rw [cE_yes h32 (fun j c hj => hok j c (by have := get_lt hj; omega) hj)]
      refine V_seq ?_; refine V_region (id := 4) ?_; refine vo_step (ok_lss rfl rfl rfl rfl (decide_eq_false (by omega))) rfl ?_; refine vo_nil ?_; refine N_seq ?_; refine V_seq ?_; refine V_false rfl ?_; refine V_exit ?_; refine X_then ?_; refine X_then ?_; refine X_here ?_; refine N_seq ?_; refine V_seq ?_; refine V_region (id := 10) ?_; refine vo_step (ok_assign rfl rfl rfl) rfl ?_; refine vo_nil ?_; refine N_seq ?_
      refine V_ret L (rs := [.tmp 4]) rfl (fun _ _ h => h) Since.refl fun u H hH hle => ?_
      rfl
theorem slv_shape {e : TypeId} {s n : Nat} {xs : List Value} {fu : Bool} {v : Value} {H : Heap} (h : SlV e s xs n fu v H) : ∃ p m c, v = .slice p m c := by
  rcases h.2 with ⟨_, h⟩ | ⟨b, off, cap, cs, ty0, fr, h, _⟩
  · exact ⟨_, _, _, h⟩
  · exact ⟨_, _, _, h⟩
theorem mchk_ret {l : List CH} {fu : Bool} (hz : ∀ c ∈ l, TM c.1) (hl : l.length ≤ 9223372036854775807) {e : Int} (he : cE 32 l = e) {v : Value} {w : World} {B : Heap} (hB : B.Le (hp w)) (hv : KS tyM l fu v B) :
    Ret Try.prog 27 [v] w B (fun r _ => r = .int .i64 e) := by
  obtain ⟨p, m, c, rfl⟩ := slv_shape hv
  refine V_enter Try.func27 rfl Try.ntmps27 (Nat.le_of_ble_eq_true rfl) hB ?_
  refine V_seq ?_; refine V_region (id := 0) ?_; refine vo_step (ok_box rfl rfl rfl rfl) rfl ?_; refine vo_step (ok_assign rfl rfl rfl) rfl ?_; refine vo_nil ?_; refine N_seq ?_; refine V_seq ?_
  refine V_opn 1 rfl fun q H1 hs1 ⟨b, hpb, hb1⟩ => ?_
  subst hpb
  refine V_region (id := 1) ?_; refine vo_step (ok_load1 L (src_base rfl (by assumption)) rfl rfl rfl rfl) rfl ?_; refine vo_seen 3 (KS tyM l fu) rfl SlV.mono (hv.le hs1.le) ?_; refine vo_step (ok_lenV L rfl rfl rfl rfl) rfl ?_; refine vo_step (ok_makeFunc rfl rfl rfl rfl) rfl ?_; refine vo_step (ok_callx L rfl rfl (blt_lt rfl) rfl rfl rfl (fun u H hH hle _ => mcheck_ret (caps := [.pointer (some ⟨b, 0, none⟩)]) hz hl rfl he hH (fun i c hc u' H' hH' hle' => mcl_ret hc hH' (hle' _ _ (hle _ _ hb1)) ((hv.le hs1.le).le (Heap.Le.trans hle hle'))))) rfl ?_; refine vo_step (ok_assign rfl rfl rfl) rfl ?_; refine vo_nil ?_; refine N_seq ?_
  refine V_ret L (rs := [.tmp 2]) rfl (fun _ _ h => h) hs1 fun u H hH hle => ?_
  rfl
end Go.V.L8
/- Stable sorting: plain laws. -/
namespace Go.V
open Go.Proofs Go.RowKit
section
variable {α β : Type} [DecidableEq α] [DecidableEq β] {k : α → β} {c : β → β → Int}
/-- The same up to the order of what differs in its keys. -/
def Eqv (k : α → β) (S S' : List α) : Prop := ∀ t, S'.filter (fun x => decide (k x = t)) = S.filter (fun x => decide (k x = t))
/-- Sorted by keys. -/
def Srt (k : α → β) (c : β → β → Int) (l : List α) : Prop := l.Pairwise fun x y => ¬ c (k y) (k x) < 0
/-- Sorted, equal keys in their old order. -/
def Stb (k : α → β) (c : β → β → Int) (S S' : List α) : Prop := Srt k c S' ∧ Eqv k S S'
omit [DecidableEq α] in
theorem Eqv.refl (S : List α) : Eqv k S S := fun _ => rfl
omit [DecidableEq α] in
theorem Eqv.trans {A B C : List α} (h1 : Eqv k A B) (h2 : Eqv k B C) : Eqv k A C := fun t => (h2 t).trans (h1 t)
omit [DecidableEq α] in
theorem Eqv.app {A A' B B' : List α} (h1 : Eqv k A A') (h2 : Eqv k B B') : Eqv k (A ++ B) (A' ++ B') := fun t => by rw [List.filter_append, List.filter_append, h1 t, h2 t]
omit [DecidableEq α] in
theorem Eqv.swap {A B : List α} (h : ∀ a ∈ A, ∀ b ∈ B, k a ≠ k b) : Eqv k (A ++ B) (B ++ A) := fun t => by
  rw [List.filter_append, List.filter_append]
  by_cases ha : ∃ a ∈ A, k a = t
  · obtain ⟨a, ha, rfl⟩ := ha
    have : B.filter (fun x => decide (k x = k a)) = [] := List.filter_eq_nil_iff.2 fun b hb e => h a ha b hb (by simpa using e : k b = k a).symm
    rw [this, List.append_nil, List.nil_append]
  · have : A.filter (fun x => decide (k x = t)) = [] := List.filter_eq_nil_iff.2 fun a h1 e => ha ⟨a, h1, by simpa using e⟩
    rw [this, List.append_nil, List.nil_append]
theorem Eqv.count {S S' : List α} (h : Eqv k S S') (x : α) : S'.count x = S.count x := by
  have e : ∀ l : List α, (l.filter fun y => decide (k y = k x)).count x = l.count x := fun l => List.count_filter (by simp)
  rw [← e S', ← e S, h (k x)]
theorem Eqv.perm {S S' : List α} (h : Eqv k S S') : S'.Perm S := List.perm_iff_count.2 fun x => h.count x
theorem Eqv.length {S S' : List α} (h : Eqv k S S') : S'.length = S.length := h.perm.length_eq
theorem Eqv.mem {S S' : List α} (h : Eqv k S S') {x : α} : x ∈ S' ↔ x ∈ S := h.perm.mem_iff
omit [DecidableEq α] [DecidableEq β] in
theorem srt_app {A B : List α} : Srt k c (A ++ B) ↔ Srt k c A ∧ Srt k c B ∧ ∀ a ∈ A, ∀ b ∈ B, ¬ c (k b) (k a) < 0 := List.pairwise_append
omit [DecidableEq α] [DecidableEq β] in
theorem lt_key (ho : Ord3 c) {a b : β} (h : c a b < 0) : b ≠ a := fun e => by subst e; exact ho.irr _ h
omit [DecidableEq α] in
/-- Put in behind what is not greater. -/
theorem stb_ins (ho : Ord3 c) {A B : List α} {x : α} (hs : Srt k c (A ++ B)) (ha : ∀ a ∈ A, ¬ c (k x) (k a) < 0) (hb : ∀ b ∈ B, c (k x) (k b) < 0) : Stb k c (A ++ B ++ [x]) (A ++ x :: B) := by
  obtain ⟨s1, s2, s3⟩ := srt_app.1 hs
  refine ⟨srt_app.2 ⟨s1, List.pairwise_cons.2 ⟨fun b h => ho.asym (hb b h), s2⟩, fun a h b hm => ?_⟩, ?_⟩
  · rcases List.mem_cons.1 hm with rfl | hm
    · exact ha a h
    · exact s3 a h b hm
  · rw [List.append_assoc]
    exact (Eqv.refl A).app (Eqv.swap (A := B) (B := [x]) fun b h y hy => by
      simp at hy; subst hy
      exact lt_key ho (hb b h))
omit [DecidableEq α] in
/-- Put in ahead of what is not less. -/
theorem stb_fst (ho : Ord3 c) {A B : List α} {x : α} (hs : Srt k c (A ++ B)) (ha : ∀ a ∈ A, c (k a) (k x) < 0) (hb : ∀ b ∈ B, ¬ c (k b) (k x) < 0) : Stb k c (x :: (A ++ B)) (A ++ x :: B) := by
  obtain ⟨s1, s2, s3⟩ := srt_app.1 hs
  refine ⟨srt_app.2 ⟨s1, List.pairwise_cons.2 ⟨hb, s2⟩, fun a h b hm => ?_⟩, ?_⟩
  · rcases List.mem_cons.1 hm with rfl | hm
    · exact ho.asym (ha a h)
    · exact s3 a h b hm
  · have e : A ++ x :: B = A ++ [x] ++ B := by simp
    have e2 : x :: (A ++ B) = [x] ++ A ++ B := by simp
    rw [e, e2]
    exact (Eqv.swap (A := [x]) (B := A) fun y hy a h => by
      simp at hy; subst hy
      exact lt_key ho (ha a h)).app (Eqv.refl B)
/-- Two sorted parts, the middle of which has changed places, are sorted apart. -/
theorem stb_join (ho : Ord3 c) {A1 A2 B1 B2 S1 S2 : List α} (hA : Srt k c (A1 ++ A2)) (hB : Srt k c (B1 ++ B2)) (h12 : ∀ a ∈ A2, ∀ b ∈ B1, c (k b) (k a) < 0) (h21 : ∀ a ∈ A1, ∀ b ∈ B2, ¬ c (k b) (k a) < 0)
    (h1 : Stb k c (A1 ++ B1) S1) (h2 : Stb k c (A2 ++ B2) S2) : Stb k c (A1 ++ A2 ++ (B1 ++ B2)) (S1 ++ S2) := by
  obtain ⟨a1, a2, a3⟩ := srt_app.1 hA
  obtain ⟨b1, b2, b3⟩ := srt_app.1 hB
  refine ⟨srt_app.2 ⟨h1.1, h2.1, fun x hx y hy => ?_⟩, ?_⟩
  · rcases List.mem_append.1 (h1.2.mem.1 hx) with hx | hx <;> rcases List.mem_append.1 (h2.2.mem.1 hy) with hy | hy
    · exact a3 x hx y hy
    · exact h21 x hx y hy
    · exact ho.asym (h12 y hy x hx)
    · exact b3 x hx y hy
  · refine Eqv.trans ?_ (h1.2.app h2.2)
    have e1 : A1 ++ A2 ++ (B1 ++ B2) = A1 ++ (A2 ++ B1) ++ B2 := by simp
    have e2 : A1 ++ B1 ++ (A2 ++ B2) = A1 ++ (B1 ++ A2) ++ B2 := by simp
    rw [e1, e2]
    exact ((Eqv.refl A1).app (Eqv.swap fun a ha b hb => lt_key ho (h12 a ha b hb))).app (Eqv.refl B2)
omit [DecidableEq α] [DecidableEq β] in
theorem srt_le (ho : Ord3 c) {l : List α} (h : Srt k c l) {i j : Nat} {x y : α} (hi : l[i]? = some x) (hj : l[j]? = some y) (hij : i ≤ j) : ¬ c (k y) (k x) < 0 := by
  rcases Nat.lt_or_ge i j with h1 | h1
  · obtain ⟨hi', rfl⟩ := List.getElem?_eq_some_iff.1 hi
    obtain ⟨hj', rfl⟩ := List.getElem?_eq_some_iff.1 hj
    exact List.pairwise_iff_getElem.1 h i j hi' hj' h1
  · have : i = j := by omega
    subst this
    rw [hi] at hj; cases hj
    exact ho.irr _
end
end Go.V
/- Stable sorting: there is one result; insertion; blocks. -/
namespace Go.V
open Go.Proofs Go.RowKit
section
variable {α β : Type} [DecidableEq α] [DecidableEq β] {k : α → β} {c : β → β → Int}
theorem srt_uniq (ho : Ord3 c) : ∀ {S S' : List α}, Srt k c S → Srt k c S' → Eqv k S S' → S' = S
  | [], S', _, _, h => List.eq_nil_of_length_eq_zero (by rw [h.length]; rfl)
  | x :: r, [], _, _, h => by have := h.length; simp at this
  | x :: r, y :: r', h1, h2, h => by
    have hxy : k x = k y := by
      have hx : x ∈ y :: r' := h.mem.2 (List.mem_cons_self ..)
      have hy : y ∈ x :: r := h.mem.1 (List.mem_cons_self ..)
      have e1 : ¬ c (k x) (k y) < 0 := by
        rcases List.mem_cons.1 hx with e | hx
        · rw [e]; exact ho.irr _
        · exact (List.pairwise_cons.1 h2).1 x hx
      have e2 : ¬ c (k y) (k x) < 0 := by
        rcases List.mem_cons.1 hy with e | hy
        · rw [e]; exact ho.irr _
        · exact (List.pairwise_cons.1 h1).1 y hy
      have := ho.anti (k x) (k y)
      exact ho.eq _ _ (by omega)
    have hf := h (k x)
    rw [List.filter_cons_of_pos (by simp [hxy]), List.filter_cons_of_pos (by simp)] at hf
    have hxe : y = x := (List.cons.inj hf).1
    subst hxe
    have ht : Eqv k r r' := fun t => by
      have := h t
      by_cases e : k y = t
      · rw [List.filter_cons_of_pos (by simpa using e), List.filter_cons_of_pos (by simpa using e)] at this
        exact (List.cons.inj this).2
      · rwa [List.filter_cons_of_neg (by simpa using e), List.filter_cons_of_neg (by simpa using e)] at this
    rw [srt_uniq ho (List.pairwise_cons.1 h1).2 (List.pairwise_cons.1 h2).2 ht]
omit [DecidableEq α] in
theorem Eqv.symm {A B : List α} (h : Eqv k A B) : Eqv k B A := fun t => (h t).symm
theorem stb_uniq (ho : Ord3 c) {l S S' : List α} (h : Stb k c l S) (h' : Stb k c l S') : S' = S := srt_uniq ho h.1 h'.1 (h.2.symm.trans h'.2)
def insK (k : α → β) (c : β → β → Int) (x : α) : List α → List α
  | [] => [x]
  | y :: l => if c (k x) (k y) < 0 then x :: y :: l else y :: insK k c x l
omit [DecidableEq α] [DecidableEq β] in
theorem insK_split (ho : Ord3 c) {x : α} : ∀ {S : List α}, Srt k c S → ∃ A B, S = A ++ B ∧ insK k c x S = A ++ x :: B ∧ (∀ a ∈ A, ¬ c (k x) (k a) < 0) ∧ ∀ b ∈ B, c (k x) (k b) < 0
  | [], _ => ⟨[], [], rfl, rfl, fun a h => (by cases h), fun a h => (by cases h)⟩
  | y :: l, h => by
    obtain ⟨h1, h2⟩ := List.pairwise_cons.1 h
    by_cases hxy : c (k x) (k y) < 0
    · refine ⟨[], y :: l, rfl, if_pos hxy, fun a h => (by cases h), fun b hb => ?_⟩
      rcases List.mem_cons.1 hb with rfl | hb
      · exact hxy
      · have h3 := h1 b hb
        have := ho.anti (k b) (k y)
        by_cases h4 : c (k y) (k b) < 0
        · exact ho.tr hxy h4
        · rw [← ho.eq (k y) (k b) (by omega)]; exact hxy
    · obtain ⟨A, B, e1, e2, e3, e4⟩ := insK_split ho (x := x) h2
      refine ⟨y :: A, B, by rw [e1]; rfl, ?_, fun a ha => ?_, e4⟩
      · rw [insK, if_neg hxy, e2]; rfl
      · rcases List.mem_cons.1 ha with rfl | ha
        · exact hxy
        · exact e3 a ha
/-- The stable sorted list. -/
def stbL (k : α → β) (c : β → β → Int) (l : List α) : List α := l.foldl (fun S x => insK k c x S) []
omit [DecidableEq α] [DecidableEq β] in
theorem srt_nil : Srt k c [] := List.Pairwise.nil
omit [DecidableEq α] in
theorem stb_step (ho : Ord3 c) {l S : List α} {x : α} (h : Stb k c l S) : Stb k c (l ++ [x]) (insK k c x S) := by
  obtain ⟨A, B, e1, e2, e3, e4⟩ := insK_split ho (x := x) h.1
  have h1 := h.1
  rw [e1] at h1
  have h2 := stb_ins ho h1 e3 e4
  rw [e2]
  rw [← e1] at h2
  exact ⟨h2.1, (h.2.app (Eqv.refl [x])).trans h2.2⟩
omit [DecidableEq α] in
theorem stbL_stb (ho : Ord3 c) (l : List α) : Stb k c l (stbL k c l) := by
  suffices ∀ (r l S : List α), Stb k c l S → Stb k c (l ++ r) (r.foldl (fun S x => insK k c x S) S) by
    have := this l [] [] ⟨srt_nil, Eqv.refl _⟩
    exact this
  intro r
  induction r with
  | nil => intro l S h; rw [List.append_nil]; exact h
  | cons x r ih =>
    intro l S h
    have := ih (l ++ [x]) (insK k c x S) (stb_step ho h)
    rw [List.append_assoc] at this
    exact this
theorem stb_of (ho : Ord3 c) {l S : List α} (h : Stb k c l S) : S = stbL k c l := stb_uniq ho (stbL_stb ho l) h
theorem stbL_len (ho : Ord3 c) (l : List α) : (stbL k c l).length = l.length := (stbL_stb (k := k) ho l).2.length
omit [DecidableEq α] [DecidableEq β] in
theorem stbL_nil : stbL k c [] = [] := rfl
theorem stbL_srt (ho : Ord3 c) {l : List α} (h : Srt k c l) : stbL k c l = l := (stb_of ho ⟨h, Eqv.refl l⟩).symm
theorem stbL_app (ho : Ord3 c) (X Y : List α) : stbL k c (stbL k c X ++ stbL k c Y) = stbL k c (X ++ Y) :=
  stb_of ho ⟨(stbL_stb ho _).1, (((stbL_stb ho X).2.app (stbL_stb ho Y).2)).trans (stbL_stb ho _).2⟩
/-- A round of an insertion has ended. -/
theorem ins_end (ho : Ord3 c) {X A B : List α} {x : α} (h : A ++ B = stbL k c X) (hb : ∀ b ∈ B, c (k x) (k b) < 0) (ha : ∀ y, A.getLast? = some y → ¬ c (k x) (k y) < 0) : A ++ x :: B = stbL k c (X ++ [x]) := by
  have hs := (stbL_stb (k := k) ho X).1
  rw [← h] at hs
  have hA : ∀ a ∈ A, ¬ c (k x) (k a) < 0 := fun a ham => by
    rcases List.eq_nil_or_concat A with e | ⟨A', y, rfl⟩
    · subst e; cases ham
    · have h1 := ha y (by simp)
      simp only [List.concat_eq_append, List.mem_append, List.mem_singleton] at ham
      rcases ham with ham | rfl
      · have h2 := (srt_app.1 hs).1
        simp only [List.concat_eq_append] at h2
        have h3 := (srt_app.1 h2).2.2 a ham y (by simp)
        have e1 := ho.anti (k y) (k a)
        intro h4
        refine h1 ?_
        by_cases h5 : c (k a) (k y) < 0
        · exact ho.tr h4 h5
        · rw [← ho.eq (k a) (k y) (by omega)]; exact h4
      · exact h1
  have h1 := stb_ins ho hs hA hb
  rw [h] at h1
  exact stb_of ho ⟨h1.1, ((stbL_stb (k := k) ho X).2.app (Eqv.refl [x])).trans h1.2⟩
/-- Blocks of n, each sorted. -/
def chS (k : α → β) (c : β → β → Int) (n : Nat) : Nat → List α → List α
  | 0, _ => []
  | f + 1, l => if l = [] then [] else stbL k c (l.take n) ++ chS k c n f (l.drop n)
omit [DecidableEq α] [DecidableEq β] in
theorem chS_nil (n f : Nat) : chS k c n f [] = [] := by cases f <;> simp [chS]
omit [DecidableEq α] [DecidableEq β] in
theorem chS_fuel {n : Nat} (hn : 0 < n) : ∀ {f g : Nat} {l : List α}, l.length ≤ f → l.length ≤ g → chS k c n f l = chS k c n g l
  | 0, g, l, hf, _ => by obtain rfl : l = [] := List.eq_nil_of_length_eq_zero (by omega); rw [chS_nil, chS_nil]
  | f + 1, 0, l, _, hg => by obtain rfl : l = [] := List.eq_nil_of_length_eq_zero (by omega); rw [chS_nil, chS_nil]
  | f + 1, g + 1, l, hf, hg => by
    by_cases h : l = []
    · subst h; rw [chS_nil, chS_nil]
    · rw [chS, chS, if_neg h, if_neg h]
      have : 0 < l.length := List.length_pos_iff.2 h
      rw [chS_fuel hn (f := f) (g := g) (by rw [List.length_drop]; omega) (by rw [List.length_drop]; omega)]
/-- The list whose blocks of n are sorted. -/
def chL (k : α → β) (c : β → β → Int) (n : Nat) (l : List α) : List α := chS k c n l.length l
omit [DecidableEq α] [DecidableEq β] in
theorem chL_step {n : Nat} (hn : 0 < n) (l : List α) : chL k c n l = stbL k c (l.take n) ++ chL k c n (l.drop n) := by
  unfold chL
  by_cases h : l = []
  · subst h; simp [chS_nil, stbL_nil]
  · have : 0 < l.length := List.length_pos_iff.2 h
    obtain ⟨m, hm⟩ : ∃ m, l.length = m + 1 := ⟨l.length - 1, by omega⟩
    rw [hm, chS, if_neg h, chS_fuel hn (f := m) (g := (l.drop n).length) (by rw [List.length_drop]; omega) (Nat.le_refl _)]
omit [DecidableEq α] [DecidableEq β] in
theorem chL_nil (n : Nat) : chL k c n [] = [] := chS_nil _ _
omit [DecidableEq α] [DecidableEq β] in
theorem chL_one {n : Nat} (hn : 0 < n) {l : List α} (h : l.length ≤ n) : chL k c n l = stbL k c l := by
  rw [chL_step hn, List.take_of_length_le h, List.drop_eq_nil_of_le h, chL_nil, List.append_nil]
theorem chL_len (ho : Ord3 c) {n : Nat} (hn : 0 < n) : ∀ (m : Nat) {l : List α}, l.length ≤ m → (chL k c n l).length = l.length
  | 0, l, h => by obtain rfl : l = [] := List.eq_nil_of_length_eq_zero (by omega); rw [chL_nil]
  | m + 1, l, h => by
    by_cases h0 : l = []
    · subst h0; rw [chL_nil]
    · have : 0 < l.length := List.length_pos_iff.2 h0
      rw [chL_step hn, List.length_append, stbL_len ho, chL_len ho hn m (by rw [List.length_drop]; omega), ← List.length_append, List.take_append_drop]
end
end Go.V
/- The kit's floor of calls that work in place, without a result, on a block that a ghost slot holds. -/
namespace Go.V
open Go.RowKit
/-- A held block, without a value. -/
def GHeld (b : Nat) (cs : List Value) (ty : TypeId) : GR where
  P _ u C := u.heap[b]? = some (.cells cs.toArray ty) ∧ ∀ k, C k ↔ k = b
  st := fun ⟨h1, h2⟩ _ _ _ hk => ⟨(hk b ((h2 b).2 rfl)).trans h1, h2⟩
theorem gheld_res (b : Nat) (cs : List Value) (ty : TypeId) : (GHeld b cs ty).res = HeldR b cs ty := rfl
/-- What a function without a result does to what it was lent. -/
def RetG (P : Program) (f : FuncId) (args : List Value) (w : World) (B : Heap) (C : Nat → Prop) (r : GR) : Prop :=
  RetL P f args w B C fun _ H u => ∃ C', r.P H u C' ∧ ∀ k, C' k → (C k ∨ w.heap.size ≤ k) ∧ k < u.heap.size ∧ H k = none
section
variable {P : Program} {F : Fr} {B : Heap} {O : Boxes} {n : Nat} {ops : Array Oper} {κ : Kap} {d : Nat} {ty : TypeId} {pos : String} {aft : Array Edge} {g : Option (Nat × Bool)} {Q : Exit → Act → World → Prop}
theorem ok_callG (L : Tabs P) (q : Nat) (r' : GR) {r : GR} {f : Nat} {args : Array Operand} {at_ : Array TypeId} {cap : List Value} {fo : Operand}
    (hn : Nat.blt d n = true) (hg : gK ops κ ⟨some d, .call { callee := .value fo, args := args, argTypes := at_ }, ty, pos, aft, g⟩ = some true)
    (hf : evK κ fo = some (.func (.func f) #[] cap.toArray)) (hfn : L.fn f = some ()) (hq : κ q = some (.own r.res))
    (h : ∀ u H C, H.Le (hp u) → B.Le H → r.P H u C → (∀ k, C k → k < u.heap.size ∧ H k = none) → Args κ H args.toList [] (fun vs => RetG P f (vs ++ cap) u H C r')) :
    StepOK2 P F B n ops O κ ⟨some d, .call { callee := .value fo, args := args, argTypes := at_ }, ty, pos, aft, g⟩ q (.own r'.res) d nilK := by
  rintro κ' a u hlk hks ⟨H, fp, hh⟩
  unfold After
  rw [if_pos (wanted_gK hh hlk hg)]
  have hk' : κ' q = some (.own r.res) := hks.trans hq
  obtain ⟨hown, hM⟩ := hh.slot q _ hk'
  have e2 := hh.env hlk
  have hfe : a.eval fo = .func (.func f) #[] cap.toArray := e2.is_ fo _ (by simp [Op.operands, Call.operands]) hf
  have hc := Args.use e2 args.toList [] (fun x hx => by simp [Op.operands, Call.operands] at hx ⊢; exact .inr hx) (h u H (fp q) hh.sub hh.base hown fun k hk => ⟨(hM k hk).1, (hM k hk).2.1⟩)
  simp only [List.reverse_nil, List.nil_append] at hc
  rw [run_call L rfl hfe hfn]
  simp only [Upon]
  refine Calls.mono hc fun e' u' hp => ?_
  obtain ⟨v, rfl, H', g', C', hv, hC'⟩ := hp
  have h2 := hh.usePut (d := q) (a' := a) (r' := r'.res) hk' g' rfl rfl (fun _ _ => rfl) hv hC'
  rw [upd_upd] at h2
  exact ⟨v, rfl, H', _, h2.put (k := nilK) (blt_lt hn) (fun _ _ _ h _ => h) trivial⟩
/-- A function without results ends. -/
theorem N_ret0 (L : Tabs P) {fn : Func} {B0 : Heap} (hrs : fn.results = #[]) (hQ : ∀ a u, bodyPostM Fence.wide 0 P fn (PostL F.w0 B0 F.L fun _ _ _ => True) .normal a u → Q .normal a u) (hs : Since F B0 B) : N F B n O κ Q :=
  N_retG hQ hs fun O' a u H fp _ hh => by
    obtain ⟨vs, h1, _⟩ := results_run L hh (rs := []) hrs (K := fun _ => True) trivial
    exact ⟨_, h1, trivial⟩
/-- A test whose two ways meet again: what is known behind it. -/
theorem V_meetC {x c y : Code} {T : Type} (Fk : T → List (Nat × Kn)) (I : T → Prop) (Ob : T → Boxes) (hy : ∀ t, I t → V P F B n (Ob t) (ofL (Fk t)) y Q)
    (h : V P F B n O κ x (Exit.then (fun a u => c.wpIn (FW F.r) 0 P (Exit.then (fun a u => ∃ t, I t ∧ Has F B (Ob t) n (ofL (Fk t)) a u) Q) a u) (Exit.then (fun a u => ∃ t, I t ∧ Has F B (Ob t) n (ofL (Fk t)) a u) Q))) :
    V P F B n O κ x (Exit.then (fun a u => c.wpIn (FW F.r) 0 P (Exit.then (fun a u => y.wpIn (FW F.r) 0 P Q a u) Q) a u) (Exit.then (fun a u => y.wpIn (FW F.r) 0 P Q a u) Q)) := fun a u hh => by
  have key : ∀ e a u, Exit.then (fun a u => ∃ t, I t ∧ Has F B (Ob t) n (ofL (Fk t)) a u) Q e a u → Exit.then (fun a u => y.wpIn (FW F.r) 0 P Q a u) Q e a u := fun e a u he => by
    cases e <;> first | exact he | (obtain ⟨t, hI, hh⟩ := he; exact hy t hI a u hh)
  refine Go.wpIn_mono (h a u hh) fun e a u he => ?_
  cases e <;> first | exact Go.wpIn_mono he key | exact he
theorem HasH.setSat {t : Nat} {φ : Value → Heap → Prop} {H : Heap} {fp : Nat → Nat → Prop} {a : Act} {u : World} (hm : Kn.mono (.sat φ)) (h : HasH F B O n κ a u H fp) (hφ : φ (a.eval (.tmp t)) H) : HasH F B O n (upd κ t (.sat φ)) a u H fp :=
  ⟨h.size, h.defers, h.nodup, h.marks, h.lent, h.keep, h.sub, h.base, h.fresh, h.boxes, h.apart, fun s k hs => by
    by_cases hst : s = t
    · subst hst; rw [upd_same] at hs; cases hs; exact hφ
    · rw [upd_other _ _ hst] at hs; exact h.slot s k hs, fun s r r1 r2 hsr h1 h2 => by
    have key : ∀ x r, upd κ t (.sat φ) x = some (.own r) → κ x = some (.own r) := fun x r hx => by
      by_cases hxd : x = t
      · subst hxd; rw [upd_same] at hx; cases hx
      · rw [upd_other _ _ hxd] at hx; exact hx
    exact h.owns s r r1 r2 hsr (key _ _ h1) (key _ _ h2), fun s k hs => by
    by_cases hst : s = t
    · subst hst; rw [upd_same] at hs; cases hs; exact hm
    · rw [upd_other _ _ hst] at hs; exact h.mono s k hs⟩
/-- An owned slice, or an empty one without room that is seen. -/
def SlG (e : TypeId) (s n : Nat) (xs : List Value) : Res where
  P x H u C := (n = 0 ∧ xs = [] ∧ SlV e s [] 0 true x H ∧ ∀ k, ¬ C k) ∨ (SlR e s n xs).P x H u C
  st := fun h hle hs ho hk => by
    rcases h with ⟨h1, h2, h3, h4⟩ | h
    · exact .inl ⟨h1, h2, h3.le hle, h4⟩
    · exact .inr ((SlR e s n xs).st h hle hs ho hk)
theorem Has.toG {t : Nat} {e : TypeId} {s : Nat} {a : Act} {u : World} (hk : κ t = some (.sat (SlV e s [] 0 true))) (h : Has F B O n κ a u) : Has F B O n (upd κ t (.own (SlG e s 0 []))) a u := by
  obtain ⟨H, fp, h⟩ := h
  exact ⟨H, _, h.putR (C := noL) (a' := a) rfl rfl (fun _ _ => rfl) (.inl ⟨rfl, rfl, h.slot t _ hk, fun _ h => h⟩) (fun k hk => hk.elim) (fun _ _ _ _ _ _ hk => hk.elim)⟩
theorem V_toG (t : Nat) {e : TypeId} {s : Nat} {c : Code} (hk : κ t = some (.sat (SlV e s [] 0 true))) (h : V P F B n O (upd κ t (.own (SlG e s 0 []))) c Q) : V P F B n O κ c Q := fun a u hh => h a u (hh.toG hk)
theorem Has.pubG {t : Nat} {e : TypeId} {s m : Nat} {xs : List Value} {a : Act} {u : World} (hk : κ t = some (.own (SlG e s m xs))) (h : Has F B O n κ a u) : Has F B O n (upd κ t (.sat (SlV e s xs m false))) a u := by
  obtain ⟨H, fp, h⟩ := h
  obtain ⟨hv, hM⟩ := h.slot t _ hk
  rcases hv with ⟨rfl, rfl, h3, _⟩ | hv
  · exact ⟨H, fp, h.setSat SlV.mono h3.nofu⟩
  · have h2 := h.putR (d := t) (r := SlR e s m xs) (C := fp t) (a' := a) rfl rfl (fun _ _ => rfl) hv hM (fun t' r' hne hk' k hf hc => h.owns t' t _ _ hne hk' hk k hf hc)
    have h3 := Has.pubR (t := t) (upd_same _ _ _) ⟨H, _, h2⟩
    rwa [upd_upd] at h3
theorem V_pubG (t : Nat) {e : TypeId} {s m : Nat} {xs : List Value} {c : Code} (hk : κ t = some (.own (SlG e s m xs))) (h : V P F B n O (upd κ t (.sat (SlV e s xs m false))) c Q) : V P F B n O κ c Q := fun a u hh => h a u (hh.pubG hk)
/-- 'append(x, y...)': one value more. -/
theorem ok_appendG (L : Tabs P) {q : Nat} {t e : TypeId} {y : Operand} {s by_ nn m : Nat} {xs news : List Value} (hm : 0 < m) (hn : Nat.blt d n = true) (hg : gK ops κ ⟨some d, .call ⟨.builtin .append, #[.tmp q, y], #[t, t]⟩, ty, pos, aft, g⟩ = some true)
    (hq : κ q = some (.own (SlG e s nn xs))) (hy : Apd F B O κ y m news) (ht : L.sl t = some e) (he : elI P e = some (s, by_)) (hl : news.length = m * s) (h1 : news.all plainV = true) (hb : (nn + m) * by_ ≤ 140737488355328) (h63 : nn + m ≤ 9223372036854775807) :
    StepOK2 P F B n ops O κ ⟨some d, .call ⟨.builtin .append, #[.tmp q, y], #[t, t]⟩, ty, pos, aft, g⟩ q nilK d (.own (SlG e s (nn + m) (xs ++ news))) := by
  rintro κ' a u hlk hks ⟨H, fp, hh⟩
  unfold After
  rw [if_pos (wanted_gK hh hlk hg)]
  have en := hh.env hlk
  obtain ⟨i, z, hi, hz, hs1, hs2, hs3, hs4⟩ := elI_spec he
  have hk' : κ' q = some (.own (SlG e s nn xs)) := hks.trans hq
  obtain ⟨hown, hM⟩ := hh.slot q _ hk'
  have hyv := hy _ a u H fp (by simp [Op.operands, Call.operands]) en
  have h1' : ∀ v ∈ news, v.oneCell' = true := fun v hv => plain_one (List.all_eq_true.1 h1 v hv)
  have hap : ∃ x' u' C', (Builtin.append_ #[t, t] ty #[a.eval (.tmp q), a.eval y]).run P u = .ok x' u' ∧ (SlR e s (nn + m) (xs ++ news)).P x' H u' C' ∧ Grow (fp q) u H u' H ∧ ∀ k, C' k → (fp q k ∨ u.heap.size ≤ k) ∧ k < u'.heap.size ∧ H k = none := by
    rcases hown with ⟨rfl, rfl, h3, hC⟩ | hown
    · obtain ⟨hl3, ⟨_, hx⟩ | ⟨b, off, cap, cs, ty0, fr, hx, hb1, _, hcp, hfu⟩⟩ := h3
      · refine appendR u (Tabs.sl_spec ht) hi hz hs1 hs2 hs3 hs4 hh.sub ⟨by simp, .inl ⟨rfl, hx, hC⟩⟩ (fun k hk => ⟨(hM k hk).1, (hM k hk).2.1⟩) hyv hl h1' h63 hb
      · obtain rfl := hfu rfl
        rcases hyv with ⟨rfl, _⟩ | ⟨ad, c, hye, hnews⟩
        · omega
        · subst hs1 hs2
          have hr := run_append_grow (P := P) u t ty e i z (Tabs.sl_spec ht) hi hz ⟨b, off, none⟩ 0 0 [] (by simp) (fun j v hj => by simp at hj) ad m c news hl hnews (by omega) (by omega) (growslice_fits (by omega) hb)
          rw [hx, hye]
          have hmx : 0 + m ≤ maxLen := by simp only [maxLen]; omega
          have hge := grownCap_ge u (0 + m) 0 e
          refine ⟨_, _, fun k => k = u.heap.size, hr, ⟨by simpa using hl, .inr ⟨u.heap.size, _, (Builtin.zeroCells z.cells (grownCap u (0 + m) 0 e - (0 + m))).toList, rfl, ?_, hge, grownCap_le_maxLen u (0 + m) 0 e hmx, ?_, fun _ => Iff.rfl⟩⟩, ⟨⟨rfl, rfl, rfl, by simp, fun k hk _ => heap_push_lt u.drew _ hk, Nat.le_succ _⟩, fun k v hv => by
            have := hh.sub.size hv
            show (u.drew.alloc _).heap[k]? = some v
            rw [heap_push_lt u.drew _ this]; exact hh.sub k v hv, Heap.Le.refl _, fun _ _ _ => rfl⟩, fun k hk => by
            subst hk
            exact ⟨.inr (Nat.le_refl _), by simp, none_of_ge hh.sub (Nat.le_refl _)⟩⟩
          · rw [show u.heap.size = u.drew.heap.size from rfl, heap_alloc_new]
            congr 2
            apply Array.ext'
            simp
          · rw [List.nil_append, List.length_append, hl, Array.length_toList, size_zeroCells, hs3, ← Nat.add_mul]
            congr 1
            omega
    · exact appendR u (Tabs.sl_spec ht) hi hz hs1 hs2 hs3 hs4 hh.sub hown (fun k hk => ⟨(hM k hk).1, (hM k hk).2.1⟩) hyv hl h1' h63 hb
  obtain ⟨x', u', C', hr, hown', hgr, hC'⟩ := hap
  have hrun : (execOp a.eval ⟨some d, .call ⟨.builtin .append, #[.tmp q, y], #[t, t]⟩, ty, pos, aft, g⟩).run P u = .ok (.value x') u' := by
    simp only [execOp, resolve, invoke, builtin, Sem.run_bind, Sem.run_pure, Result.andThen_ok, List.map_toArray, List.map_cons, List.map_nil, hr]
  rw [hrun]
  simp only [Upon]
  exact ⟨H, _, hh.usePut hk' hgr (by simp [Act.put]) rfl (fun t ht => eval_put_other ht) (by rw [eval_put_same (by rw [hh.size]; exact blt_lt hn)]; exact .inr hown') hC'⟩
end
end Go.V
