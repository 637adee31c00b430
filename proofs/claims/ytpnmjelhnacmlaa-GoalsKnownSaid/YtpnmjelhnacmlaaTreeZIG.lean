/- The walks of trees at int, countersign/api.Goal: the pairs, one after the other. -/
import Derived.Test.YtpnmjelhnacmlaaTreeYIG
namespace Go.V.IG
open Go.Proofs Go.RowKit Go.V
def encP (y : KT × VT) : List Value := [.agg (pl y.1 y.2).toArray]
abbrev tyN : TypeId := 28
/-- What 'pairs' hands back: a function value that holds four variables. -/
def PairsAt (t : Tr KT VT) (a f e : Int) : Value → Heap → Prop := fun v H => ∃ b1 b2 b3 b4 root, v = .func (.func 127) #[] #[.pointer (some ⟨b1, 0, none⟩), .pointer (some ⟨b2, 0, none⟩), .pointer (some ⟨b3, 0, none⟩), .pointer (some ⟨b4, 0, none⟩)] ∧
  H b1 = some (.cells [root].toArray 28) ∧ H b2 = some (.cells [.int .i64 a].toArray 3) ∧ H b3 = some (.cells [.int .i64 f].toArray 3) ∧ H b4 = some (.cells [.int .i64 e].toArray 3) ∧ TA t root H
theorem PairsAt.mono {t : Tr KT VT} {a f e : Int} : Kn.mono (.sat (PairsAt t a f e)) := fun _ _ _ ⟨b1, b2, b3, b4, root, h0, h1, h2, h3, h4, h5⟩ hle => ⟨b1, b2, b3, b4, root, h0, hle _ _ h1, hle _ _ h2, hle _ _ h3, hle _ _ h4, h5.le hle⟩
attribute [local irreducible] V N X VO Par StepOK Has Ret RetL Src
theorem pairs_ret (t : Tr KT VT) (a f e : Int) {root : Value} {w : World} {B : Heap} (hB : B.Le (hp w)) (hv : TA t root B) :
    Ret Try.prog 105 [root, .int .i64 a, .int .i64 f, .int .i64 e] w B (PairsAt t a f e) := by
  obtain ⟨p, rfl⟩ := hv.ptr
  refine V_enter Try.func105 rfl Try.ntmps105 (Nat.le_of_ble_eq_true rfl) hB ?_
  refine V_seq ?_; refine V_region (id := 0) ?_; refine vo_step (ok_box rfl rfl rfl rfl) rfl ?_; refine vo_step (ok_box rfl rfl rfl rfl) rfl ?_; refine vo_step (ok_box rfl rfl rfl rfl) rfl ?_; refine vo_step (ok_box rfl rfl rfl rfl) rfl ?_; refine vo_step (ok_assign rfl rfl rfl) rfl ?_; refine vo_nil ?_; refine N_seq ?_; refine V_seq ?_
  refine V_opn 4 rfl fun v1 H1 hs1 ⟨b1, e1, h1⟩ => ?_
  subst e1
  refine V_opn 5 rfl fun v2 H2 hs2 ⟨b2, e2, h2⟩ => ?_
  subst e2
  refine V_opn 6 rfl fun v3 H3 hs3 ⟨b3, e3, h3⟩ => ?_
  subst e3
  refine V_opn 7 rfl fun v4 H4 hs4 ⟨b4, e4, h4⟩ => ?_
  subst e4
  refine V_region (id := 1) ?_; refine vo_step (ok_makeFunc rfl rfl rfl rfl) rfl ?_; refine vo_step (ok_assign rfl rfl rfl) rfl ?_; refine vo_nil ?_; refine N_seq ?_
  refine V_ret L (rs := [.tmp 8]) rfl (fun _ _ h => h) (hs1.trans (hs2.trans (hs3.trans hs4))) fun u H hH hle => ?_
  exact ⟨b1, b2, b3, b4, _, rfl, hle _ _ (hs4.le _ _ (hs3.le _ _ (hs2.le _ _ h1))), hle _ _ (hs4.le _ _ (hs3.le _ _ h2)), hle _ _ (hs4.le _ _ h3), hle _ _ h4, (((hv.le hs1.le).le hs2.le).le (hs3.le.trans hs4.le)).le hle⟩
theorem encP_of {l : List (KT × VT)} {x : List Value} {pre : Seqs} (h : pre ++ [x] <+: l.map encP) : ∃ y, x = encP y := by
  have : x ∈ l.map encP := h.subset (by simp)
  obtain ⟨y, _, rfl⟩ := List.mem_map.1 this
  exact ⟨y, rfl⟩
abbrev cellsX : List Value → List Value
  | [.agg cs] => cs.toList
  | _ => []
set_option maxHeartbeats 2000000 in
set_option maxRecDepth 10000 in
theorem iter_ret : ∀ (t : Tr KT VT) (a f e : Int) {b1 b2 b3 b4 : Nat} {root : Value} {w : World} {B : Heap}, 0 ≤ a → a + t.size < 1099511627776 → B.Le (hp w) →
    B b1 = some (.cells [root].toArray 28) → B b2 = some (.cells [.int .i64 a].toArray 3) → B b3 = some (.cells [.int .i64 f].toArray 3) → B b4 = some (.cells [.int .i64 e].toArray 3) → TA t root B →
    Iter Try.prog 127 [.pointer (some ⟨b1, 0, none⟩), .pointer (some ⟨b2, 0, none⟩), .pointer (some ⟨b3, 0, none⟩), .pointer (some ⟨b4, 0, none⟩)] w B ((Tr.prs t a f e).map encP) := by
  intro t
  induction t with
  | nil =>
    intro a f e b1 b2 b3 b4 root w B ha hsz hB g1 g2 g3 g4 hv ly J stop C hst hY hJ hC
    obtain rfl : root = .pointer none := hv
    refine V_enterG 77 (J []) Try.func127 rfl Try.ntmps127 (Nat.le_of_ble_eq_true rfl) hB hJ hC ?_
    refine V_seq ?_; refine V_region (id := 0) ?_; refine vo_step (ok_box rfl rfl rfl rfl) rfl ?_; refine vo_nil ?_; refine N_seq ?_; refine V_seq ?_; refine V_seq ?_; refine V_regionD (id := 1) [] mixed (by kernel_rfl) ?_; refine par_step (ok_load1 L (src_base rfl (by assumption)) rfl rfl rfl rfl) rfl ?_; refine par_step (ok_neql rfl rfl rfl rfl nk28 rfl) rfl ?_; refine par_step (ok_move rfl rfl rfl) rfl ?_; refine par_step (ok_skip rfl (blt_lt rfl) rfl) rfl ?_; refine par_step (ok_skip rfl (blt_lt rfl) rfl) rfl ?_; refine par_step (ok_skip rfl (blt_lt rfl) rfl) rfl ?_; refine par_step (ok_skip rfl (blt_lt rfl) rfl) rfl ?_; refine par_step (ok_skip rfl (blt_lt rfl) rfl) rfl ?_; refine par_step (ok_skip rfl (blt_lt rfl) rfl) rfl ?_; refine par_step (ok_skip rfl (blt_lt rfl) rfl) rfl ?_; refine par_step (ok_skip rfl (blt_lt rfl) rfl) rfl ?_; refine par_step (ok_pick rfl rfl rfl rfl) rfl ?_; refine par_step (ok_move rfl rfl rfl) rfl ?_; refine par_step (ok_skip rfl (blt_lt rfl) rfl) rfl ?_; refine par_step (ok_skip rfl (blt_lt rfl) rfl) rfl ?_; refine par_step (ok_skip rfl (blt_lt rfl) rfl) rfl ?_; refine par_step (ok_pick rfl rfl rfl rfl) rfl ?_; refine par_nil ?_; refine N_seq ?_; refine V_true rfl ?_
    exact V_retGhost L 77 rfl (fun _ _ h => h) Since.refl rfl rfl
  | node k x l r ihl ihr =>
    intro a f e b1 b2 b3 b4 root w B ha hsz hB g1 g2 g3 g4 hv ly J stop C hst hY hJ hC
    obtain ⟨b, lv, rv, rfl, hb, hl, hr⟩ := hv
    have hsn : (Tr.node k x l r).size = l.size + 1 + r.size := rfl
    rw [hsn] at hsz
    refine V_enterG 77 (J []) Try.func127 rfl Try.ntmps127 (Nat.le_of_ble_eq_true rfl) hB hJ hC ?_
    by_cases h1 : a + ((Tr.node k x l r).size : Int) ≤ f
    · have hx : Tr.prs (.node k x l r) a f e = [] := if_pos (.inl h1)
      refine V_seq ?_; refine V_region (id := 0) ?_; refine vo_step (ok_box rfl rfl rfl rfl) rfl ?_; refine vo_nil ?_; refine N_seq ?_; refine V_seq ?_; refine V_seq ?_; refine V_regionD (id := 1) [] mixed (by kernel_rfl) ?_; refine par_step (ok_load1 L (src_base rfl (by assumption)) rfl rfl rfl rfl) rfl ?_; refine par_step (ok_neql rfl rfl rfl rfl nk28 rfl) rfl ?_; refine par_step (ok_move rfl rfl rfl) rfl ?_; refine par_step (ok_load1 L (src_base rfl (by assumption)) rfl rfl rfl rfl) rfl ?_; refine par_step (ok_load1 L (src_base rfl (by assumption)) rfl rfl rfl rfl) rfl ?_; refine par_step (ok_nil rfl rfl rfl) rfl ?_; refine par_step (ok_fieldP L rfl rfl rfl rfl) rfl ?_; refine par_step (ok_load1 L (src_base rfl (by assumption)) rfl rfl rfl rfl) rfl ?_; refine par_step (ok_add rfl rfl rfl rfl (wrap_i64 (by omega) (by omega))) rfl ?_; refine par_step (ok_load1 L (src_base rfl (by assumption)) rfl rfl rfl rfl) rfl ?_; refine par_step (ok_leq rfl rfl rfl rfl (decide_eq_true (by omega))) rfl ?_; refine par_step (ok_pick rfl rfl rfl rfl) rfl ?_; refine par_step (ok_move rfl rfl rfl) rfl ?_; refine par_step (ok_skip rfl (blt_lt rfl) rfl) rfl ?_; refine par_step (ok_skip rfl (blt_lt rfl) rfl) rfl ?_; refine par_step (ok_skip rfl (blt_lt rfl) rfl) rfl ?_; refine par_step (ok_pick rfl rfl rfl rfl) rfl ?_; refine par_nil ?_; refine N_seq ?_; refine V_true rfl ?_
      exact V_retGhost L 77 rfl (fun _ _ h => h) Since.refl rfl (by rw [hx]; rfl)
    · by_cases h2 : a ≥ e
      · have hx : Tr.prs (.node k x l r) a f e = [] := if_pos (.inr h2)
        refine V_seq ?_; refine V_region (id := 0) ?_; refine vo_step (ok_box rfl rfl rfl rfl) rfl ?_; refine vo_nil ?_; refine N_seq ?_; refine V_seq ?_; refine V_seq ?_; refine V_regionD (id := 1) [] mixed (by kernel_rfl) ?_; refine par_step (ok_load1 L (src_base rfl (by assumption)) rfl rfl rfl rfl) rfl ?_; refine par_step (ok_neql rfl rfl rfl rfl nk28 rfl) rfl ?_; refine par_step (ok_move rfl rfl rfl) rfl ?_; refine par_step (ok_load1 L (src_base rfl (by assumption)) rfl rfl rfl rfl) rfl ?_; refine par_step (ok_load1 L (src_base rfl (by assumption)) rfl rfl rfl rfl) rfl ?_; refine par_step (ok_nil rfl rfl rfl) rfl ?_; refine par_step (ok_fieldP L rfl rfl rfl rfl) rfl ?_; refine par_step (ok_load1 L (src_base rfl (by assumption)) rfl rfl rfl rfl) rfl ?_; refine par_step (ok_add rfl rfl rfl rfl (wrap_i64 (by omega) (by omega))) rfl ?_; refine par_step (ok_load1 L (src_base rfl (by assumption)) rfl rfl rfl rfl) rfl ?_; refine par_step (ok_leq rfl rfl rfl rfl (decide_eq_false (by omega))) rfl ?_; refine par_step (ok_pick rfl rfl rfl rfl) rfl ?_; refine par_step (ok_move rfl rfl rfl) rfl ?_; refine par_step (ok_load1 L (src_base rfl (by assumption)) rfl rfl rfl rfl) rfl ?_; refine par_step (ok_load1 L (src_base rfl (by assumption)) rfl rfl rfl rfl) rfl ?_; refine par_step (ok_geq rfl rfl rfl rfl (decide_eq_true (by omega))) rfl ?_; refine par_step (ok_pick rfl rfl rfl rfl) rfl ?_; refine par_nil ?_; refine N_seq ?_; refine V_true rfl ?_
        exact V_retGhost L 77 rfl (fun _ _ h => h) Since.refl rfl (by rw [hx]; rfl)
      · have hx : Tr.prs (.node k x l r) a f e = Tr.prs l a f e ++ ((if a + (l.size : Int) ≥ f ∧ a + (l.size : Int) < e then [(k, x)] else []) ++ Tr.prs r (a + l.size + 1) f e) :=
          if_neg (by rintro (h | h); exact h1 h; exact h2 h)
        rw [hx] at hY ⊢
        simp only [List.map_append] at hY ⊢
        refine V_seq ?_; refine V_region (id := 0) ?_; refine vo_step (ok_box rfl rfl rfl rfl) rfl ?_; refine vo_nil ?_; refine N_seq ?_; refine V_seq ?_; refine V_seq ?_; refine V_regionD (id := 1) [] mixed (by kernel_rfl) ?_; refine par_step (ok_load1 L (src_base rfl (by assumption)) rfl rfl rfl rfl) rfl ?_; refine par_step (ok_neql rfl rfl rfl rfl nk28 rfl) rfl ?_; refine par_step (ok_move rfl rfl rfl) rfl ?_; refine par_step (ok_load1 L (src_base rfl (by assumption)) rfl rfl rfl rfl) rfl ?_; refine par_step (ok_load1 L (src_base rfl (by assumption)) rfl rfl rfl rfl) rfl ?_; refine par_step (ok_nil rfl rfl rfl) rfl ?_; refine par_step (ok_fieldP L rfl rfl rfl rfl) rfl ?_; refine par_step (ok_load1 L (src_base rfl (by assumption)) rfl rfl rfl rfl) rfl ?_; refine par_step (ok_add rfl rfl rfl rfl (wrap_i64 (by omega) (by omega))) rfl ?_; refine par_step (ok_load1 L (src_base rfl (by assumption)) rfl rfl rfl rfl) rfl ?_; refine par_step (ok_leq rfl rfl rfl rfl (decide_eq_false (by omega))) rfl ?_; refine par_step (ok_pick rfl rfl rfl rfl) rfl ?_; refine par_step (ok_move rfl rfl rfl) rfl ?_; refine par_step (ok_load1 L (src_base rfl (by assumption)) rfl rfl rfl rfl) rfl ?_; refine par_step (ok_load1 L (src_base rfl (by assumption)) rfl rfl rfl rfl) rfl ?_; refine par_step (ok_geq rfl rfl rfl rfl (decide_eq_false (by omega))) rfl ?_; refine par_step (ok_pick rfl rfl rfl rfl) rfl ?_; refine par_nil ?_; refine N_seq ?_; refine V_false rfl ?_; refine V_skip ?_; refine N_seq ?_; refine V_seq ?_; refine V_regionD (id := 2) [] mixed (by kernel_rfl) ?_; refine par_step (ok_load1 L (src_base rfl (by assumption)) rfl rfl rfl rfl) rfl ?_; refine par_step (ok_load1 L (src_base rfl (by assumption)) rfl rfl rfl rfl) rfl ?_; refine par_step (ok_nil rfl rfl rfl) rfl ?_; refine par_step (ok_fieldP L rfl rfl rfl rfl) rfl ?_; refine par_step (ok_load1 L (src_base rfl (by assumption)) rfl rfl rfl rfl) rfl ?_; refine par_step (ok_callx L rfl rfl (blt_lt rfl) rfl rfl rfl (fun u H hH hle _ => IG.size_ret _ hH (IG.TA.le (by assumption) hle))) rfl ?_; refine par_step (ok_add rfl rfl rfl rfl (wrap_i64 (by omega) (by omega))) rfl ?_; refine par_step (ok_assign rfl rfl rfl) rfl ?_; refine par_nil ?_; refine N_seq ?_; refine V_seq ?_; refine V_seq ?_; refine V_regionD (id := 3) [] mixed (by kernel_rfl) ?_; refine par_step (ok_load1 L (src_base rfl (by assumption)) rfl rfl rfl rfl) rfl ?_; refine par_step (ok_nil rfl rfl rfl) rfl ?_; refine par_step (ok_fieldP L rfl rfl rfl rfl) rfl ?_; refine par_step (ok_load1 L (src_base rfl (by assumption)) rfl rfl rfl rfl) rfl ?_; refine par_step (ok_load1 L (src_base rfl (by assumption)) rfl rfl rfl rfl) rfl ?_; refine par_step (ok_load1 L (src_base rfl (by assumption)) rfl rfl rfl rfl) rfl ?_; refine par_step (ok_load1 L (src_base rfl (by assumption)) rfl rfl rfl rfl) rfl ?_; refine par_step (ok_call L rfl rfl (blt_lt rfl) rfl rfl rfl PairsAt.mono (fun u H hH hle _ => pairs_ret l a f e hH (TA.le hl hle))) rfl ?_; refine par_nil ?_; refine N_seq ?_; refine V_block ?_
        refine V_opn 5 rfl fun v5 H5 hs5 ⟨b5, e5, g5⟩ => ?_
        subst e5
        refine V_opn 40 rfl fun v40 H40 hs40 ⟨c1, c2, c3, c4, r1, e40, d1, d2, d3, d4, d5⟩ => ?_
        subst e40
        have hsB := hs5.trans hs40
        have gg5 := hs40.le _ _ g5
        refine V_rangeFunc L (gf := 127) (caps := [.pointer (some ⟨c1, 0, none⟩), .pointer (some ⟨c2, 0, none⟩), .pointer (some ⟨c3, 0, none⟩), .pointer (some ⟨c4, 0, none⟩)])
          [(1, .pointer (some ⟨b1, 0, none⟩)), (2, .pointer (some ⟨b2, 0, none⟩)), (3, .pointer (some ⟨b3, 0, none⟩)), (4, .pointer (some ⟨b4, 0, none⟩)), (5, .pointer (some ⟨b5, 0, none⟩)), (6, .int .i64 (a + l.size))]
          (fun pre => [(77, (J pre).res)]) (fun pre x => [(77, .own (J pre).res), (7, .own (Cell (cellsX x) 115)), (5, .is (.pointer (some ⟨b5, 0, none⟩)))])
          ((Tr.prs l a f e).map encP) stop (fun _ => .ret) rfl rfl rfl ⟨rfl, rfl, rfl, rfl, rfl, rfl, rfl, trivial⟩
          (fun pre p hp => by simp only [List.mem_singleton] at hp; subst hp; exact Nat.le_refl _) hst (fun x hx => by obtain ⟨y, _, rfl⟩ := List.mem_map.1 hx; rfl) (by decide)
          (fun u H hH hle => ihl a f e ha (by omega) hH (hle _ _ d1) (hle _ _ d2) (hle _ _ d3) (hle _ _ d4) (d5.le hle)) ?asg ?bd ?dn ?st
        case asg =>
          intro w1 Ln B' l' D' o pre x' hpre hstp hBB
          obtain ⟨y, rfl⟩ := encP_of hpre
          refine V_region (id := 4) ?_; refine vo_step (ok_alloc L rfl rfl rfl rfl) rfl ?_; refine vo_step (ok_store L rfl rfl rfl rfl rfl rfl rfl rfl) rfl ?_; refine vo_nil ?_
          exact N_has Since.refl ⟨rfl, rfl, rfl, trivial⟩
        case bd =>
          intro w1 Ln B' l' D' o pre x' hpre hstp hBB
          obtain ⟨y, rfl⟩ := encP_of hpre
          have q5 := hBB _ _ gg5
          have hpre' := hpre.trans (List.prefix_append ((Tr.prs l a f e).map encP) (((if a + (l.size : Int) ≥ f ∧ a + (l.size : Int) < e then [(k, x)] else [])).map encP ++ (Tr.prs r (a + l.size + 1) f e).map encP))
          cases hb' : stop (pre ++ [encP y])
          · refine V_block ?_; refine V_seq ?_; refine V_region (id := 5) ?_; refine vo_step (ok_load1 L (src_base rfl (by assumption)) rfl rfl rfl rfl) rfl ?_; refine vo_step (ok_loadA L (vs := [_, _, _, _]) (src_own rfl) rfl rfl rfl rfl ⟨_, rfl⟩) rfl ?_; refine vo_step2 (ok_yield (gs := 77) hY hpre' hstp (congrArg Bool.not hb') rfl rfl rfl rfl rfl) ?_; refine vo_step (ok_not rfl rfl rfl rfl) rfl ?_; refine vo_nil ?_; refine N_seq ?_; refine V_false rfl ?_; refine V_skip ?_; refine N_block ?_
            exact N_fin Since.refl hb' ⟨rfl, trivial⟩
          · refine V_block ?_; refine V_seq ?_; refine V_region (id := 5) ?_; refine vo_step (ok_load1 L (src_base rfl (by assumption)) rfl rfl rfl rfl) rfl ?_; refine vo_step (ok_loadA L (vs := [_, _, _, _]) (src_own rfl) rfl rfl rfl rfl ⟨_, rfl⟩) rfl ?_; refine vo_step2 (ok_yield (gs := 77) hY hpre' hstp (congrArg Bool.not hb') rfl rfl rfl rfl rfl) ?_; refine vo_step (ok_not rfl rfl rfl rfl) rfl ?_; refine vo_nil ?_; refine N_seq ?_; refine V_true rfl ?_
            exact V_rets (R_block (R_fin Since.refl hb' rfl ⟨rfl, trivial⟩))
        case st =>
          intro l' D' o hstop
          exact V_retGhost L 77 rfl (fun _ _ h => h) hsB rfl (by rw [taken_stop _ _ _ hstop hst])
        case dn =>
          intro l' D' o hgo
          have htk := taken_go (stop := stop) ((Tr.prs l a f e).map encP) [] hgo
          simp only [List.nil_append] at htk
          rw [htk] at hgo ⊢
          have gg1 := hsB.le _ _ g1
          have gg2 := hsB.le _ _ g2
          have gg3 := hsB.le _ _ g3
          have gg4 := hsB.le _ _ g4
          have ggb := hsB.le _ _ hb
          have ggr := TA.le hr hsB.le
          refine N_block ?_
          refine N_seq ?_
          refine V_seq_mid (fun M : Seqs => [(77, .own (J M).res), (1, .is (.pointer (some ⟨b1, 0, none⟩))), (2, .is (.pointer (some ⟨b2, 0, none⟩))), (3, .is (.pointer (some ⟨b3, 0, none⟩))), (4, .is (.pointer (some ⟨b4, 0, none⟩))), (5, .is (.pointer (some ⟨b5, 0, none⟩))), (6, .is (.int .i64 (a + l.size)))])
            (fun M => stop M = false ∧ taken stop [] M = M ∧ M ++ (Tr.prs r (a + l.size + 1) f e).map encP = (Tr.prs l a f e).map encP ++ (((if a + (l.size : Int) ≥ f ∧ a + (l.size : Int) < e then [(k, x)] else [])).map encP ++ (Tr.prs r (a + l.size + 1) f e).map encP)) ?one ?two
          case one =>
            by_cases hy1 : a + (l.size : Int) ≥ f
            · by_cases hy2 : a + (l.size : Int) < e
              · rw [if_pos ⟨hy1, hy2⟩] at hY ⊢
                have hpre : (Tr.prs l a f e).map encP ++ [encP (k, x)] <+: (Tr.prs l a f e).map encP ++ ([(k, x)].map encP ++ (Tr.prs r (a + l.size + 1) f e).map encP) := ⟨(Tr.prs r (a + l.size + 1) f e).map encP, by simp⟩
                cases hb' : stop ((Tr.prs l a f e).map encP ++ [encP (k, x)])
                · refine V_seq ?_; refine V_regionD (id := 6) [(60, [77])] mixed (by kernel_rfl) ?_; refine par_step (ok_move rfl rfl rfl) rfl ?_; refine par_step (ok_load1 L (src_base rfl (by assumption)) rfl rfl rfl rfl) rfl ?_; refine par_step (ok_geq rfl rfl rfl rfl (decide_eq_true (by omega))) rfl ?_; refine par_step (ok_move rfl rfl rfl) rfl ?_; refine par_step (ok_move rfl rfl rfl) rfl ?_; refine par_step (ok_load1 L (src_base rfl (by assumption)) rfl rfl rfl rfl) rfl ?_; refine par_step (ok_lss rfl rfl rfl rfl (decide_eq_true (by omega))) rfl ?_; refine par_step (ok_pick rfl rfl rfl rfl) rfl ?_; refine par_step (ok_move rfl rfl rfl) rfl ?_; refine par_step (ok_load1 L (src_base rfl (by assumption)) rfl rfl rfl rfl) rfl ?_; refine par_step (ok_load1 L (src_base rfl (by assumption)) rfl rfl rfl rfl) rfl ?_; refine par_step (ok_nil rfl rfl rfl) rfl ?_; refine par_step (ok_fieldP L rfl rfl rfl rfl) rfl ?_; refine par_step (ok_loadA L (vs := [_, _, _, _]) (src_base rfl (by assumption)) rfl rfl rfl rfl ⟨_, rfl⟩) rfl ?_; refine par_step2 (ok_yield (gs := 77) hY hpre hgo (congrArg Bool.not hb') rfl rfl rfl rfl rfl) rfl rfl ?_; refine par_step (ok_not rfl rfl rfl rfl) rfl ?_; refine par_step (ok_pick rfl rfl rfl rfl) rfl ?_; refine par_nil ?_; refine N_seq ?_; refine V_false rfl ?_; refine V_skip ?_
                  refine N_mid ((Tr.prs l a f e).map encP ++ [encP (k, x)]) Since.refl ⟨hb', ?_, by simp⟩ ⟨rfl, rfl, rfl, rfl, rfl, rfl, rfl, trivial⟩
                  rw [taken_more _ _ _ (by rw [htk]; exact hgo), List.nil_append]
                  simp only [taken]
                  split <;> rfl
                · refine V_seq ?_; refine V_regionD (id := 6) [(60, [77])] mixed (by kernel_rfl) ?_; refine par_step (ok_move rfl rfl rfl) rfl ?_; refine par_step (ok_load1 L (src_base rfl (by assumption)) rfl rfl rfl rfl) rfl ?_; refine par_step (ok_geq rfl rfl rfl rfl (decide_eq_true (by omega))) rfl ?_; refine par_step (ok_move rfl rfl rfl) rfl ?_; refine par_step (ok_move rfl rfl rfl) rfl ?_; refine par_step (ok_load1 L (src_base rfl (by assumption)) rfl rfl rfl rfl) rfl ?_; refine par_step (ok_lss rfl rfl rfl rfl (decide_eq_true (by omega))) rfl ?_; refine par_step (ok_pick rfl rfl rfl rfl) rfl ?_; refine par_step (ok_move rfl rfl rfl) rfl ?_; refine par_step (ok_load1 L (src_base rfl (by assumption)) rfl rfl rfl rfl) rfl ?_; refine par_step (ok_load1 L (src_base rfl (by assumption)) rfl rfl rfl rfl) rfl ?_; refine par_step (ok_nil rfl rfl rfl) rfl ?_; refine par_step (ok_fieldP L rfl rfl rfl rfl) rfl ?_; refine par_step (ok_loadA L (vs := [_, _, _, _]) (src_base rfl (by assumption)) rfl rfl rfl rfl ⟨_, rfl⟩) rfl ?_; refine par_step2 (ok_yield (gs := 77) hY hpre hgo (congrArg Bool.not hb') rfl rfl rfl rfl rfl) rfl rfl ?_; refine par_step (ok_not rfl rfl rfl rfl) rfl ?_; refine par_step (ok_pick rfl rfl rfl rfl) rfl ?_; refine par_nil ?_; refine N_seq ?_; refine V_true rfl ?_
                  refine V_retGhost L 77 rfl (fun _ _ h => h) hsB rfl ?_
                  rw [taken_more _ _ _ (by rw [htk]; exact hgo), List.nil_append]
                  simp only [List.map_cons, List.map_nil, List.cons_append, taken]
                  rw [if_pos hb']
              · rw [if_neg (by rintro ⟨_, h⟩; exact hy2 h)]
                refine V_seq ?_; refine V_regionD (id := 6) [(60, [77])] mixed (by kernel_rfl) ?_; refine par_step (ok_move rfl rfl rfl) rfl ?_; refine par_step (ok_load1 L (src_base rfl (by assumption)) rfl rfl rfl rfl) rfl ?_; refine par_step (ok_geq rfl rfl rfl rfl (decide_eq_true (by omega))) rfl ?_; refine par_step (ok_move rfl rfl rfl) rfl ?_; refine par_step (ok_move rfl rfl rfl) rfl ?_; refine par_step (ok_load1 L (src_base rfl (by assumption)) rfl rfl rfl rfl) rfl ?_; refine par_step (ok_lss rfl rfl rfl rfl (decide_eq_false (by omega))) rfl ?_; refine par_step (ok_pick rfl rfl rfl rfl) rfl ?_; refine par_step (ok_move rfl rfl rfl) rfl ?_; refine par_step (ok_skip rfl (blt_lt rfl) rfl) rfl ?_; refine par_step (ok_skip rfl (blt_lt rfl) rfl) rfl ?_; refine par_step (ok_skip rfl (blt_lt rfl) rfl) rfl ?_; refine par_step (ok_skip rfl (blt_lt rfl) rfl) rfl ?_; refine par_step (ok_skip rfl (blt_lt rfl) rfl) rfl ?_; refine par_step (ok_skip rfl (blt_lt rfl) rfl) rfl ?_; refine par_step (ok_skip rfl (blt_lt rfl) rfl) rfl ?_; refine par_step (ok_pick rfl rfl rfl rfl) rfl ?_; refine par_nil ?_; refine N_seq ?_; refine V_false rfl ?_; refine V_skip ?_
                exact N_mid ((Tr.prs l a f e).map encP) Since.refl ⟨hgo, htk, by simp⟩ ⟨rfl, rfl, rfl, rfl, rfl, rfl, rfl, trivial⟩
            · rw [if_neg (by rintro ⟨h, _⟩; exact hy1 h)]
              refine V_seq ?_; refine V_regionD (id := 6) [(60, [77])] mixed (by kernel_rfl) ?_; refine par_step (ok_move rfl rfl rfl) rfl ?_; refine par_step (ok_load1 L (src_base rfl (by assumption)) rfl rfl rfl rfl) rfl ?_; refine par_step (ok_geq rfl rfl rfl rfl (decide_eq_false (by omega))) rfl ?_; refine par_step (ok_move rfl rfl rfl) rfl ?_; refine par_step (ok_skip rfl (blt_lt rfl) rfl) rfl ?_; refine par_step (ok_skip rfl (blt_lt rfl) rfl) rfl ?_; refine par_step (ok_skip rfl (blt_lt rfl) rfl) rfl ?_; refine par_step (ok_pick rfl rfl rfl rfl) rfl ?_; refine par_step (ok_move rfl rfl rfl) rfl ?_; refine par_step (ok_skip rfl (blt_lt rfl) rfl) rfl ?_; refine par_step (ok_skip rfl (blt_lt rfl) rfl) rfl ?_; refine par_step (ok_skip rfl (blt_lt rfl) rfl) rfl ?_; refine par_step (ok_skip rfl (blt_lt rfl) rfl) rfl ?_; refine par_step (ok_skip rfl (blt_lt rfl) rfl) rfl ?_; refine par_step (ok_skip rfl (blt_lt rfl) rfl) rfl ?_; refine par_step (ok_skip rfl (blt_lt rfl) rfl) rfl ?_; refine par_step (ok_pick rfl rfl rfl rfl) rfl ?_; refine par_nil ?_; refine N_seq ?_; refine V_false rfl ?_; refine V_skip ?_
              exact N_mid ((Tr.prs l a f e).map encP) Since.refl ⟨hgo, htk, by simp⟩ ⟨rfl, rfl, rfl, rfl, rfl, rfl, rfl, trivial⟩
          case two =>
            rintro M ⟨hM1, hM2, hM3⟩
            rw [← hM3] at hY ⊢
            refine V_seq ?_; refine V_regionD (id := 7) [] mixed (by kernel_rfl) ?_; refine par_step (ok_load1 L (src_base rfl (by assumption)) rfl rfl rfl rfl) rfl ?_; refine par_step (ok_nil rfl rfl rfl) rfl ?_; refine par_step (ok_fieldP L rfl rfl rfl rfl) rfl ?_; refine par_step (ok_load1 L (src_base rfl (by assumption)) rfl rfl rfl rfl) rfl ?_; refine par_step (ok_move rfl rfl rfl) rfl ?_; refine par_step (ok_add rfl rfl rfl rfl (wrap_i64 (by omega) (by omega))) rfl ?_; refine par_step (ok_load1 L (src_base rfl (by assumption)) rfl rfl rfl rfl) rfl ?_; refine par_step (ok_load1 L (src_base rfl (by assumption)) rfl rfl rfl rfl) rfl ?_; refine par_step (ok_call L rfl rfl (blt_lt rfl) rfl rfl rfl PairsAt.mono (fun u H hH hle _ => pairs_ret r (a + l.size + 1) f e hH (TA.le ggr hle))) rfl ?_; refine par_nil ?_; refine N_seq ?_; refine V_block ?_
            refine V_opn 71 rfl fun v71 H71 hs71 ⟨c1, c2, c3, c4, r1, e71, d1, d2, d3, d4, d5⟩ => ?_
            subst e71
            have qq5 := hs71.le _ _ gg5
            have htot : taken stop [] (M ++ (Tr.prs r (a + l.size + 1) f e).map encP) = M ++ taken (fun p => stop (M ++ p)) [] ((Tr.prs r (a + l.size + 1) f e).map encP) := by
              rw [taken_more _ _ _ (by rw [hM2]; exact hM1), taken_shift, List.nil_append, List.append_nil]
            refine V_rangeFunc L (gf := 127) (caps := [.pointer (some ⟨c1, 0, none⟩), .pointer (some ⟨c2, 0, none⟩), .pointer (some ⟨c3, 0, none⟩), .pointer (some ⟨c4, 0, none⟩)])
              [(5, .pointer (some ⟨b5, 0, none⟩))]
              (fun pre => [(77, (J (M ++ pre)).res)]) (fun pre x => [(77, .own (J (M ++ pre)).res), (8, .own (Cell (cellsX x) 115)), (5, .is (.pointer (some ⟨b5, 0, none⟩)))])
              ((Tr.prs r (a + l.size + 1) f e).map encP) (fun p => stop (M ++ p)) (fun _ => .ret) rfl rfl rfl ⟨by rw [List.append_nil]; rfl, rfl, trivial⟩
              (fun pre p hp => by simp only [List.mem_singleton] at hp; subst hp; exact Nat.le_refl _) (by show stop (M ++ []) = false; rw [List.append_nil]; exact hM1) (fun x hx => by obtain ⟨y, _, rfl⟩ := List.mem_map.1 hx; rfl) (by decide)
              (fun u H hH hle => ihr (a + l.size + 1) f e (by omega) (by omega) hH (hle _ _ d1) (hle _ _ d2) (hle _ _ d3) (hle _ _ d4) (d5.le hle)) ?asg2 ?bd2 ?dn2 ?st2
            case asg2 =>
              intro w1 Ln B' l' D' o pre x' hpre hstp hBB
              obtain ⟨y, rfl⟩ := encP_of hpre
              refine V_region (id := 8) ?_; refine vo_step (ok_alloc L rfl rfl rfl rfl) rfl ?_; refine vo_step (ok_store L rfl rfl rfl rfl rfl rfl rfl rfl) rfl ?_; refine vo_nil ?_
              exact N_has Since.refl ⟨rfl, rfl, rfl, trivial⟩
            case bd2 =>
              intro w1 Ln B' l' D' o pre x' hpre hstp hBB
              obtain ⟨y, rfl⟩ := encP_of hpre
              have q5 := hBB _ _ qq5
              have hpre' : (M ++ pre) ++ [encP y] <+: M ++ (Tr.prs r (a + l.size + 1) f e).map encP := by rw [List.append_assoc]; exact (List.prefix_append_right_inj M).2 hpre
              cases hb' : stop ((M ++ pre) ++ [encP y])
              · refine V_block ?_; refine V_seq ?_; refine V_region (id := 9) ?_; refine vo_step (ok_load1 L (src_base rfl (by assumption)) rfl rfl rfl rfl) rfl ?_; refine vo_step (ok_loadA L (vs := [_, _, _, _]) (src_own rfl) rfl rfl rfl rfl ⟨_, rfl⟩) rfl ?_; refine vo_step2 (ok_yield (gs := 77) hY hpre' hstp (congrArg Bool.not hb') rfl rfl rfl rfl rfl) ?_; refine vo_step (ok_not rfl rfl rfl rfl) rfl ?_; refine vo_nil ?_; refine N_seq ?_; refine V_false rfl ?_; refine V_skip ?_; refine N_block ?_
                exact N_fin Since.refl (by rw [← List.append_assoc]; exact hb') ⟨by rw [← List.append_assoc]; rfl, trivial⟩
              · refine V_block ?_; refine V_seq ?_; refine V_region (id := 9) ?_; refine vo_step (ok_load1 L (src_base rfl (by assumption)) rfl rfl rfl rfl) rfl ?_; refine vo_step (ok_loadA L (vs := [_, _, _, _]) (src_own rfl) rfl rfl rfl rfl ⟨_, rfl⟩) rfl ?_; refine vo_step2 (ok_yield (gs := 77) hY hpre' hstp (congrArg Bool.not hb') rfl rfl rfl rfl rfl) ?_; refine vo_step (ok_not rfl rfl rfl rfl) rfl ?_; refine vo_nil ?_; refine N_seq ?_; refine V_true rfl ?_
                exact V_rets (R_block (R_fin Since.refl (by rw [← List.append_assoc]; exact hb') rfl ⟨by rw [← List.append_assoc]; rfl, trivial⟩))
            case st2 =>
              intro l' D' o hstop
              exact V_retGhost L 77 rfl (fun _ _ h => h) (hsB.trans hs71) rfl (by rw [htot])
            case dn2 =>
              intro l' D' o hgo2
              refine N_block ?_
              exact N_retGhost L 77 rfl (fun _ _ h => h) (hsB.trans hs71) rfl (by rw [htot])
end Go.V.IG
