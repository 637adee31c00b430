/- The walks of trees at int, countersign/api.Goal: lists of pairs. -/
import Derived.Test.YtpnmjelhnacmlaaTreeZIG
namespace Go.V.IG
open Go.Proofs Go.RowKit Go.V
abbrev tyP : TypeId := 115
abbrev tyS : TypeId := 112
/-- The cells of a list of pairs. -/
def flat (l : List (KT × VT)) : List Value := l.flatMap fun y => pl y.1 y.2
abbrev PS (l : List (KT × VT)) (fu : Bool) : Value → Heap → Prop := SlV tyP 4 (flat l) l.length fu
theorem flat_length (l : List (KT × VT)) : (flat l).length = l.length * 4 := by
  induction l with
  | nil => rfl
  | cons y l ih => simp only [flat, List.flatMap_cons, List.length_append, List.length_cons] at ih ⊢; rw [ih]; simp only [List.length_nil]; omega
theorem cells_flat : ∀ (pre : Seqs) (l : List (KT × VT)), pre <+: l.map encP → ∃ m : List (KT × VT), pre = m.map encP ∧ m.length = pre.length ∧ pre.flatMap cellsX = flat m := by
  intro pre l h
  refine ⟨l.take pre.length, ?_, ?_, ?_⟩
  · rw [List.map_take]; exact (List.prefix_iff_eq_take.1 h)
  · rw [List.length_take]
    have := h.length_le
    simp only [List.length_map] at this
    omega
  · conv => lhs; rw [List.prefix_iff_eq_take.1 h, ← List.map_take]
    generalize l.take pre.length = m
    induction m with
    | nil => rfl
    | cons y m ih => simp only [List.map_cons, List.flatMap_cons, flat] at ih ⊢; rw [ih]; rfl
theorem taken_never (xs : Seqs) : taken (fun _ => false) [] xs = xs := by
  have := taken_go (stop := fun _ => false) xs [] rfl
  simpa using this
attribute [local irreducible] V N X VO Par StepOK Has Ret RetL Src
theorem clip_ret (l : List (KT × VT)) (fu : Bool) {v : Value} {w : World} {B : Heap} (hB : B.Le (hp w)) (hv : PS l fu v B) : Ret Try.prog 103 [v] w B (PS l true) := by
  refine V_enter Try.func103 rfl Try.ntmps103 (Nat.le_of_ble_eq_true rfl) hB ?_
  refine V_seen 0 (PS l fu) rfl SlV.mono hv ?_
  refine V_seq ?_; refine V_region (id := 0) ?_; refine vo_step (ok_assign rfl rfl rfl) rfl ?_; refine vo_nil ?_; refine N_seq ?_; refine V_seq ?_; refine V_region (id := 1) ?_; refine vo_step (ok_moves' rfl rfl rfl) rfl ?_; refine vo_step (ok_moves' rfl rfl rfl) rfl ?_; refine vo_step (ok_lenV L rfl rfl rfl rfl) rfl ?_; refine vo_step (ok_moves' rfl rfl rfl) rfl ?_; refine vo_step (ok_lenV L rfl rfl rfl rfl) rfl ?_; refine vo_step (ok_clipV L rfl rfl rfl rfl rfl rfl rfl) rfl ?_; refine vo_step (ok_assigns' rfl rfl rfl) rfl ?_; refine vo_nil ?_; refine N_seq ?_
  refine V_ret L (rs := [.tmp 2]) rfl (fun _ _ h => h) Since.refl fun u H hH hle => ?_
  exact fun v hv => hv
set_option maxHeartbeats 1000000 in
theorem aseq_ret (l : List (KT × VT)) (hl : l.length < 1099511627776) {x : Value} {gf : Nat} {caps : List Value} {w : World} {B : Heap} {C : Nat → Prop} (hB : B.Le (hp w)) (hx : (SlR tyP 4 0 []).P x B w C) (hC : ∀ k, C k → k < w.heap.size ∧ B k = none)
    (hfn : L.fn gf = some ()) (hit : ∀ u H, H.Le (hp u) → B.Le H → Iter Try.prog gf caps u H (l.map encP)) :
    RetL Try.prog 104 [x, .func (.func gf) #[] caps.toArray] w B C (fun v H _ => PS l false v H) := by
  refine V_enterA 0 (x := x) (SlR tyP 4 0 []) rfl Try.func104 rfl Try.ntmps104 (Nat.le_of_ble_eq_true rfl) hB hx hC ?_
  refine V_detach 0 13 _ rfl SlR.shape fun y hy => ?_
  obtain ⟨p, c, rfl⟩ := hy
  refine V_seq ?_; refine V_region (id := 0) ?_; refine vo_step (ok_boxR rfl rfl rfl rfl) rfl ?_; refine vo_step (ok_assign rfl rfl rfl) rfl ?_; refine vo_nil ?_; refine N_seq ?_; refine V_seq ?_; refine V_seq ?_; refine V_region (id := 1) ?_; refine vo_step (ok_move rfl rfl rfl) rfl ?_; refine vo_nil ?_; refine N_seq ?_; refine V_block ?_
  refine V_box 2 rfl fun b2 hb2 => ?_
  refine V_closeBox 13 [] rfl rfl ?_
  refine V_rangeFunc L (gf := gf) (caps := caps) [(2, .pointer (some ⟨b2, 0, none⟩))] (fun pre => [(13, BoxR b2 tyS (SlR tyP 4 pre.length (pre.flatMap cellsX)))])
    (fun pre x => [(13, .own (BoxR b2 tyS (SlR tyP 4 pre.length (pre.flatMap cellsX)))), (2, .is (.pointer (some ⟨b2, 0, none⟩))), (5, .own (Cell (cellsX x) tyP))])
    (l.map encP) (fun _ => false) (fun _ => .ret) rfl rfl hfn ⟨rfl, rfl, trivial⟩
    (fun pre p hp => by simp only [List.mem_singleton] at hp; subst hp; exact Nat.le_refl _) rfl (fun x hx => by obtain ⟨y, _, rfl⟩ := List.mem_map.1 hx; rfl) (by decide) hit ?asg ?bd ?dn ?st
  case asg =>
    intro w1 Ln B' l' D' o pre x' hpre hstp hBB
    obtain ⟨y, rfl⟩ := encP_of hpre
    refine V_region (id := 2) ?_; refine vo_step (ok_alloc L rfl rfl rfl rfl) rfl ?_; refine vo_step (ok_store L rfl rfl rfl rfl rfl rfl rfl rfl) rfl ?_; refine vo_nil ?_
    exact N_has Since.refl ⟨rfl, rfl, rfl, trivial⟩
  case bd =>
    intro w1 Ln B' l' D' o pre x' hpre hstp hBB
    obtain ⟨y, rfl⟩ := encP_of hpre
    have hlen := hpre.length_le
    simp only [List.length_append, List.length_map, List.length_cons, List.length_nil] at hlen
    refine V_block ?_
    refine V_openBox 13 _ rfl SlR.shape fun z hz => ?_
    obtain ⟨p, c, rfl⟩ := hz
    refine V_region (id := 3) ?_; refine vo_step (ok_load1 L (src_box rfl (List.Mem.head _)) rfl rfl rfl rfl) rfl ?_; refine vo_attach 8 13 rfl rfl ?_; refine vo_step (ok_loadA L (vs := [_, _, _, _]) (src_own rfl) rfl rfl rfl rfl ⟨_, rfl⟩) rfl ?_; refine vo_step (ok_buildSlice L rfl rfl rfl rfl rfl rfl rfl rfl rfl) rfl ?_; refine vo_step2 (ok_append L rfl rfl rfl (apd_B rfl) rfl el115 rfl rfl (by omega) (by omega)) ?_; refine vo_detach 11 13 _ rfl SlR.shape fun z hz => ?_; obtain ⟨p', c', rfl⟩ := hz; refine box_store L (O1 := []) rfl rfl rfl rfl rfl rfl rfl rfl rfl ?_; refine vo_nil ?_; refine N_block ?_
    refine N_closeBox 13 [] rfl rfl ?_
    refine N_fin Since.refl rfl ⟨?_, trivial⟩
    rw [List.flatMap_append, List.length_append]
    rfl
  case st =>
    intro l' D' o h
    cases h
  case dn =>
    intro l' D' o _
    rw [taken_never]
    refine N_block ?_
    refine N_seq ?_
    refine V_openBox 13 _ rfl SlR.shape fun z hz => ?_
    obtain ⟨p, c, rfl⟩ := hz
    refine V_seq ?_; refine V_region (id := 4) ?_; refine vo_step (ok_load1 L (src_box rfl (List.Mem.head _)) rfl rfl rfl rfl) rfl ?_; refine vo_step (ok_assign rfl rfl rfl) rfl ?_; refine vo_nil ?_; refine N_seq ?_
    refine V_attach 4 13 rfl rfl ?_
    refine V_pubR 4 rfl ?_
    refine V_retM L (rs := [.tmp 4]) rfl (fun _ _ h => h) Since.refl fun O' u H hH hle => ?_
    obtain ⟨m, h1, h2, h3⟩ := cells_flat _ l (List.prefix_refl _)
    have hm : m = l := by
      have := List.map_inj_right (f := encP) (fun a b h => by
        simp only [encP, List.cons.injEq, Value.agg.injEq, and_true] at h
        have h := congrArg Array.toList h
        simp at h
        first | exact Prod.ext h.1 h.2 | exact Prod.ext h.1 (Prod.ext (Prod.ext h.2.1 h.2.2.1) h.2.2.2) | exact Prod.ext (Prod.ext (Prod.ext h.1 h.2.1) h.2.2.1) h.2.2.2) |>.1 h1
      exact this.symm
    subst hm
    rw [h3]
    simp only [List.length_map]
    exact fun v hv => hv
theorem PS.mono {l : List (KT × VT)} {fu : Bool} : Kn.mono (.sat (PS l fu)) := SlV.mono
theorem aseq_pairs {t : Tr KT VT} {f e : Int} {x v : Value} {w : World} {B : Heap} {C : Nat → Prop} (hB : B.Le (hp w)) (hx : (SlR tyP 4 0 []).P x B w C) (hC : ∀ k, C k → k < w.heap.size ∧ B k = none) (hv : PairsAt t 0 f e v B) (hs : t.size < 1099511627776) :
    RetL Try.prog 104 [x, v] w B C (fun v H _ => PS (Tr.prs t 0 f e) false v H) := by
  obtain ⟨b1, b2, b3, b4, root, rfl, h1, h2, h3, h4, h5⟩ := hv
  have hlen := Tr.prs_length_le t 0 f e
  exact aseq_ret (Tr.prs t 0 f e) (by omega) hB hx hC rfl fun u H hH hle => iter_ret t 0 f e (Int.le_refl _) (by omega) hH (hle _ _ h1) (hle _ _ h2) (hle _ _ h3) (hle _ _ h4) (h5.le hle)
theorem prs_range (t : Tr KT VT) {a f e : Int} : (Tr.prs t a f e).length ≤ t.size := Tr.prs_length_le t a f e
def rangeL (t : Tr KT VT) (f e : Int) : List (KT × VT) := if max f 0 ≥ min e t.size then [] else Tr.prs t 0 (max f 0) (min e t.size)
theorem max0 (f : Int) : (if 0 > f then 0 else f) = max f 0 := by omega
set_option maxRecDepth 10000 in
theorem range_ret {fv root : Value} {t : Tr KT VT} (f e : Int) {w : World} {B : Heap} (hB : B.Le (hp w)) (hv : TA t root B) (hs : t.size < 1099511627776) :
    Ret Try.prog 63 [.agg #[fv, root], .int .i64 f, .int .i64 e] w B (PS (rangeL t f e) true) := by
  refine V_enter Try.func63 rfl Try.ntmps63 (Nat.le_of_ble_eq_true rfl) hB ?_
  unfold rangeL
  by_cases h : max f 0 ≥ min e t.size
  · rw [if_pos h]
    refine V_seq ?_; refine V_region (id := 0) ?_; refine vo_step (ok_box rfl rfl rfl rfl) rfl ?_; refine vo_step (ok_assign rfl rfl rfl) rfl ?_; refine vo_nil ?_; refine N_seq ?_; refine V_seq ?_; refine V_region (id := 1) ?_; refine vo_step (ok_move rfl rfl rfl) rfl ?_; refine vo_step (ok_max rfl rfl rfl rfl rfl) rfl ?_; refine vo_step (ok_move rfl rfl rfl) rfl ?_; refine vo_step (ok_loadA L (vs := [_, _]) (src_at rfl) rfl rfl rfl rfl ⟨_, rfl⟩) rfl ?_; refine vo_step (ok_callx L rfl rfl (blt_lt rfl) rfl rfl rfl (fun u H hH hle _ => len_ret hH (hv.le hle))) rfl ?_; refine vo_step (ok_min rfl rfl rfl rfl rfl) rfl ?_; refine vo_step (ok_assign rfl rfl rfl) rfl ?_; refine vo_step (ok_assign rfl rfl rfl) rfl ?_; refine vo_nil ?_; refine N_seq ?_; refine V_seq ?_; refine V_seq ?_; refine V_region (id := 2) ?_; refine vo_step (ok_move rfl rfl rfl) rfl ?_; refine vo_step (ok_move rfl rfl rfl) rfl ?_; refine vo_step (ok_geq rfl rfl rfl rfl (decide_eq_true (by omega))) rfl ?_; refine vo_nil ?_; refine N_seq ?_; refine V_true rfl ?_; refine V_seq ?_; refine V_region (id := 3) ?_; refine vo_step (ok_assign rfl rfl rfl) rfl ?_; refine vo_nil ?_; refine N_seq ?_
    refine V_ret L (rs := [.tmp 6]) rfl (fun _ _ h => h) Since.refl fun u H hH hle => ?_
    exact (SlV.nil (e := tyP))
  · rw [if_neg h]
    have hlen := prs_range t (a := 0) (f := max f 0) (e := min e t.size)
    have e1 : (if (0 : Int) > f then 0 else f) = max f 0 := by omega
    have e2 : (if (t.size : Int) < e then (t.size : Int) else e) = min e t.size := by omega
    refine V_seq ?_; refine V_region (id := 0) ?_; refine vo_step (ok_box rfl rfl rfl rfl) rfl ?_; refine vo_step (ok_assign rfl rfl rfl) rfl ?_; refine vo_nil ?_; refine N_seq ?_; refine V_seq ?_; refine V_region (id := 1) ?_; refine vo_step (ok_move rfl rfl rfl) rfl ?_; refine vo_step (ok_max rfl rfl rfl rfl (by assumption)) rfl ?_; refine vo_step (ok_move rfl rfl rfl) rfl ?_; refine vo_step (ok_loadA L (vs := [_, _]) (src_at rfl) rfl rfl rfl rfl ⟨_, rfl⟩) rfl ?_; refine vo_step (ok_callx L rfl rfl (blt_lt rfl) rfl rfl rfl (fun u H hH hle _ => len_ret hH (hv.le hle))) rfl ?_; refine vo_step (ok_min rfl rfl rfl rfl (by assumption)) rfl ?_; refine vo_step (ok_assign rfl rfl rfl) rfl ?_; refine vo_step (ok_assign rfl rfl rfl) rfl ?_; refine vo_nil ?_; refine N_seq ?_; refine V_seq ?_; refine V_seq ?_; refine V_region (id := 2) ?_; refine vo_step (ok_move rfl rfl rfl) rfl ?_; refine vo_step (ok_move rfl rfl rfl) rfl ?_; refine vo_step (ok_geq rfl rfl rfl rfl (decide_eq_false (by omega))) rfl ?_; refine vo_nil ?_; refine N_seq ?_; refine V_false rfl ?_; refine V_skip ?_; refine N_seq ?_; refine V_seq ?_
    obtain ⟨m, hm⟩ : ∃ m : Nat, min e (t.size : Int) - max f 0 = m := ⟨(min e (t.size : Int) - max f 0).toNat, by omega⟩
    refine V_regionD (id := 4) [(25, [19])] mixed (by kernel_rfl) ?_; refine par_step (ok_move rfl rfl rfl) rfl ?_; refine par_step (ok_move rfl rfl rfl) rfl ?_; refine par_step (ok_sub rfl rfl rfl rfl (wrap_i64 (by omega) (by omega))) rfl ?_; refine par_step (ok_make0 L _ rfl rfl rfl el115 rfl rfl (by assumption) (by omega) (by simp only [maxLen]; omega)) rfl ?_; refine par_step (ok_fieldAt L rfl rfl rfl rfl) rfl ?_; refine par_step (ok_load1 L (src_at rfl) rfl rfl rfl rfl) rfl ?_; refine par_step (ok_move rfl rfl rfl) rfl ?_; refine par_step (ok_move rfl rfl rfl) rfl ?_; refine par_step (ok_call L rfl rfl (blt_lt rfl) rfl rfl rfl PairsAt.mono (fun u H hH hle _ => pairs_ret t 0 (max f 0) (min e t.size) hH (TA.le hv hle))) rfl ?_; refine par_step2 (ok_callT (q := 19) (cap := []) L rfl rfl rfl rfl rfl PS.mono (fun u H C x hH hle hx hC v hv => aseq_pairs hH hx hC hv hs)) rfl rfl ?_; refine par_step (ok_call L rfl rfl (blt_lt rfl) rfl rfl rfl PS.mono (fun u H hH hle _ v hv => clip_ret _ _ hH hv)) rfl ?_; refine par_step (ok_assigns' rfl rfl rfl) rfl ?_; refine par_nil ?_; refine N_seq ?_
    refine V_ret L (rs := [.tmp 6]) rfl (fun _ _ h => h) Since.refl fun u H hH hle => ?_
    exact fun v hv => hv
theorem all_ret {fv root : Value} {t : Tr KT VT} {w : World} {B : Heap} (hB : B.Le (hp w)) (hv : TA t root B) (hs : t.size < 1099511627776) :
    Ret Try.prog 65 [.agg #[fv, root]] w B (PS (rangeL t 0 t.size) true) := by
  refine V_enter Try.func65 rfl Try.ntmps65 (Nat.le_of_ble_eq_true rfl) hB ?_
  refine V_seq ?_; refine V_region (id := 0) ?_; refine vo_step (ok_box rfl rfl rfl rfl) rfl ?_; refine vo_step (ok_assign rfl rfl rfl) rfl ?_; refine vo_nil ?_; refine N_seq ?_; refine V_seq ?_; refine V_regionD (id := 1) [] mixed (by kernel_rfl) ?_; refine par_step (ok_loadA L (vs := [_, _]) (src_at rfl) rfl rfl rfl rfl ⟨_, rfl⟩) rfl ?_; refine par_step (ok_loadA L (vs := [_, _]) (src_at rfl) rfl rfl rfl rfl ⟨_, rfl⟩) rfl ?_; refine par_step (ok_callx L rfl rfl (blt_lt rfl) rfl rfl rfl (fun u H hH hle _ => len_ret hH (hv.le hle))) rfl ?_; refine par_step (ok_call L rfl rfl (blt_lt rfl) rfl rfl rfl PS.mono (fun u H hH hle _ => range_ret _ _ hH (hv.le hle) hs)) rfl ?_; refine par_step (ok_assigns' rfl rfl rfl) rfl ?_; refine par_nil ?_; refine N_seq ?_
  refine V_ret L (rs := [.tmp 2]) rfl (fun _ _ h => h) Since.refl fun u H hH hle => ?_
  exact fun v hv => hv
end Go.V.IG
